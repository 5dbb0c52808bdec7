/- Tell, at the input of wakes. -/
import Derived.Test.YtiffmigihhcgcaaGreatDoorConLineW
namespace Go.Proofs.YtiffmigihhcgcaaGreatDoor.ConW
set_option maxRecDepth 100000
set_option linter.constructorNameAsVariable false
set_option linter.unusedVariables false
open Go.RowKit ConP
open PathW (Strs strV strinfo ext_mid ext_drop str_list list_size Rds)
theorem dec_small {n : Nat} (h : n < 10) : Lib.decDigits n = [UInt8.ofNat (48 + n)] := by rw [Lib.decDigits, dif_pos h]
theorem itoa_60 : Lib.itoa 60 = [54, 48] := by
  rw [show (60 : Int) = ((60 : Nat) : Int) from rfl, itoa_nat, dec_step (by decide), dec_small (by decide)]; rfl
theorem itoa_1 : Lib.itoa 1 = [49] := by
  rw [show (1 : Int) = ((1 : Nat) : Int) from rfl, itoa_nat, dec_small (by decide)]; rfl
theorem itoa_is (n : Int) (l : Bs) (hl : Lib.itoa n = l) (h0 : -9223372036854775808 ≤ n) (h1 : n ≤ 9223372036854775807) (w : World) (h : CV w) : Calls Tryz.prog 21 #[.int .i64 n] w fun e w' => e = .returned (.string (bs l)) ∧ Below w.heap.size w w' := by
  rw [← hl]; exact itoa_any n h0 h1 w h
def doneC (a : Addr) : Array Value := #[.int .i64 60, .int .i64 0, .int .i64 0, .int .i64 0, .int .i64 0, .int .i64 0, .slice (some a) 1 1, .string ⟨#[]⟩]
theorem done_cells {w : World} {b : Nat} {a : Addr} (h : w.heap[b]? = some (.cells (doneC a) 48 (0, 0))) : w.cell? ⟨b, 0, none⟩ = some (.int .i64 60) ∧ w.cell? ⟨b, 1, none⟩ = some (.int .i64 0) ∧ w.cell? ⟨b, 2, none⟩ = some (.int .i64 0) ∧ w.cell? ⟨b, 3, none⟩ = some (.int .i64 0) ∧ w.cell? ⟨b, 4, none⟩ = some (.int .i64 0) ∧ w.cell? ⟨b, 5, none⟩ = some (.int .i64 0) ∧ w.cell? ⟨b, 6, none⟩ = some (.slice (some a) 1 1) ∧ w.cell? ⟨b, 7, none⟩ = some (.string ⟨#[]⟩) := by
  have e : ∀ i v, (doneC a)[i]? = some v → w.cell? ⟨b, i, none⟩ = some v := fun i v hv => by rw [Lib.cell_of_heap h]; exact hv
  exact ⟨e 0 _ rfl, e 1 _ rfl, e 2 _ rfl, e 3 _ rfl, e 4 _ rfl, e 5 _ rfl, e 6 _ rfl, e 7 _ rfl⟩
set_option maxHeartbeats 3200000 in
theorem tell_any {w : World} (a : Addr) (ha : a.block < w.heap.size) (hc : w.cell? a = some (.string ⟨#[97]⟩)) (hv : CV w) :
    Calls Tryz.prog 11 #[.agg (doneC a)] w fun e w' => e = .returned (.string ⟨#[54, 48, 32, 110, 32, 49, 32, 97]⟩) ∧ Below w.heap.size w w' := by
  obtain ⟨i0, hi, hz0, hz1, hz2⟩ := info_parts strinfo
  have HV := Lib.hid hv
  have HA := Lib.hid ha
  have HC := Lib.hid hc
  have HB0 := Lib.hid (below_alloc w (.cells (doneC a) 48))
  have HD0 : Hid ((w.alloc (.cells (doneC a) 48)).heap[w.heap.size]? = some (.cells (doneC a) 48 (0, 0))) := Lib.hid (heap_alloc_new _ _)
  clear hv ha hc
  show Calls _ _ #[.agg #[.int .i64 60, .int .i64 0, .int .i64 0, .int .i64 0, .int .i64 0, .int .i64 0, .slice (some a) 1 1, .string ⟨#[]⟩]] _ _
  go_enter Tryz.func11, Tryz.ntmps11
  go_wp2_with fail
  change Calls _ _ _ (w.alloc (.cells (doneC a) 48)) _
  generalize w.alloc (.cells (doneC a) 48) = w1 at *
  obtain ⟨db, hdb⟩ : ∃ db, db = w.heap.size := ⟨_, rfl⟩
  rw [← hdb] at HD0
  rw [← hdb]
  clear hdb
  refine (itoa_is 60 [54, 48] itoa_60 (by omega) (by omega) w1 (HV.out.keep HB0.out)).mono ?_
  rintro e w2 ⟨rfl, hb2⟩
  have HB2 : Hid (Below w.heap.size w w2) := Lib.hid (bstep' HB0.out hb2)
  have HD2 : Hid (w2.heap[db]? = some (.cells (doneC a) 48 (0, 0))) := Lib.hid ((hb2.block _ (lt_of_block HD0.out)).trans HD0.out)
  clear hb2
  have HST : Hid (Strs w2.heap.size (w2.alloc (.cells #[.string (bs [54, 48])] 9)) (.slice (some ⟨w2.heap.size, 0, none⟩) 1 1) [[54, 48]]) := Lib.hid (own_one w2 w2.heap.size _ (Nat.le_refl _))
  have HB3 := Lib.hid (below_alloc w2 (.cells #[.string (bs [54, 48])] 9))
  have hdc := done_cells ((HB3.out.block _ (lt_of_block HD2.out)).trans HD2.out)
  have hdc4 := done_cells (((bstep' HB3.out (below_alloc (w2.alloc (.cells #[.string (bs [54, 48])] 9)) (.cells #[.int .i64 0, .int .i64 0, .int .i64 0, .int .i64 0] 46))).block _ (lt_of_block HD2.out)).trans HD2.out)
  obtain ⟨g0, g1, g2, g3, g4, g5, g6, g7⟩ := hdc
  go_wp2_with fail
  change Code.wp _ _ _ _ ((w2.alloc (.cells #[.string (bs [54, 48])] 9)).alloc (.cells #[.int .i64 0, .int .i64 0, .int .i64 0, .int .i64 0] 46))
  have HB4 : Hid (Below w2.heap.size w2 ((w2.alloc (.cells #[.string (bs [54, 48])] 9)).alloc (.cells #[.int .i64 0, .int .i64 0, .int .i64 0, .int .i64 0] 46))) := Lib.hid (bstep' HB3.out (below_alloc _ _))
  have HST4 : Hid (Strs w2.heap.size ((w2.alloc (.cells #[.string (bs [54, 48])] 9)).alloc (.cells #[.int .i64 0, .int .i64 0, .int .i64 0, .int .i64 0] 46)) (.slice (some ⟨w2.heap.size, 0, none⟩) 1 1) [[54, 48]]) := Lib.hid (own_below HST.out (below_alloc _ _))
  have hb24 : w2.heap.size ≤ ((w2.alloc (.cells #[.string (bs [54, 48])] 9)).alloc (.cells #[.int .i64 0, .int .i64 0, .int .i64 0, .int .i64 0] 46)).heap.size := HB4.out.size
  have HLTD : Hid (db < w2.heap.size) := Lib.hid (lt_of_block HD2.out)
  clear g0 g1 g2 g3 g4 g5 g6 g7 hdc4
  generalize (w2.alloc (.cells #[.string (bs [54, 48])] 9)).alloc (.cells #[.int .i64 0, .int .i64 0, .int .i64 0, .int .i64 0] 46) = w4 at *
  have HLA : Hid (a.block < w2.heap.size) := Lib.hid (Nat.lt_of_lt_of_le HA.out HB2.out.size)
  have HC2 : Hid (w2.cell? a = some (.string ⟨#[97]⟩)) := Lib.hid ((HB2.out.cell HA.out).trans HC.out)
  have HWB : Hid (w.heap.size ≤ w2.heap.size) := Lib.hid HB2.out.size
  have HV4 := Lib.hid (HV.out.keep (bstep' HB2.out HB4.out))
  have HD4 : Hid (w4.heap[db]? = some (.cells (doneC a) 48 (0, 0))) := Lib.hid ((HB4.out.block _ HLTD.out).trans HD2.out)
  have HC4 : Hid (w4.cell? a = some (.string ⟨#[97]⟩)) := Lib.hid ((HB4.out.cell HLA.out).trans HC2.out)
  obtain ⟨B, hB⟩ : ∃ B, B = w2.heap.size := ⟨_, rfl⟩
  rw [← hB] at HST4 HLTD HLA HWB hb24
  rw [← hB]
  have HBW4 : Hid (Below w.heap.size w w4) := Lib.hid (bstep' HB2.out HB4.out)
  clear hB HD2 HC2 HB2 HB3 HB4 HST HD0 HB0 HV HA HC
  refine regionL 10 11 (fun W => Below B w4 W) (by kernel_rfl) rfl ?_
  have HS0 : Hid (Below B w4 w4.drew) := Lib.hid (Below.refl _ _).drew
  refine takeL 0 (some 42) (v := ?_) rfl (by kernel_rfl) (by kernel_rfl) (by kernel_rfl) (by kernel_rfl) (fun _ _ _ h => h) rfl rfl HS0.out ?_ ?_
  rotate_left
  · intro wq hq
    go_simp
    with_reducible rfl
  simp only [Act.put, List.setIfInBounds_toArray, List.set_cons_zero, List.set_cons_succ]
  refine takeL 1 (some 43) (v := ?_) rfl (by kernel_rfl) (by kernel_rfl) (by kernel_rfl) (by kernel_rfl) (fun _ _ _ h => h) rfl rfl HS0.out ?_ ?_
  rotate_left
  · intro wq hq
    go_simp
    with_reducible rfl
  simp only [Act.put, List.setIfInBounds_toArray, List.set_cons_zero, List.set_cons_succ]
  refine takeL 2 (some 44) (v := ?_) rfl (by kernel_rfl) (by kernel_rfl) (by kernel_rfl) (by kernel_rfl) (fun _ _ _ h => h) rfl rfl HS0.out ?_ ?_
  rotate_left
  · intro wq hq
    obtain ⟨g0, g1, g2, g3, g4, g5, g6, g7⟩ := done_cells ((hq.block db HLTD.out).trans HD4.out)
    go_simp
    with_reducible rfl
  simp only [Act.put, List.setIfInBounds_toArray, List.set_cons_zero, List.set_cons_succ]
  refine takeL 3 (some 45) (v := ?_) rfl (by kernel_rfl) (by kernel_rfl) (by kernel_rfl) (by kernel_rfl) (fun _ _ _ h => h) rfl rfl HS0.out ?_ ?_
  rotate_left
  · intro wq hq
    go_simp
    with_reducible rfl
  simp only [Act.put, List.setIfInBounds_toArray, List.set_cons_zero, List.set_cons_succ]
  refine takeL 7 (some 49) (v := ?_) rfl (by kernel_rfl) (by kernel_rfl) (by kernel_rfl) (by kernel_rfl) (fun _ _ _ h => h) rfl rfl HS0.out ?_ ?_
  rotate_left
  · intro wq hq
    go_simp
    with_reducible rfl
  simp only [Act.put, List.setIfInBounds_toArray, List.set_cons_zero, List.set_cons_succ]
  refine takeL 8 (some 50) (v := ?_) rfl (by kernel_rfl) (by kernel_rfl) (by kernel_rfl) (by kernel_rfl) (fun _ _ _ h => h) rfl rfl HS0.out ?_ ?_
  rotate_left
  · intro wq hq
    obtain ⟨g0, g1, g2, g3, g4, g5, g6, g7⟩ := done_cells ((hq.block db HLTD.out).trans HD4.out)
    go_simp
    with_reducible rfl
  simp only [Act.put, List.setIfInBounds_toArray, List.set_cons_zero, List.set_cons_succ]
  refine oneL 4 (by kernel_rfl) rfl rfl ?_
  refine wp_enters (some 46) (f := 21) (args := #[.int .i64 1]) rfl ?_ (.string (bs [49])) (fun W => Below w4.heap.size w4 W) ?_ ?_
  · go_simp
  · exact (itoa_is 1 [49] itoa_1 (by omega) (by omega) w4.drew (HV4.out.keep (Below.refl _ _).drew)).mono fun e w' ⟨h1, h2⟩ => ⟨h1, bstep' (Below.refl _ _).drew h2⟩
  intro w5 hb5
  have HB5 := Lib.hid hb5
  clear hb5
  refine ⟨fun _ => HB5.out.mono hb24, ?_⟩
  simp only [Act.put, List.setIfInBounds_toArray, List.set_cons_zero, List.set_cons_succ]
  refine oneL 5 (by kernel_rfl) rfl rfl ?_
  refine wp_runs (some 47) rfl (w' := w5.alloc (.cells #[.string ⟨#[110]⟩, .string (bs [49])] 9)) (v := .slice (some ⟨w5.heap.size, 0, none⟩) 2 2) ?_ ?_
  · go_simp
  have HB6 : Hid (Below w4.heap.size w4 (w5.alloc (.cells #[.string ⟨#[110]⟩, .string (bs [49])] 9))) := Lib.hid (bstep' HB5.out (below_alloc _ _))
  have HN6 := Lib.hid (heap_alloc_new w5 (.cells #[.string ⟨#[110]⟩, .string (bs [49])] 9))
  generalize w5.alloc (.cells #[.string ⟨#[110]⟩, .string (bs [49])] 9) = w6 at *
  generalize w5.heap.size = g6 at *
  refine ⟨fun _ => HB6.out.mono hb24, ?_⟩
  simp only [Act.put, List.setIfInBounds_toArray, List.set_cons_zero, List.set_cons_succ]
  refine oneL 6 (by kernel_rfl) rfl rfl ?_
  refine wp_append_both (some 48) rfl rfl (Operand.tmp 42) (Operand.tmp 47) 44 rfl B 9 i0 (.string ⟨#[]⟩) 1 16 Tryz.underlying44 hi hz0 hz1 hz2 rfl (by decide) (w6) (.slice (some ⟨B, 0, none⟩) 1 1) 1 ([[54, 48]].map strV) rfl (own_below HST4.out HB6.out) (some ⟨g6, 0, none⟩) 2 2 ([.string ⟨#[110]⟩, .string (bs [49])]) rfl (by simp) rfl (fun ad had j u hu => by injection had with had; subst had; exact World.news_of_block HN6.out j u hu) (by simp [Value.oneCell']) (by unfold maxLen; omega) (by omega) ?_ ?_
  · exact Nat.le_trans hb24 HB6.out.size
  intro oa7 cap7 w7 hown7 hbel7 _
  have HOWN7 := Lib.hid hown7
  have HB7 : Hid (Below B w4 w7) := Lib.hid ((HB6.out.mono hb24).trans hbel7)
  clear hown7 hbel7
  refine ⟨fun _ => HB7.out, ?_⟩
  simp only [Act.put, List.setIfInBounds_toArray, List.set_cons_zero, List.set_cons_succ]
  refine oneL 9 (by kernel_rfl) rfl rfl ?_
  refine wp_append_both (some 51) rfl rfl (Operand.tmp 48) (Operand.tmp 50) 44 rfl B 9 i0 (.string ⟨#[]⟩) 1 16 Tryz.underlying44 hi hz0 hz1 hz2 rfl (by decide) (w7) (.slice oa7 (1 + 2) cap7) (1 + 2) ([[54, 48]].map strV ++ [.string ⟨#[110]⟩, .string (bs [49])]) rfl (HOWN7.out) (some a) 1 1 ([.string ⟨#[97]⟩]) rfl (by simp) rfl (fun ad had j u hu => by injection had with had; subst had; match j, hu with | 0, hu => (injection hu with hu; subst hu; rw [add_zero']; exact (HB7.out.cell HLA.out).trans HC4.out) | j + 1, hu => simp at hu) (by simp [Value.oneCell']) (by unfold maxLen; omega) (by omega) ?_ ?_
  · exact Nat.le_trans hb24 HB7.out.size
  intro oa8 cap8 w8 hown8 hbel8 _
  have HOWN8 := Lib.hid hown8
  have HB8 : Hid (Below B w4 w8) := Lib.hid (HB7.out.trans hbel8)
  clear hown8 hbel8
  refine ⟨fun _ => HB8.out, ?_⟩
  simp only [Act.put, List.setIfInBounds_toArray, List.set_cons_zero, List.set_cons_succ]
  refine oneL 10 (by kernel_rfl) rfl rfl ?_
  refine wp_runs (some 3) rfl (w' := w8) (v := .slice oa8 (1 + 2 + 1) cap8) ?_ ?_
  · go_simp
  refine ⟨fun h => absurd rfl h, ?_⟩
  simp only [Act.put, List.setIfInBounds_toArray, List.set_cons_zero, List.set_cons_succ]
  refine doneL (by kernel_rfl) ?_
  simp only [Exit.then]
  have HST8 : Hid (Strs B w8 (.slice oa8 4 cap8) [[54, 48], [110], [49], [97]]) := Lib.hid HOWN8.out
  have HR8 := Lib.hid (Rds.of_strs HST8.out)
  have HCAP := Lib.hid (Strs.cap HST8.out).2
  have HBW8 : Hid (Below w.heap.size w w8) := Lib.hid (HBW4.out.trans (HB8.out.mono HWB.out))
  obtain ⟨g0, g1, g2, g3, g4, g5, g6, g7⟩ := done_cells ((HB8.out.block db HLTD.out).trans HD4.out)
  go_wp2_with fail
  clear g0 g1 g2 g3 g4 g5 g6 g7
  refine (joinw_any [[54, 48], [110], [49], [97]] (by decide) (by decide) oa8 cap8 HCAP.out w8 HR8.out).mono ?_
  rintro e w9 ⟨rfl, hb9⟩
  have HB9 := Lib.hid (bstep' HBW8.out hb9)
  clear hb9
  go_wp2_with fail
  go_ret
  exact ⟨rfl, HB9.out⟩
end Go.Proofs.YtiffmigihhcgcaaGreatDoor.ConW
