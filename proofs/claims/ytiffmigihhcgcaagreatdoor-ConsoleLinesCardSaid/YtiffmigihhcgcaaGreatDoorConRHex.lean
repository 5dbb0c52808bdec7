/- The document's hexadecimal text. -/
import Derived.Test.YtiffmigihhcgcaaGreatDoorConBuild
import Derived.Test.YtiffmigihhcgcaaGreatDoorOpDraw
namespace Go.Proofs.YtiffmigihhcgcaaGreatDoor.ConW
set_option maxRecDepth 100000
set_option linter.constructorNameAsVariable false
set_option linter.unusedVariables false
open Go.RowKit ConP
theorem wp_append_at (d : Option Tmp) {P : Program} {o : Oper} {a : Act} {K : Act → World → Prop} {Q : Exit → Act → World → Prop} (hd : o.dst = d) (s x : Operand) (t : TypeId)
    (ho : o.op = .call { callee := .builtin .append, args := #[s, x], argTypes := #[t, t] })
    (base : Nat) (e : TypeId) (i : TypeInfo) (z : Value) (size bytes : Nat) (ht : P.underlying t = some (.slice e)) (hi : P.info? e = some i) (hz : i.zero = some z)
    (hsize : i.size = size) (hby : i.bytes = bytes) (hzs : z.cells.size = size) (hsz : 0 < size)
    (W : World) (v : Value) (n : Nat) (xs : List Value) (hs : a.eval s = v) (hown : W.ownsRow base e size v n xs)
    (ad : Addr) (m c : Nat) (news : List Value) (hx : a.eval x = .slice (some ad) m c)
    (hl : news.length = m * size) (hnews : ∀ j u, news[j]? = some u → W.cell? (ad.add j) = some u) (h1 : ∀ u ∈ news, u.oneCell' = true)
    (h63 : n + m ≤ maxLen) (hbytes : (n + m) * bytes ≤ 140737488355328) (hbase : base ≤ W.heap.size)
    (h : ∀ oa' cap' w', w'.ownsRow base e size (.slice oa' (n + m) cap') (n + m) (xs ++ news) → W.grownBy w' v.ownBlock → ((Value.slice oa' (n + m) cap').ownBlock = v.ownBlock ∨ (Value.slice oa' (n + m) cap').ownBlock = some W.heap.size) → K (a.put d (.slice oa' (n + m) cap')) w') : o.wp P a W K Q := by
  subst hd
  obtain ⟨v', w', hr, h2, h3, _, h5⟩ := run_append_own_at (P := P) W base t o.type e i z size bytes ht hi hz hsize hby hzs hsz v n xs hown ad m c news hl hnews h1 h63 hbytes hbase
  obtain ⟨oa', cap', rfl⟩ := row_form h2
  unfold Oper.wp execOp
  simp only [ho, resolve, invoke, builtin, Sem.run_bind, Sem.run_pure, Result.andThen_ok, List.map_toArray, List.map_cons, List.map_nil, hs, hx, hr]
  exact h oa' cap' w' h2 h3 h5
set_option maxHeartbeats 3200000 in
theorem rhex_any (s : ByteArray) (hs : s.size ≤ 1000000) (w : World) :
    Calls Tryz.prog 27 #[.string s] w fun e w' => e = .returned (.string (bs (hexS s.data.toList))) ∧ Below w.heap.size w w' := by
  have hlen := PathW.list_size s
  by_cases h0 : s.data.toList = []
  · have h1 : (s.toList == []) = true := by rw [Lib.toList_data, h0]; rfl
    have HS : Hid (hexS s.data.toList = [45]) := Lib.hid (by rw [h0]; rfl)
    clear h0 hlen
    go_enter Tryz.func27, Tryz.ntmps27
    go_wp2_with fail
    go_ret
    exact ⟨by rw [HS.out]; rfl, Below.refl _ _⟩
  · have h1 : (s.toList == []) = false := by rw [Lib.toList_data, beq_eq_false_iff_ne]; exact h0
    have HS : Hid (hexS s.data.toList = hexB s.data.toList) := Lib.hid (if_neg h0)
    have HNE : Hid (s.data.toList ≠ []) := Lib.hid h0
    have HLEN := Lib.hid hlen
    have GET := Lib.hid (PathW.getD_at s)
    obtain ⟨i0, hi, hz0, hz1, hz2⟩ := info_parts u8info
    clear h0 hlen
    go_enter Tryz.func27, Tryz.ntmps27
    go_wp2_with fail
    clear h1
    go_loopw [3, 4] (fun v i wr => ∃ (k : Nat), k ≤ s.size ∧ i = .int .i64 (k : Int) ∧ wr.ownsRow w.heap.size 5 1 v (hexB (s.data.toList.take k)).length (Lib.byteCells (hexB (s.data.toList.take k))) ∧ Below w.heap.size w wr) (fun _ i _ => s.size - (intOf i).toNat)
    case atStart => exact ⟨0, by omega, rfl, World.ownsRow_nil _ _ _ _, Below.refl _ _⟩
    case round =>
      obtain ⟨k, hk, rfl, hown, hbel⟩ := hrel
      obtain ⟨oa, cap, rfl⟩ := row_form hown
      have HOWN := Lib.hid hown
      have HB := Lib.hid hbel
      clear hown hbel
      by_cases hlt : k < s.size
      · have hk1 : (k : Int) < (s.size : Int) := by omega
        obtain ⟨c, hc⟩ : ∃ c, c = s[k]'hlt := ⟨_, rfl⟩
        obtain ⟨hi', hhi⟩ : ∃ hi : Nat, hi = c.toNat / 16 := ⟨_, rfl⟩
        obtain ⟨lo, hlo⟩ : ∃ lo : Nat, lo = c.toNat % 16 := ⟨_, rfl⟩
        have h16 : c.toNat < 256 := c.toNat_lt
        have e1 : ((c.toNat : Int) / 16) = (hi' : Int) := by rw [hhi]; rfl
        have e2 : bits .and .u8 (c.toNat : Int) 15 = (lo : Int) := (by rw [hlo]; exact and_is c)
        have G0 : Hid (∀ W : World, (Instr.index 9 (.string s) (.int .i64 (k : Int))).run Tryz.prog W = .ok (.int .u8 (c.toNat : Int)) W) := Lib.hid (fun W => idx_is s k hlt c hc.symm W)
        have G1 : Hid (∀ W : World, (Instr.index 9 (.string ⟨#[48, 49, 50, 51, 52, 53, 54, 55, 56, 57, 97, 98, 99, 100, 101, 102]⟩) (.int .u8 (hi' : Int))).run Tryz.prog W = .ok (.int .u8 ((hexD hi').toNat : Int)) W) := Lib.hid (fun W => idx_dig hi' (by omega) W)
        have G2 : Hid (∀ W : World, (Instr.index 9 (.string ⟨#[48, 49, 50, 51, 52, 53, 54, 55, 56, 57, 97, 98, 99, 100, 101, 102]⟩) (.int .u8 (lo : Int))).run Tryz.prog W = .ok (.int .u8 ((hexD lo).toNat : Int)) W) := Lib.hid (fun W => idx_dig lo (by omega) W)
        have HNX : Hid (hexB (s.data.toList.take (k + 1)) = hexB (s.data.toList.take k) ++ [hexD hi'] ++ [hexD lo]) := Lib.hid (by
          rw [hhi, hlo]
          apply hexB_take
          rw [hc, ← GET.out k hlt]
          rw [List.getD_eq_getElem?_getD, List.getElem?_eq_getElem (by rw [HLEN.out]; exact hlt)]
          rfl)
        have HLB : Hid ((hexB (s.data.toList.take k)).length ≤ 2 * s.size) := Lib.hid (by rw [hexB_len, List.length_take, HLEN.out]; omega)
        generalize hexB (s.data.toList.take k) = acc at *
        generalize hexD hi' = d1 at *
        generalize hexD lo = d2 at *
        clear hhi hlo hc h16
        go_wp2_with fail
        have HS0 : Hid (Below w.heap.size w wr.drew) := Lib.hid HB.out.drew
        have HOWN0 : Hid (wr.drew.ownsRow w.heap.size 5 1 (.slice oa acc.length cap) acc.length (Lib.byteCells acc)) := Lib.hid HOWN.out
        refine regionL 13 14 (fun W => Below w.heap.size w W) (by kernel_rfl) rfl ?_
        refine takeL 0 (some 13) (v := ?_) rfl (by kernel_rfl) (by kernel_rfl) (by kernel_rfl) (by kernel_rfl) (fun _ _ _ h => h) rfl rfl HS0.out ?_ ?_
        rotate_left
        · intro wq hq
          have g0 := G0.out wq
          have g1 := G1.out wq
          have g2 := G2.out wq
          go_simp
          with_reducible rfl
        simp only [Act.put, List.setIfInBounds_toArray, List.set_cons_zero, List.set_cons_succ]
        refine takeL 1 (some 14) (v := ?_) rfl (by kernel_rfl) (by kernel_rfl) (by kernel_rfl) (by kernel_rfl) (fun _ _ _ h => h) rfl rfl HS0.out ?_ ?_
        rotate_left
        · intro wq hq
          have g0 := G0.out wq
          have g1 := G1.out wq
          have g2 := G2.out wq
          go_simp
          with_reducible rfl
        simp only [Act.put, List.setIfInBounds_toArray, List.set_cons_zero, List.set_cons_succ]
        refine takeL 2 (some 15) (v := ?_) rfl (by kernel_rfl) (by kernel_rfl) (by kernel_rfl) (by kernel_rfl) (fun _ _ _ h => h) rfl rfl HS0.out ?_ ?_
        rotate_left
        · intro wq hq
          have g0 := G0.out wq
          have g1 := G1.out wq
          have g2 := G2.out wq
          go_simp
          with_reducible rfl
        simp only [Act.put, List.setIfInBounds_toArray, List.set_cons_zero, List.set_cons_succ]
        refine takeL 3 (some 16) (v := ?_) rfl (by kernel_rfl) (by kernel_rfl) (by kernel_rfl) (by kernel_rfl) (fun _ _ _ h => h) rfl rfl HS0.out ?_ ?_
        rotate_left
        · intro wq hq
          have g0 := G0.out wq
          have g1 := G1.out wq
          have g2 := G2.out wq
          go_simp
          with_reducible rfl
        simp only [Act.put, List.setIfInBounds_toArray, List.set_cons_zero, List.set_cons_succ]
        refine takeL 4 (some 17) (v := ?_) rfl (by kernel_rfl) (by kernel_rfl) (by kernel_rfl) (by kernel_rfl) (fun _ _ _ h => h) rfl rfl HS0.out ?_ ?_
        rotate_left
        · intro wq hq
          have g0 := G0.out wq
          have g1 := G1.out wq
          have g2 := G2.out wq
          go_simp
          with_reducible rfl
        simp only [Act.put, List.setIfInBounds_toArray, List.set_cons_zero, List.set_cons_succ]
        refine takeL 5 (some 18) (v := ?_) rfl (by kernel_rfl) (by kernel_rfl) (by kernel_rfl) (by kernel_rfl) (fun _ _ _ h => h) rfl rfl HS0.out ?_ ?_
        rotate_left
        · intro wq hq
          have g0 := G0.out wq
          have g1 := G1.out wq
          have g2 := G2.out wq
          go_simp
          with_reducible rfl
        simp only [Act.put, List.setIfInBounds_toArray, List.set_cons_zero, List.set_cons_succ]
        refine takeL 6 (some 19) (v := ?_) rfl (by kernel_rfl) (by kernel_rfl) (by kernel_rfl) (by kernel_rfl) (fun _ _ _ h => h) rfl rfl HS0.out ?_ ?_
        rotate_left
        · intro wq hq
          have g0 := G0.out wq
          have g1 := G1.out wq
          have g2 := G2.out wq
          go_simp
          with_reducible rfl
        simp only [Act.put, List.setIfInBounds_toArray, List.set_cons_zero, List.set_cons_succ]
        refine takeL 7 (some 20) (v := ?_) rfl (by kernel_rfl) (by kernel_rfl) (by kernel_rfl) (by kernel_rfl) (fun _ _ _ h => h) rfl rfl HS0.out ?_ ?_
        rotate_left
        · intro wq hq
          have g0 := G0.out wq
          have g1 := G1.out wq
          have g2 := G2.out wq
          go_simp
          with_reducible rfl
        simp only [Act.put, List.setIfInBounds_toArray, List.set_cons_zero, List.set_cons_succ]
        refine takeL 8 (some 21) (v := ?_) rfl (by kernel_rfl) (by kernel_rfl) (by kernel_rfl) (by kernel_rfl) (fun _ _ _ h => h) rfl rfl HS0.out ?_ ?_
        rotate_left
        · intro wq hq
          have g0 := G0.out wq
          have g1 := G1.out wq
          have g2 := G2.out wq
          go_simp
          with_reducible rfl
        simp only [Act.put, List.setIfInBounds_toArray, List.set_cons_zero, List.set_cons_succ]
        refine takeL 9 (some 22) (v := ?_) rfl (by kernel_rfl) (by kernel_rfl) (by kernel_rfl) (by kernel_rfl) (fun _ _ _ h => h) rfl rfl HS0.out ?_ ?_
        rotate_left
        · intro wq hq
          have g0 := G0.out wq
          have g1 := G1.out wq
          have g2 := G2.out wq
          go_simp
          with_reducible rfl
        simp only [Act.put, List.setIfInBounds_toArray, List.set_cons_zero, List.set_cons_succ]
        refine takeL 10 (some 23) (v := ?_) rfl (by kernel_rfl) (by kernel_rfl) (by kernel_rfl) (by kernel_rfl) (fun _ _ _ h => h) rfl rfl HS0.out ?_ ?_
        rotate_left
        · intro wq hq
          have g0 := G0.out wq
          have g1 := G1.out wq
          have g2 := G2.out wq
          go_simp
          with_reducible rfl
        simp only [Act.put, List.setIfInBounds_toArray, List.set_cons_zero, List.set_cons_succ]
        generalize wr.drew = w0 at *
        refine oneL 11 (by kernel_rfl) rfl rfl (wp_runs (some 24) (v := .slice (some ⟨w0.heap.size, 0, none⟩) 2 2) (w' := w0.alloc (.cells #[.int .u8 (d1.toNat : Int), .int .u8 (d2.toNat : Int)] 5)) rfl (by go_simp) ⟨fun _ => HS0.out.alloc HS0.out.size _, ?_⟩)
        simp only [Act.put, List.setIfInBounds_toArray, List.set_cons_zero, List.set_cons_succ]
        have HB1 : Hid (Below w.heap.size w (w0.alloc (.cells #[.int .u8 (d1.toNat : Int), .int .u8 (d2.toNat : Int)] 5))) := Lib.hid (HS0.out.alloc HS0.out.size _)
        refine oneL 12 (by kernel_rfl) rfl rfl (wp_append_at (some 25) rfl _ _ 79 rfl w.heap.size 5 i0 (.int .u8 0) 1 1 Tryz.underlying79 hi hz0 hz1 hz2 rfl (by decide) _ (.slice oa acc.length cap) acc.length (Lib.byteCells acc) rfl (HOWN0.out.alloc _) ⟨w0.heap.size, 0, none⟩ 2 2 [.int .u8 (d1.toNat : Int), .int .u8 (d2.toNat : Int)] rfl rfl (World.news_of_block (heap_alloc_new w0 _)) (by simp [Value.oneCell']) (by unfold maxLen; have := HLB.out; omega) (by have := HLB.out; omega) HB1.out.size ?_)
        intro oa5 cap5 w5 hown5 hg5 hv5
        have hb5 : Below w.heap.size w w5 := HS0.out.trans (below_of_grown (grown_from_alloc (o := .cells #[.int .u8 (d1.toNat : Int), .int .u8 (d2.toNat : Int)] 5) ⟨hg5.os, hg5.tape, hg5.output, hg5.size, hg5.block⟩) HOWN0.out HS0.out.size)
        have HB5 := Lib.hid hb5
        have HOWN5 : Hid (w5.ownsRow w.heap.size 5 1 (.slice oa5 (acc.length + 2) cap5) (acc ++ [d1] ++ [d2]).length (Lib.byteCells (acc ++ [d1] ++ [d2]))) := Lib.hid (by
          rw [Lib.byteCells_append, Lib.byteCells_append, List.append_assoc, List.length_append, List.length_append, List.append_assoc]
          exact hown5)
        clear hown5 hg5 hv5 hb5
        refine ⟨fun _ => HB5.out, ?_⟩
        simp only [Act.put, List.setIfInBounds_toArray, List.set_cons_zero, List.set_cons_succ]
        refine oneL 13 (by kernel_rfl) rfl rfl (wp_runs (some 3) (v := .slice oa5 (acc.length + 2) cap5) (w' := w5) rfl (by go_simp) ⟨fun h => absurd rfl h, ?_⟩)
        simp only [Act.put, List.setIfInBounds_toArray, List.set_cons_zero, List.set_cons_succ]
        refine doneL (by kernel_rfl) ?_
        try simp only [Exit.then]
        go_wp2_with fail
        exact ⟨⟨k + 1, by omega, by simp, by rw [HNX.out]; exact HOWN5.out, HB5.out⟩, by simp [intOf]; omega⟩
      · obtain rfl : k = s.size := by omega
        have HTA : Hid (s.data.toList.take s.size = s.data.toList) := Lib.hid (List.take_of_length_le (by rw [HLEN.out]; exact Nat.le_refl _))
        have hown := HOWN.out
        rw [HTA.out] at hown
        have hne : hexB s.data.toList ≠ [] := by
          intro e
          have := congrArg List.length e
          rw [hexB_len] at this
          rw [List.length_nil] at this
          exact HNE.out (List.eq_nil_of_length_eq_zero (by omega))
        rw [HTA.out] at HOWN ⊢
        obtain ⟨acc, hacc⟩ : ∃ acc, acc = hexB s.data.toList := ⟨_, rfl⟩
        have HAC : Hid (acc = hexB s.data.toList) := Lib.hid hacc
        rw [← hacc] at hown HOWN hne ⊢
        clear hacc
        obtain ⟨g, hg, hnl, hba⟩ := bytes_at hown hne
        subst hg
        have hcv := conv_of_bytes (P := Tryz.prog) wr 79 9 5 g acc.length cap _ Tryz.underlying79 Tryz.underlying5 Tryz.underlying9 hba
        rw [bytesStr_list] at hcv
        obtain ⟨r, hr⟩ : ∃ r, r = bs acc := ⟨_, rfl⟩
        rw [← hr] at hcv
        have HR : Hid (bs (hexS s.data.toList) = r) := Lib.hid (by rw [HS.out, ← HAC.out, hr])
        obtain ⟨q, hq⟩ : ∃ q, q = acc.length := ⟨_, rfl⟩
        rw [← hq] at hcv ⊢
        clear hown hne hnl hba hr HOWN hq hlt hk
        go_wp2_with fail
        go_ret
        exact ⟨congrArg (fun x => Ending.returned (.string x)) HR.out.symm, HB.out⟩
end Go.Proofs.YtiffmigihhcgcaaGreatDoor.ConW
