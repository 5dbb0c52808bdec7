/- ConsoleWords. -/
import Derived.Test.YtiffmigihhcgcaaDoorConLaws
namespace Go.Proofs.YtiffmigihhcgcaaDoor.ConW
set_option maxRecDepth 100000
set_option linter.constructorNameAsVariable false
set_option linter.unusedVariables false
open Go.RowKit ConP OpP OpW
def tickT (n : Nat) : Bs := 116 :: 32 :: Lib.decDigits n
theorem tickT_len (n : Nat) (h : n < 65536) : 3 ≤ (tickT n).length ∧ (tickT n).length ≤ 11 := by
  have h1 := dec_short (u := n) (by omega)
  have h2 : 0 < (Lib.decDigits n).length := List.length_pos_iff.2 (dec_ne n)
  unfold tickT
  simp only [List.length_cons]
  omega
set_option maxHeartbeats 3200000 in
theorem words_walk0 (m : Nat) (hm : m < 65536) (sp : Int) (h0 : 0 ≤ sp) (h1 : sp < 256) (W : World) (hv : PV W) : Calls Tryd.prog 5 #[.int .u16 (m : Int), .int .u8 sp] W fun e w' => e = .returned (.bool true) ∧ Below W.heap.size W w' := by
  have HV := Lib.hid hv
  have HM := Lib.hid hm
  have HTL := Lib.hid (tickT_len m hm)
  have HTP : Hid (parseP (wds (tickT m)) = some (tick (m : Int))) := Lib.hid (tick_line m hm)
  have hw1 : IntKind.i64.wrap (m : Int) = (m : Int) := IntWalk.i64_in (m : Int) (by omega)
  obtain ⟨ct, hct⟩ : ∃ ct, ct = cellsS (tick (m : Int)) noV 0 noV := ⟨_, rfl⟩
  have HCT := Lib.hid hct
  have C1 : Hid (ct.all (·.oneCell') = true) := Lib.hid (by rw [hct]; exact cells_one _ _)
  have C2 : Hid ((Tryd.prog.info? 32).map (·.size) = some ct.size) := Lib.hid (by rw [hct]; exact stepSize)
  have C3 : Hid (zeroS.size = ct.size) := Lib.hid (by rw [hct]; rfl)
  have HBT : Hid (Tryd.prog.built 32 [(0, .int .i64 5), (2, .int .i64 (m : Int))] = some ct) := Lib.hid (by rw [hct]; kernel_rfl)
  have HB2 : Hid (Below W.heap.size W ((W.alloc (.cells zeroS 32)).setRow W.heap.size ct)) := Lib.hid (below_row (below_alloc _ _) (Nat.le_refl _) _)
  have HS2 : Hid (((W.alloc (.cells zeroS 32)).setRow W.heap.size ct).heap[W.heap.size]? = some (.cells ct 32 (0, 0))) := Lib.hid (setRow_heap _ _ _ _ _ _ (heap_alloc_new _ _))
  clear hct hv hm
  go_enter Tryd.func5, Tryd.ntmps5
  go_wp2_with (first
    | ((with_reducible (refine wpList_buildTo rfl 32 #[(0, Operand.const (.int .i64 5)), (2, Operand.tmp 15)] rfl (some 16) rfl ct ?_ ?_)); (· simp only [List.map_toArray, List.map_cons, List.map_nil]; exact HBT.out))
    | ((with_reducible (refine wpList_store_rowTo rfl 32 (Operand.tmp 5) (Operand.tmp 16) rfl rfl W.heap.size ct ?_ ?_ 32 zeroS ?_ ?_ ?_ ?_ ?_)); (· rfl); (· rfl); (· exact heap_alloc_new _ _); (· exact C2.out); (· exact C3.out); (· exact C1.out); change wpList _ _ _ _ _ ((W.alloc (.cells zeroS 32)).setRow W.heap.size ct); generalize (W.alloc (.cells zeroS 32)).setRow W.heap.size ct = w2 at *; generalize hsb : W.heap.size = sb at *)
    | ((with_reducible (refine wpList_load_row rfl 32 (Operand.tmp 5) rfl sb ?_ 32 ct (0, 0) _ ?_ Tryd.underlying32 ?_ ?_ ?_)); (· rfl); (· exact HS2.out); (· rfl); (· exact C2.out)))
  have HSB := Lib.hid hsb
  have HBW2 : Hid (Below W.heap.size W w2) := Lib.hid (by rw [hsb]; exact HB2.out)
  clear hsb hw1
  have hln := Line_read HTP.out (by have := HTL.out.2; omega) w2 (HV.out.keep HBW2.out)
  rw [← HCT.out] at hln
  refine hln.mono ?_
  rintro e w3 ⟨rfl, hb3⟩
  have HB3 := Lib.hid (bstep' HBW2.out hb3)
  have HS3 : Hid (w3.heap[sb]? = some (.cells ct 32 (0, 0))) := Lib.hid ((hb3.block _ (lt_of_block HS2.out)).trans HS2.out)
  clear hb3 hln
  have hps := Parse_yes (bs (tickT m)) (by rw [bs_size]; have := HTL.out.2; omega) (tick (m : Int)) HTP.out w3 (HV.out.keep HB3.out)
  rw [← HCT.out] at hps
  obtain ⟨L, hL⟩ : ∃ L, L = bs (tickT m) := ⟨_, rfl⟩
  have hsz : L.size = (tickT m).length := by rw [hL, bs_size]
  have hl3 : decide ((L.size : Int) < 3) = false := decide_eq_false (by have := HTL.out.1; omega)
  have hl2 : 2 ≤ L.size := by have := HTL.out.1; omega
  have HD : Hid (L.extract 2 L.size = bs (Lib.decDigits m)) := Lib.hid (by
    rw [hL]
    apply ByteArray.ext
    apply Array.toList_inj.1
    rw [ByteArray.data_extract, Array.toList_extract, List.extract_eq_take_drop, bs_size]
    show List.take _ (List.drop 2 (tickT m)) = _
    unfold tickT
    simp [bs])
  have HLL := Lib.hid hL
  have HLS : Hid (L.size ≤ 11) := Lib.hid (by rw [hsz]; exact HTL.out.2)
  rw [← hL] at hps ⊢
  clear hL hsz
  go_wp2_with fail
  refine hps.mono ?_
  rintro e w4 ⟨rfl, hb4⟩
  have HB4 := Lib.hid (bstep' HB3.out hb4)
  have HS4 : Hid (w4.heap[sb]? = some (.cells ct 32 (0, 0))) := Lib.hid ((hb4.block _ (lt_of_block HS3.out)).trans HS3.out)
  clear hb4 hps
  have HB54 : Hid (Below w4.heap.size w4 ((w4.alloc (.cells zeroS 32)).setRow w4.heap.size ct)) := Lib.hid (below_row (below_alloc _ _) (Nat.le_refl _) _)
  have HB5 := Lib.hid (bstep' HB4.out HB54.out)
  have HS5 := Lib.hid ((HB54.out.block _ (lt_of_block HS4.out)).trans HS4.out)
  have HT5 : Hid (((w4.alloc (.cells zeroS 32)).setRow w4.heap.size ct).heap[w4.heap.size]? = some (.cells ct 32 (0, 0))) := Lib.hid (setRow_heap _ _ _ _ _ _ (heap_alloc_new _ _))
  go_wp2_with (first
    | ((with_reducible (refine wpList_store_rowTo rfl 32 (Operand.tmp 8) (Operand.tmp 25) rfl rfl w4.heap.size ct ?_ ?_ 32 zeroS ?_ ?_ ?_ ?_ ?_)); (· rfl); (· rfl); (· exact heap_alloc_new _ _); (· exact C2.out); (· exact C3.out); (· exact C1.out); change wpList _ _ _ _ _ ((w4.alloc (.cells zeroS 32)).setRow w4.heap.size ct); generalize (w4.alloc (.cells zeroS 32)).setRow w4.heap.size ct = w5 at *; generalize w4.heap.size = tb at *)
    | ((with_reducible (refine wpList_load_rowG ?_ 32 (Operand.tmp 5) rfl sb ?_ 32 ct (0, 0) _ ?_ Tryd.underlying32 ?_ ?_ ?_)); (· rfl); (· rfl); (· exact HS5.out); (· rfl); (· exact C2.out))
    | ((with_reducible (refine wpList_load_rowG ?_ 32 (Operand.tmp 8) rfl tb ?_ 32 ct (0, 0) _ ?_ Tryd.underlying32 ?_ ?_ ?_)); (· rfl); (· rfl); (· exact HT5.out); (· rfl); (· exact C2.out)))
  have hsa := rsame_true (tick (m : Int)) rfl w5
  rw [← HCT.out] at hsa
  refine hsa.mono ?_
  rintro e w6 ⟨rfl, hb6⟩
  have HB6 := Lib.hid (bstep' HB5.out hb6)
  clear hsa hb6
  obtain ⟨D, hD⟩ : ∃ D, D = L.extract 2 L.size := ⟨_, rfl⟩
  have hdd : D = bs (Lib.decDigits m) := hD.trans HD.out
  have HDD := Lib.hid hdd
  have hds : D.size ≤ 11 := by rw [hdd, bs_size]; have := HTL.out.2; unfold tickT at this; simp only [List.length_cons] at this; omega
  have hls := HLS.out
  have hD2 : L.extract 2 L.size = D := hD.symm
  clear hD hdd
  have v1 : ¬ 9223372036854775807 < 3 + D.size := by omega
  have v2 : ¬ 9223372036854775807 < 2 + D.size := by omega
  have v3 : ¬ 9223372036854775807 < 1 + D.size := by omega
  have v4 : ¬ 9223372036854775807 < 1 + L.size := by omega
  have v5 : ¬ 9223372036854775807 < L.size + 1 := by omega
  have v6 : ¬ 9223372036854775807 < L.size + 2 := by omega
  go_wp2_with (refine wpList_stop 72 rfl ?_)
  unfold Stop
  have hrow := heap_alloc_new w6 (.cells #[.string ((⟨#[116, 32, 32]⟩ : ByteArray) ++ D), .string ((⟨#[32]⟩ : ByteArray) ++ L), .string (L ++ (⟨#[32]⟩ : ByteArray)), .string ((⟨#[116, 32, 48]⟩ : ByteArray) ++ D), .string ((⟨#[116, 32, 43]⟩ : ByteArray) ++ D), .string ((⟨#[116, 32, 45]⟩ : ByteArray) ++ D), .string ((⟨#[84, 32]⟩ : ByteArray) ++ D), .string ((⟨#[116]⟩ : ByteArray) ++ D), .string (L ++ (⟨#[32, 49]⟩ : ByteArray)), .string (⟨#[116]⟩), .string (⟨#[116, 32]⟩), .string (⟨#[116, 32, 49, 50, 51, 52, 53, 54, 55, 56, 57, 48]⟩)] 9)
  have hb7 := below_alloc w6 (.cells #[.string ((⟨#[116, 32, 32]⟩ : ByteArray) ++ D), .string ((⟨#[32]⟩ : ByteArray) ++ L), .string (L ++ (⟨#[32]⟩ : ByteArray)), .string ((⟨#[116, 32, 48]⟩ : ByteArray) ++ D), .string ((⟨#[116, 32, 43]⟩ : ByteArray) ++ D), .string ((⟨#[116, 32, 45]⟩ : ByteArray) ++ D), .string ((⟨#[84, 32]⟩ : ByteArray) ++ D), .string ((⟨#[116]⟩ : ByteArray) ++ D), .string (L ++ (⟨#[32, 49]⟩ : ByteArray)), .string (⟨#[116]⟩), .string (⟨#[116, 32]⟩), .string (⟨#[116, 32, 49, 50, 51, 52, 53, 54, 55, 56, 57, 48]⟩)] 9)
  have HB7 : Hid (Below W.heap.size W (w6.alloc (.cells #[.string ((⟨#[116, 32, 32]⟩ : ByteArray) ++ D), .string ((⟨#[32]⟩ : ByteArray) ++ L), .string (L ++ (⟨#[32]⟩ : ByteArray)), .string ((⟨#[116, 32, 48]⟩ : ByteArray) ++ D), .string ((⟨#[116, 32, 43]⟩ : ByteArray) ++ D), .string ((⟨#[116, 32, 45]⟩ : ByteArray) ++ D), .string ((⟨#[84, 32]⟩ : ByteArray) ++ D), .string ((⟨#[116]⟩ : ByteArray) ++ D), .string (L ++ (⟨#[32, 49]⟩ : ByteArray)), .string (⟨#[116]⟩), .string (⟨#[116, 32]⟩), .string (⟨#[116, 32, 49, 50, 51, 52, 53, 54, 55, 56, 57, 48]⟩)] 9))) := Lib.hid (bstep' HB6.out hb7)
  change wpList _ _ _ _ _ (w6.alloc (.cells #[.string ((⟨#[116, 32, 32]⟩ : ByteArray) ++ D), .string ((⟨#[32]⟩ : ByteArray) ++ L), .string (L ++ (⟨#[32]⟩ : ByteArray)), .string ((⟨#[116, 32, 48]⟩ : ByteArray) ++ D), .string ((⟨#[116, 32, 43]⟩ : ByteArray) ++ D), .string ((⟨#[116, 32, 45]⟩ : ByteArray) ++ D), .string ((⟨#[84, 32]⟩ : ByteArray) ++ D), .string ((⟨#[116]⟩ : ByteArray) ++ D), .string (L ++ (⟨#[32, 49]⟩ : ByteArray)), .string (⟨#[116]⟩), .string (⟨#[116, 32]⟩), .string (⟨#[116, 32, 49, 50, 51, 52, 53, 54, 55, 56, 57, 48]⟩)] 9))
  generalize w6.alloc (.cells #[.string ((⟨#[116, 32, 32]⟩ : ByteArray) ++ D), .string ((⟨#[32]⟩ : ByteArray) ++ L), .string (L ++ (⟨#[32]⟩ : ByteArray)), .string ((⟨#[116, 32, 48]⟩ : ByteArray) ++ D), .string ((⟨#[116, 32, 43]⟩ : ByteArray) ++ D), .string ((⟨#[116, 32, 45]⟩ : ByteArray) ++ D), .string ((⟨#[84, 32]⟩ : ByteArray) ++ D), .string ((⟨#[116]⟩ : ByteArray) ++ D), .string (L ++ (⟨#[32, 49]⟩ : ByteArray)), .string (⟨#[116]⟩), .string (⟨#[116, 32]⟩), .string (⟨#[116, 32, 49, 50, 51, 52, 53, 54, 55, 56, 57, 48]⟩)] 9) = w7 at *
  clear hb7
  generalize w6.heap.size = bb at *
  have c0 : w7.cell? ⟨bb, 0, none⟩ = some (.string ((⟨#[116, 32, 32]⟩ : ByteArray) ++ D)) := by rw [Lib.cell_of_heap hrow]; rfl
  have c1 : w7.cell? ⟨bb, 1, none⟩ = some (.string ((⟨#[32]⟩ : ByteArray) ++ L)) := by rw [Lib.cell_of_heap hrow]; rfl
  have c2 : w7.cell? ⟨bb, 2, none⟩ = some (.string (L ++ (⟨#[32]⟩ : ByteArray))) := by rw [Lib.cell_of_heap hrow]; rfl
  have c3 : w7.cell? ⟨bb, 3, none⟩ = some (.string ((⟨#[116, 32, 48]⟩ : ByteArray) ++ D)) := by rw [Lib.cell_of_heap hrow]; rfl
  have c4 : w7.cell? ⟨bb, 4, none⟩ = some (.string ((⟨#[116, 32, 43]⟩ : ByteArray) ++ D)) := by rw [Lib.cell_of_heap hrow]; rfl
  have c5 : w7.cell? ⟨bb, 5, none⟩ = some (.string ((⟨#[116, 32, 45]⟩ : ByteArray) ++ D)) := by rw [Lib.cell_of_heap hrow]; rfl
  have c6 : w7.cell? ⟨bb, 6, none⟩ = some (.string ((⟨#[84, 32]⟩ : ByteArray) ++ D)) := by rw [Lib.cell_of_heap hrow]; rfl
  have c7 : w7.cell? ⟨bb, 7, none⟩ = some (.string ((⟨#[116]⟩ : ByteArray) ++ D)) := by rw [Lib.cell_of_heap hrow]; rfl
  have c8 : w7.cell? ⟨bb, 8, none⟩ = some (.string (L ++ (⟨#[32, 49]⟩ : ByteArray))) := by rw [Lib.cell_of_heap hrow]; rfl
  have c9 : w7.cell? ⟨bb, 9, none⟩ = some (.string (⟨#[116]⟩)) := by rw [Lib.cell_of_heap hrow]; rfl
  have c10 : w7.cell? ⟨bb, 10, none⟩ = some (.string (⟨#[116, 32]⟩)) := by rw [Lib.cell_of_heap hrow]; rfl
  have c11 : w7.cell? ⟨bb, 11, none⟩ = some (.string (⟨#[116, 32, 49, 50, 51, 52, 53, 54, 55, 56, 57, 48]⟩)) := by rw [Lib.cell_of_heap hrow]; rfl
  clear hrow v1 v2 v3 v4 v5 v6 hl3 hl2 hD2
  have HBAD := Lib.hid (bad_none m)
  have hbad : ∀ l, l ∈ bad (Lib.decDigits m) → ∀ x : ByteArray, x.data.toList = l → parseP (wds x.data.toList) = none := fun l hl x hx => by rw [hx]; exact HBAD.out l hl
  have eL : L.data.toList = tickT m := by rw [HLL.out]; rfl
  have eD : D.data.toList = Lib.decDigits m := by rw [HDD.out]; rfl
  have hall : ∀ x ∈ ([(⟨#[116, 32, 32]⟩ : ByteArray) ++ D, (⟨#[32]⟩ : ByteArray) ++ L, L ++ (⟨#[32]⟩ : ByteArray), (⟨#[116, 32, 48]⟩ : ByteArray) ++ D, (⟨#[116, 32, 43]⟩ : ByteArray) ++ D, (⟨#[116, 32, 45]⟩ : ByteArray) ++ D, (⟨#[84, 32]⟩ : ByteArray) ++ D, (⟨#[116]⟩ : ByteArray) ++ D, L ++ (⟨#[32, 49]⟩ : ByteArray), ⟨#[116]⟩, ⟨#[116, 32]⟩, ⟨#[116, 32, 49, 50, 51, 52, 53, 54, 55, 56, 57, 48]⟩] : List ByteArray), parseP (wds x.data.toList) = none := by
    intro x hx
    have key : ∃ l ∈ bad (Lib.decDigits m), x.data.toList = l := by
      unfold bad
      simp only [List.mem_cons, List.not_mem_nil, or_false] at hx
      rcases hx with rfl | rfl | rfl | rfl | rfl | rfl | rfl | rfl | rfl | rfl | rfl | rfl
      all_goals
        refine ⟨_, ?_, rfl⟩
        simp [ByteArray.data_append, eL, eD, tickT]
    obtain ⟨l, hl, e⟩ := key
    exact hbad l hl x e
  have hasz : ∀ x ∈ ([(⟨#[116, 32, 32]⟩ : ByteArray) ++ D, (⟨#[32]⟩ : ByteArray) ++ L, L ++ (⟨#[32]⟩ : ByteArray), (⟨#[116, 32, 48]⟩ : ByteArray) ++ D, (⟨#[116, 32, 43]⟩ : ByteArray) ++ D, (⟨#[116, 32, 45]⟩ : ByteArray) ++ D, (⟨#[84, 32]⟩ : ByteArray) ++ D, (⟨#[116]⟩ : ByteArray) ++ D, L ++ (⟨#[32, 49]⟩ : ByteArray), ⟨#[116]⟩, ⟨#[116, 32]⟩, ⟨#[116, 32, 49, 50, 51, 52, 53, 54, 55, 56, 57, 48]⟩] : List ByteArray), x.size ≤ 1000000 := by
    intro x hx
    simp only [List.mem_cons, List.not_mem_nil, or_false] at hx
    rcases hx with rfl | rfl | rfl | rfl | rfl | rfl | rfl | rfl | rfl | rfl | rfl | rfl
    · rw [ByteArray.size_append]
      show 3 + D.size ≤ 1000000
      omega
    · rw [ByteArray.size_append]
      show 1 + L.size ≤ 1000000
      omega
    · rw [ByteArray.size_append]
      show L.size + 1 ≤ 1000000
      omega
    · rw [ByteArray.size_append]
      show 3 + D.size ≤ 1000000
      omega
    · rw [ByteArray.size_append]
      show 3 + D.size ≤ 1000000
      omega
    · rw [ByteArray.size_append]
      show 3 + D.size ≤ 1000000
      omega
    · rw [ByteArray.size_append]
      show 2 + D.size ≤ 1000000
      omega
    · rw [ByteArray.size_append]
      show 1 + D.size ≤ 1000000
      omega
    · rw [ByteArray.size_append]
      show L.size + 2 ≤ 1000000
      omega
    · decide
    · decide
    · decide
  have HALL := Lib.hid hall
  have HASZ := Lib.hid hasz
  have hj : sp % 12 = 0 ∨ sp % 12 = 1 ∨ sp % 12 = 2 ∨ sp % 12 = 3 ∨ sp % 12 = 4 ∨ sp % 12 = 5 ∨ sp % 12 = 6 ∨ sp % 12 = 7 ∨ sp % 12 = 8 ∨ sp % 12 = 9 ∨ sp % 12 = 10 ∨ sp % 12 = 11 := by omega
  clear hall hasz hbad eL eD
  rcases hj with hj | hj | hj | hj | hj | hj | hj | hj | hj | hj | hj | hj
  · go_wp2_with fail
    clear c0 c1 c2 c3 c4 c5 c6 c7 c8 c9 c10 c11
    refine (Parse_no ((⟨#[116, 32, 32]⟩ : ByteArray) ++ D) (HASZ.out _ (.head _)) (HALL.out _ (.head _)) w7 (HV.out.keep HB7.out)).mono ?_
    rintro e w8 ⟨rfl, hb8⟩
    have HB8 := Lib.hid (bstep' HB7.out hb8)
    clear hb8
    have HB9 : Hid (Below W.heap.size W ((w8.alloc (.cells zeroS 32)).setRow w8.heap.size zeroS)) := Lib.hid (below_row (HB8.out.alloc HB8.out.size _) HB8.out.size _)
    go_wp2_with ((with_reducible (refine wpList_store_rowTo rfl 32 (Operand.tmp 12) (Operand.tmp 75) rfl rfl w8.heap.size zeroS ?_ ?_ 32 zeroS ?_ ?_ ?_ ?_ ?_)); (· rfl); (· rfl); (· exact heap_alloc_new _ _); (· exact zeroS_size); (· rfl); (· exact zeroS_one); change wpList _ _ _ _ _ ((w8.alloc (.cells zeroS 32)).setRow w8.heap.size zeroS); generalize (w8.alloc (.cells zeroS 32)).setRow w8.heap.size zeroS = w9 at *)
    refine (wakes_any w9 (HV.out.keep HB9.out)).mono ?_
    rintro e w10 ⟨rfl, hb10⟩
    have HB10 := Lib.hid (bstep' HB9.out hb10)
    clear hb10
    go_wp2_with fail
    go_ret
    exact ⟨rfl, HB10.out⟩
  · go_wp2_with fail
    clear c0 c1 c2 c3 c4 c5 c6 c7 c8 c9 c10 c11
    refine (Parse_no ((⟨#[32]⟩ : ByteArray) ++ L) (HASZ.out _ (.tail _ (.head _))) (HALL.out _ (.tail _ (.head _))) w7 (HV.out.keep HB7.out)).mono ?_
    rintro e w8 ⟨rfl, hb8⟩
    have HB8 := Lib.hid (bstep' HB7.out hb8)
    clear hb8
    have HB9 : Hid (Below W.heap.size W ((w8.alloc (.cells zeroS 32)).setRow w8.heap.size zeroS)) := Lib.hid (below_row (HB8.out.alloc HB8.out.size _) HB8.out.size _)
    go_wp2_with ((with_reducible (refine wpList_store_rowTo rfl 32 (Operand.tmp 12) (Operand.tmp 75) rfl rfl w8.heap.size zeroS ?_ ?_ 32 zeroS ?_ ?_ ?_ ?_ ?_)); (· rfl); (· rfl); (· exact heap_alloc_new _ _); (· exact zeroS_size); (· rfl); (· exact zeroS_one); change wpList _ _ _ _ _ ((w8.alloc (.cells zeroS 32)).setRow w8.heap.size zeroS); generalize (w8.alloc (.cells zeroS 32)).setRow w8.heap.size zeroS = w9 at *)
    refine (wakes_any w9 (HV.out.keep HB9.out)).mono ?_
    rintro e w10 ⟨rfl, hb10⟩
    have HB10 := Lib.hid (bstep' HB9.out hb10)
    clear hb10
    go_wp2_with fail
    go_ret
    exact ⟨rfl, HB10.out⟩
  · go_wp2_with fail
    clear c0 c1 c2 c3 c4 c5 c6 c7 c8 c9 c10 c11
    refine (Parse_no (L ++ (⟨#[32]⟩ : ByteArray)) (HASZ.out _ (.tail _ (.tail _ (.head _)))) (HALL.out _ (.tail _ (.tail _ (.head _)))) w7 (HV.out.keep HB7.out)).mono ?_
    rintro e w8 ⟨rfl, hb8⟩
    have HB8 := Lib.hid (bstep' HB7.out hb8)
    clear hb8
    have HB9 : Hid (Below W.heap.size W ((w8.alloc (.cells zeroS 32)).setRow w8.heap.size zeroS)) := Lib.hid (below_row (HB8.out.alloc HB8.out.size _) HB8.out.size _)
    go_wp2_with ((with_reducible (refine wpList_store_rowTo rfl 32 (Operand.tmp 12) (Operand.tmp 75) rfl rfl w8.heap.size zeroS ?_ ?_ 32 zeroS ?_ ?_ ?_ ?_ ?_)); (· rfl); (· rfl); (· exact heap_alloc_new _ _); (· exact zeroS_size); (· rfl); (· exact zeroS_one); change wpList _ _ _ _ _ ((w8.alloc (.cells zeroS 32)).setRow w8.heap.size zeroS); generalize (w8.alloc (.cells zeroS 32)).setRow w8.heap.size zeroS = w9 at *)
    refine (wakes_any w9 (HV.out.keep HB9.out)).mono ?_
    rintro e w10 ⟨rfl, hb10⟩
    have HB10 := Lib.hid (bstep' HB9.out hb10)
    clear hb10
    go_wp2_with fail
    go_ret
    exact ⟨rfl, HB10.out⟩
  · go_wp2_with fail
    clear c0 c1 c2 c3 c4 c5 c6 c7 c8 c9 c10 c11
    refine (Parse_no ((⟨#[116, 32, 48]⟩ : ByteArray) ++ D) (HASZ.out _ (.tail _ (.tail _ (.tail _ (.head _))))) (HALL.out _ (.tail _ (.tail _ (.tail _ (.head _))))) w7 (HV.out.keep HB7.out)).mono ?_
    rintro e w8 ⟨rfl, hb8⟩
    have HB8 := Lib.hid (bstep' HB7.out hb8)
    clear hb8
    have HB9 : Hid (Below W.heap.size W ((w8.alloc (.cells zeroS 32)).setRow w8.heap.size zeroS)) := Lib.hid (below_row (HB8.out.alloc HB8.out.size _) HB8.out.size _)
    go_wp2_with ((with_reducible (refine wpList_store_rowTo rfl 32 (Operand.tmp 12) (Operand.tmp 75) rfl rfl w8.heap.size zeroS ?_ ?_ 32 zeroS ?_ ?_ ?_ ?_ ?_)); (· rfl); (· rfl); (· exact heap_alloc_new _ _); (· exact zeroS_size); (· rfl); (· exact zeroS_one); change wpList _ _ _ _ _ ((w8.alloc (.cells zeroS 32)).setRow w8.heap.size zeroS); generalize (w8.alloc (.cells zeroS 32)).setRow w8.heap.size zeroS = w9 at *)
    refine (wakes_any w9 (HV.out.keep HB9.out)).mono ?_
    rintro e w10 ⟨rfl, hb10⟩
    have HB10 := Lib.hid (bstep' HB9.out hb10)
    clear hb10
    go_wp2_with fail
    go_ret
    exact ⟨rfl, HB10.out⟩
  · go_wp2_with fail
    clear c0 c1 c2 c3 c4 c5 c6 c7 c8 c9 c10 c11
    refine (Parse_no ((⟨#[116, 32, 43]⟩ : ByteArray) ++ D) (HASZ.out _ (.tail _ (.tail _ (.tail _ (.tail _ (.head _)))))) (HALL.out _ (.tail _ (.tail _ (.tail _ (.tail _ (.head _)))))) w7 (HV.out.keep HB7.out)).mono ?_
    rintro e w8 ⟨rfl, hb8⟩
    have HB8 := Lib.hid (bstep' HB7.out hb8)
    clear hb8
    have HB9 : Hid (Below W.heap.size W ((w8.alloc (.cells zeroS 32)).setRow w8.heap.size zeroS)) := Lib.hid (below_row (HB8.out.alloc HB8.out.size _) HB8.out.size _)
    go_wp2_with ((with_reducible (refine wpList_store_rowTo rfl 32 (Operand.tmp 12) (Operand.tmp 75) rfl rfl w8.heap.size zeroS ?_ ?_ 32 zeroS ?_ ?_ ?_ ?_ ?_)); (· rfl); (· rfl); (· exact heap_alloc_new _ _); (· exact zeroS_size); (· rfl); (· exact zeroS_one); change wpList _ _ _ _ _ ((w8.alloc (.cells zeroS 32)).setRow w8.heap.size zeroS); generalize (w8.alloc (.cells zeroS 32)).setRow w8.heap.size zeroS = w9 at *)
    refine (wakes_any w9 (HV.out.keep HB9.out)).mono ?_
    rintro e w10 ⟨rfl, hb10⟩
    have HB10 := Lib.hid (bstep' HB9.out hb10)
    clear hb10
    go_wp2_with fail
    go_ret
    exact ⟨rfl, HB10.out⟩
  · go_wp2_with fail
    clear c0 c1 c2 c3 c4 c5 c6 c7 c8 c9 c10 c11
    refine (Parse_no ((⟨#[116, 32, 45]⟩ : ByteArray) ++ D) (HASZ.out _ (.tail _ (.tail _ (.tail _ (.tail _ (.tail _ (.head _))))))) (HALL.out _ (.tail _ (.tail _ (.tail _ (.tail _ (.tail _ (.head _))))))) w7 (HV.out.keep HB7.out)).mono ?_
    rintro e w8 ⟨rfl, hb8⟩
    have HB8 := Lib.hid (bstep' HB7.out hb8)
    clear hb8
    have HB9 : Hid (Below W.heap.size W ((w8.alloc (.cells zeroS 32)).setRow w8.heap.size zeroS)) := Lib.hid (below_row (HB8.out.alloc HB8.out.size _) HB8.out.size _)
    go_wp2_with ((with_reducible (refine wpList_store_rowTo rfl 32 (Operand.tmp 12) (Operand.tmp 75) rfl rfl w8.heap.size zeroS ?_ ?_ 32 zeroS ?_ ?_ ?_ ?_ ?_)); (· rfl); (· rfl); (· exact heap_alloc_new _ _); (· exact zeroS_size); (· rfl); (· exact zeroS_one); change wpList _ _ _ _ _ ((w8.alloc (.cells zeroS 32)).setRow w8.heap.size zeroS); generalize (w8.alloc (.cells zeroS 32)).setRow w8.heap.size zeroS = w9 at *)
    refine (wakes_any w9 (HV.out.keep HB9.out)).mono ?_
    rintro e w10 ⟨rfl, hb10⟩
    have HB10 := Lib.hid (bstep' HB9.out hb10)
    clear hb10
    go_wp2_with fail
    go_ret
    exact ⟨rfl, HB10.out⟩
  · go_wp2_with fail
    clear c0 c1 c2 c3 c4 c5 c6 c7 c8 c9 c10 c11
    refine (Parse_no ((⟨#[84, 32]⟩ : ByteArray) ++ D) (HASZ.out _ (.tail _ (.tail _ (.tail _ (.tail _ (.tail _ (.tail _ (.head _)))))))) (HALL.out _ (.tail _ (.tail _ (.tail _ (.tail _ (.tail _ (.tail _ (.head _)))))))) w7 (HV.out.keep HB7.out)).mono ?_
    rintro e w8 ⟨rfl, hb8⟩
    have HB8 := Lib.hid (bstep' HB7.out hb8)
    clear hb8
    have HB9 : Hid (Below W.heap.size W ((w8.alloc (.cells zeroS 32)).setRow w8.heap.size zeroS)) := Lib.hid (below_row (HB8.out.alloc HB8.out.size _) HB8.out.size _)
    go_wp2_with ((with_reducible (refine wpList_store_rowTo rfl 32 (Operand.tmp 12) (Operand.tmp 75) rfl rfl w8.heap.size zeroS ?_ ?_ 32 zeroS ?_ ?_ ?_ ?_ ?_)); (· rfl); (· rfl); (· exact heap_alloc_new _ _); (· exact zeroS_size); (· rfl); (· exact zeroS_one); change wpList _ _ _ _ _ ((w8.alloc (.cells zeroS 32)).setRow w8.heap.size zeroS); generalize (w8.alloc (.cells zeroS 32)).setRow w8.heap.size zeroS = w9 at *)
    refine (wakes_any w9 (HV.out.keep HB9.out)).mono ?_
    rintro e w10 ⟨rfl, hb10⟩
    have HB10 := Lib.hid (bstep' HB9.out hb10)
    clear hb10
    go_wp2_with fail
    go_ret
    exact ⟨rfl, HB10.out⟩
  · go_wp2_with fail
    clear c0 c1 c2 c3 c4 c5 c6 c7 c8 c9 c10 c11
    refine (Parse_no ((⟨#[116]⟩ : ByteArray) ++ D) (HASZ.out _ (.tail _ (.tail _ (.tail _ (.tail _ (.tail _ (.tail _ (.tail _ (.head _))))))))) (HALL.out _ (.tail _ (.tail _ (.tail _ (.tail _ (.tail _ (.tail _ (.tail _ (.head _))))))))) w7 (HV.out.keep HB7.out)).mono ?_
    rintro e w8 ⟨rfl, hb8⟩
    have HB8 := Lib.hid (bstep' HB7.out hb8)
    clear hb8
    have HB9 : Hid (Below W.heap.size W ((w8.alloc (.cells zeroS 32)).setRow w8.heap.size zeroS)) := Lib.hid (below_row (HB8.out.alloc HB8.out.size _) HB8.out.size _)
    go_wp2_with ((with_reducible (refine wpList_store_rowTo rfl 32 (Operand.tmp 12) (Operand.tmp 75) rfl rfl w8.heap.size zeroS ?_ ?_ 32 zeroS ?_ ?_ ?_ ?_ ?_)); (· rfl); (· rfl); (· exact heap_alloc_new _ _); (· exact zeroS_size); (· rfl); (· exact zeroS_one); change wpList _ _ _ _ _ ((w8.alloc (.cells zeroS 32)).setRow w8.heap.size zeroS); generalize (w8.alloc (.cells zeroS 32)).setRow w8.heap.size zeroS = w9 at *)
    refine (wakes_any w9 (HV.out.keep HB9.out)).mono ?_
    rintro e w10 ⟨rfl, hb10⟩
    have HB10 := Lib.hid (bstep' HB9.out hb10)
    clear hb10
    go_wp2_with fail
    go_ret
    exact ⟨rfl, HB10.out⟩
  · go_wp2_with fail
    clear c0 c1 c2 c3 c4 c5 c6 c7 c8 c9 c10 c11
    refine (Parse_no (L ++ (⟨#[32, 49]⟩ : ByteArray)) (HASZ.out _ (.tail _ (.tail _ (.tail _ (.tail _ (.tail _ (.tail _ (.tail _ (.tail _ (.head _)))))))))) (HALL.out _ (.tail _ (.tail _ (.tail _ (.tail _ (.tail _ (.tail _ (.tail _ (.tail _ (.head _)))))))))) w7 (HV.out.keep HB7.out)).mono ?_
    rintro e w8 ⟨rfl, hb8⟩
    have HB8 := Lib.hid (bstep' HB7.out hb8)
    clear hb8
    have HB9 : Hid (Below W.heap.size W ((w8.alloc (.cells zeroS 32)).setRow w8.heap.size zeroS)) := Lib.hid (below_row (HB8.out.alloc HB8.out.size _) HB8.out.size _)
    go_wp2_with ((with_reducible (refine wpList_store_rowTo rfl 32 (Operand.tmp 12) (Operand.tmp 75) rfl rfl w8.heap.size zeroS ?_ ?_ 32 zeroS ?_ ?_ ?_ ?_ ?_)); (· rfl); (· rfl); (· exact heap_alloc_new _ _); (· exact zeroS_size); (· rfl); (· exact zeroS_one); change wpList _ _ _ _ _ ((w8.alloc (.cells zeroS 32)).setRow w8.heap.size zeroS); generalize (w8.alloc (.cells zeroS 32)).setRow w8.heap.size zeroS = w9 at *)
    refine (wakes_any w9 (HV.out.keep HB9.out)).mono ?_
    rintro e w10 ⟨rfl, hb10⟩
    have HB10 := Lib.hid (bstep' HB9.out hb10)
    clear hb10
    go_wp2_with fail
    go_ret
    exact ⟨rfl, HB10.out⟩
  · go_wp2_with fail
    clear c0 c1 c2 c3 c4 c5 c6 c7 c8 c9 c10 c11
    refine (Parse_no (⟨#[116]⟩) (HASZ.out _ (.tail _ (.tail _ (.tail _ (.tail _ (.tail _ (.tail _ (.tail _ (.tail _ (.tail _ (.head _))))))))))) (HALL.out _ (.tail _ (.tail _ (.tail _ (.tail _ (.tail _ (.tail _ (.tail _ (.tail _ (.tail _ (.head _))))))))))) w7 (HV.out.keep HB7.out)).mono ?_
    rintro e w8 ⟨rfl, hb8⟩
    have HB8 := Lib.hid (bstep' HB7.out hb8)
    clear hb8
    have HB9 : Hid (Below W.heap.size W ((w8.alloc (.cells zeroS 32)).setRow w8.heap.size zeroS)) := Lib.hid (below_row (HB8.out.alloc HB8.out.size _) HB8.out.size _)
    go_wp2_with ((with_reducible (refine wpList_store_rowTo rfl 32 (Operand.tmp 12) (Operand.tmp 75) rfl rfl w8.heap.size zeroS ?_ ?_ 32 zeroS ?_ ?_ ?_ ?_ ?_)); (· rfl); (· rfl); (· exact heap_alloc_new _ _); (· exact zeroS_size); (· rfl); (· exact zeroS_one); change wpList _ _ _ _ _ ((w8.alloc (.cells zeroS 32)).setRow w8.heap.size zeroS); generalize (w8.alloc (.cells zeroS 32)).setRow w8.heap.size zeroS = w9 at *)
    refine (wakes_any w9 (HV.out.keep HB9.out)).mono ?_
    rintro e w10 ⟨rfl, hb10⟩
    have HB10 := Lib.hid (bstep' HB9.out hb10)
    clear hb10
    go_wp2_with fail
    go_ret
    exact ⟨rfl, HB10.out⟩
  · go_wp2_with fail
    clear c0 c1 c2 c3 c4 c5 c6 c7 c8 c9 c10 c11
    refine (Parse_no (⟨#[116, 32]⟩) (HASZ.out _ (.tail _ (.tail _ (.tail _ (.tail _ (.tail _ (.tail _ (.tail _ (.tail _ (.tail _ (.tail _ (.head _)))))))))))) (HALL.out _ (.tail _ (.tail _ (.tail _ (.tail _ (.tail _ (.tail _ (.tail _ (.tail _ (.tail _ (.tail _ (.head _)))))))))))) w7 (HV.out.keep HB7.out)).mono ?_
    rintro e w8 ⟨rfl, hb8⟩
    have HB8 := Lib.hid (bstep' HB7.out hb8)
    clear hb8
    have HB9 : Hid (Below W.heap.size W ((w8.alloc (.cells zeroS 32)).setRow w8.heap.size zeroS)) := Lib.hid (below_row (HB8.out.alloc HB8.out.size _) HB8.out.size _)
    go_wp2_with ((with_reducible (refine wpList_store_rowTo rfl 32 (Operand.tmp 12) (Operand.tmp 75) rfl rfl w8.heap.size zeroS ?_ ?_ 32 zeroS ?_ ?_ ?_ ?_ ?_)); (· rfl); (· rfl); (· exact heap_alloc_new _ _); (· exact zeroS_size); (· rfl); (· exact zeroS_one); change wpList _ _ _ _ _ ((w8.alloc (.cells zeroS 32)).setRow w8.heap.size zeroS); generalize (w8.alloc (.cells zeroS 32)).setRow w8.heap.size zeroS = w9 at *)
    refine (wakes_any w9 (HV.out.keep HB9.out)).mono ?_
    rintro e w10 ⟨rfl, hb10⟩
    have HB10 := Lib.hid (bstep' HB9.out hb10)
    clear hb10
    go_wp2_with fail
    go_ret
    exact ⟨rfl, HB10.out⟩
  · go_wp2_with fail
    clear c0 c1 c2 c3 c4 c5 c6 c7 c8 c9 c10 c11
    refine (Parse_no (⟨#[116, 32, 49, 50, 51, 52, 53, 54, 55, 56, 57, 48]⟩) (HASZ.out _ (.tail _ (.tail _ (.tail _ (.tail _ (.tail _ (.tail _ (.tail _ (.tail _ (.tail _ (.tail _ (.tail _ (.head _))))))))))))) (HALL.out _ (.tail _ (.tail _ (.tail _ (.tail _ (.tail _ (.tail _ (.tail _ (.tail _ (.tail _ (.tail _ (.tail _ (.head _))))))))))))) w7 (HV.out.keep HB7.out)).mono ?_
    rintro e w8 ⟨rfl, hb8⟩
    have HB8 := Lib.hid (bstep' HB7.out hb8)
    clear hb8
    have HB9 : Hid (Below W.heap.size W ((w8.alloc (.cells zeroS 32)).setRow w8.heap.size zeroS)) := Lib.hid (below_row (HB8.out.alloc HB8.out.size _) HB8.out.size _)
    go_wp2_with ((with_reducible (refine wpList_store_rowTo rfl 32 (Operand.tmp 12) (Operand.tmp 75) rfl rfl w8.heap.size zeroS ?_ ?_ 32 zeroS ?_ ?_ ?_ ?_ ?_)); (· rfl); (· rfl); (· exact heap_alloc_new _ _); (· exact zeroS_size); (· rfl); (· exact zeroS_one); change wpList _ _ _ _ _ ((w8.alloc (.cells zeroS 32)).setRow w8.heap.size zeroS); generalize (w8.alloc (.cells zeroS 32)).setRow w8.heap.size zeroS = w9 at *)
    refine (wakes_any w9 (HV.out.keep HB9.out)).mono ?_
    rintro e w10 ⟨rfl, hb10⟩
    have HB10 := Lib.hid (bstep' HB9.out hb10)
    clear hb10
    go_wp2_with fail
    go_ret
    exact ⟨rfl, HB10.out⟩
theorem words_walk (n : Int) (hn : (Lit.int .u16 n).wf = true) (sp : Int) (hs : (Lit.int .u8 sp).wf = true) (W : World) (hv : PV W) : Calls Tryd.prog 5 #[.int .u16 n, .int .u8 sp] W fun e w' => e = .returned (.bool true) ∧ Below W.heap.size W w' := by
  have h1 : 0 ≤ n ∧ n ≤ 65535 := by simpa [Lit.wf, IntKind.min, IntKind.max, IntKind.signed, IntKind.bits] using hn
  have h2 : 0 ≤ sp ∧ sp ≤ 255 := by simpa [Lit.wf, IntKind.min, IntKind.max, IntKind.signed, IntKind.bits] using hs
  obtain ⟨m, rfl⟩ := Int.eq_ofNat_of_zero_le h1.1
  exact words_walk0 m (by omega) sp h2.1 (by omega) W hv
end Go.Proofs.YtiffmigihhcgcaaDoor.ConW
