/- ConsoleParses. -/
import Derived.Test.YtiffmigihhcgcaaDoorConWakes
import Derived.Test.YtiffmigihhcgcaaDoorConSame
namespace Go.Proofs.YtiffmigihhcgcaaDoor.ConW
set_option maxRecDepth 100000
set_option linter.constructorNameAsVariable false
set_option linter.unusedVariables false
open Go.RowKit ConP OpP OpW
theorem parseR_form (t : Bs) : ∃ (q : Stp) (er : Int), parseR t = .tuple #[.agg (cellsS q noV 0 noV), .int .i64 er] ∧ q.a.o.m = [] := by
  cases h : parseP (wds t) with
  | none => exact ⟨stp0 0 0 0, 320, parseR_none h, rfl⟩
  | some q => exact ⟨q, 0, parseR_some h, parseP_m h⟩
theorem rsame_true (q : Stp) (hm : q.a.o.m = []) (w : World) :
    Calls Tryd.prog 9 #[.agg (cellsS q noV 0 noV), .agg (cellsS q noV 0 noV)] w fun e w' => e = .returned (.bool true) ∧ Below w.heap.size w w' := by
  have h := rsame_any q q none none none none 0 0 0 0 0 0 0 0 0 0 (fun _ => rfl) (by rw [hm]; rfl) (by rw [hm]; rfl) (by rw [hm]; simp) (by rw [hm]; simp) w (mv_nil w hm) (mv_nil w hm)
  rw [same_yes rfl rfl rfl rfl rfl ((sameB_iff _ _).2 rfl) rfl rfl rfl rfl rfl rfl rfl] at h
  exact h
set_option maxHeartbeats 3200000 in
theorem parses_walk (s : ByteArray) (W : World) (hv : PV W) : Calls Tryd.prog 3 #[.string s] W fun e w' => e = .returned (.bool true) ∧ Below W.heap.size W w' := by
  have HV := Lib.hid hv
  clear hv
  by_cases hs : s.size ≤ 20000
  · have h0 : decide (20000 < (s.size : Int)) = false := decide_eq_false (by omega)
    have HS : Hid (s.size ≤ 1000000) := Lib.hid (by omega)
    clear hs
    obtain ⟨q, er, hpr, hqm⟩ := parseR_form s.data.toList
    have HPR := Lib.hid hpr
    have HQM := Lib.hid hqm
    obtain ⟨ct, hct⟩ : ∃ ct, ct = cellsS q noV 0 noV := ⟨_, rfl⟩
    have HCT := Lib.hid hct
    have C1 : Hid (ct.all (·.oneCell') = true) := Lib.hid (by rw [hct]; exact cells_one _ _)
    have C2 : Hid ((Tryd.prog.info? 32).map (·.size) = some ct.size) := Lib.hid (by rw [hct]; exact stepSize)
    have C3 : Hid (zeroS.size = ct.size) := Lib.hid (by rw [hct]; rfl)
    rw [← hct] at HPR
    clear hct hpr hqm
    go_enter Tryd.func3, Tryd.ntmps3
    go_wp2_with fail
    refine (Parse_any s HS.out W HV.out).mono ?_
    rintro e w1 ⟨rfl, hb1⟩
    have HB1 := Lib.hid hb1
    clear hb1
    rw [HPR.out]
    have HB2 : Hid (Below W.heap.size W ((w1.alloc (.cells zeroS 32)).setRow w1.heap.size ct)) := Lib.hid (below_row (HB1.out.alloc HB1.out.size _) HB1.out.size _)
    have HS2 : Hid (((w1.alloc (.cells zeroS 32)).setRow w1.heap.size ct).heap[w1.heap.size]? = some (.cells ct 32 (0, 0))) := Lib.hid (setRow_heap _ _ _ _ _ _ (heap_alloc_new _ _))
    go_wp2_with ((with_reducible (refine wpList_store_rowTo rfl 32 (Operand.tmp 3) (Operand.tmp 14) rfl rfl w1.heap.size ct ?_ ?_ 32 zeroS ?_ ?_ ?_ ?_ ?_)); (· rfl); (· rfl); (· exact heap_alloc_new _ _); (· exact C2.out); (· exact C3.out); (· exact C1.out); change wpList _ _ _ _ _ ((w1.alloc (.cells zeroS 32)).setRow w1.heap.size ct); generalize (w1.alloc (.cells zeroS 32)).setRow w1.heap.size ct = w2 at *; generalize w1.heap.size = sb at *)
    refine (RParse_any s HS.out w2).mono ?_
    rintro e w3 ⟨rfl, hb3⟩
    have HB3 := Lib.hid (bstep' HB2.out hb3)
    have HS3 : Hid (w3.heap[sb]? = some (.cells ct 32 (0, 0))) := Lib.hid ((hb3.block _ (lt_of_block HS2.out)).trans HS2.out)
    clear hb3 HS2
    rw [HPR.out]
    have HB43 : Hid (Below w3.heap.size w3 ((w3.alloc (.cells zeroS 32)).setRow w3.heap.size ct)) := Lib.hid (below_row (below_alloc _ _) (Nat.le_refl _) _)
    have HB4 := Lib.hid (bstep' HB3.out HB43.out)
    have HS4 := Lib.hid ((HB43.out.block _ (lt_of_block HS3.out)).trans HS3.out)
    have HT4 : Hid (((w3.alloc (.cells zeroS 32)).setRow w3.heap.size ct).heap[w3.heap.size]? = some (.cells ct 32 (0, 0))) := Lib.hid (setRow_heap _ _ _ _ _ _ (heap_alloc_new _ _))
    go_wp2_with (first
      | ((with_reducible (refine wpList_store_rowTo rfl 32 (Operand.tmp 5) (Operand.tmp 19) rfl rfl w3.heap.size ct ?_ ?_ 32 zeroS ?_ ?_ ?_ ?_ ?_)); (· rfl); (· rfl); (· exact heap_alloc_new _ _); (· exact C2.out); (· exact C3.out); (· exact C1.out); change wpList _ _ _ _ _ ((w3.alloc (.cells zeroS 32)).setRow w3.heap.size ct); generalize (w3.alloc (.cells zeroS 32)).setRow w3.heap.size ct = w4 at *; generalize w3.heap.size = tb at *)
      | ((with_reducible (refine wpList_load_row rfl 32 (Operand.tmp 3) rfl sb ?_ 32 ct (0, 0) _ ?_ Tryd.underlying32 ?_ ?_ ?_)); (· rfl); (· exact HS4.out); (· rfl); (· exact C2.out))
      | ((with_reducible (refine wpList_load_row rfl 32 (Operand.tmp 5) rfl tb ?_ 32 ct (0, 0) _ ?_ Tryd.underlying32 ?_ ?_ ?_)); (· rfl); (· exact HT4.out); (· rfl); (· exact C2.out)))
    have hsa := rsame_true q HQM.out w4
    rw [← HCT.out] at hsa
    refine hsa.mono ?_
    rintro e w5 ⟨rfl, hb5⟩
    have HB5 := Lib.hid (bstep' HB4.out hb5)
    clear hsa hb5
    go_wp2_with fail
    refine (wakes_any w5 (HV.out.keep HB5.out)).mono ?_
    rintro e w6 ⟨rfl, hb6⟩
    have HB6 := Lib.hid (bstep' HB5.out hb6)
    clear hb6
    go_wp2_with fail
    go_ret
    exact ⟨rfl, HB6.out⟩
  · have h0 : 20000 < (s.size : Int) := by omega
    clear hs
    go_enter Tryd.func3, Tryd.ntmps3
    go_wp2_with fail
    refine (wakes_any W HV.out).mono ?_
    rintro e w6 ⟨rfl, hb6⟩
    have HB6 := Lib.hid hb6
    clear hb6
    go_wp2_with fail
    go_ret
    exact ⟨rfl, HB6.out⟩
end Go.Proofs.YtiffmigihhcgcaaDoor.ConW
