/- ConsoleBack. -/
import Derived.Test.YtiffmigihhcgcaaDoorConLaws
import Derived.Test.YtiffmigihhcgcaaDoorConLarge
import Derived.Test.YtiffmigihhcgcaaDoorConOpen
namespace Go.Proofs.YtiffmigihhcgcaaDoor.ConW
set_option maxRecDepth 100000
set_option linter.constructorNameAsVariable false
set_option linter.unusedVariables false
open Go.RowKit ConP OpP OpW
theorem lineR_some {s : Stp} {z : Bool} {t : Bs} (h : lineP s z = some t) : lineR s z = .tuple #[.string (bs t), .int .i64 0] := by unfold lineR; rw [h]
theorem lineR_none {s : Stp} {z : Bool} (h : lineP s z = none) : lineR s z = .tuple #[.string ⟨#[]⟩, .int .i64 11] := by unfold lineR; rw [h]
theorem says_z {t : Bs} {s : Stp} {z : Bool} (h : saysB t s z = true) : parseP (wds t) = some s ∧ z = true := by
  unfold saysB at h
  cases hp : parseP (wds t) with
  | none => rw [hp] at h; cases h
  | some q =>
    rw [hp] at h
    simp only [Bool.and_eq_true, sameS_iff] at h
    exact ⟨by rw [h.1], h.2⟩
theorem lineP_len {s : Stp} {z : Bool} {t : Bs} (h : lineP s z = some t) (hl : ∀ x ∈ forms, x.key = s.key → (joinW (lineL x s)).length ≤ 1000000) : t.length ≤ 1000000 := by
  unfold lineP at h
  obtain ⟨x, hx, he⟩ := List.exists_of_findSome?_eq_some h
  split at he
  · rename_i hk
    unfold tryF at he
    split at he
    · injection he with he
      rw [← he]; exact hl x hx hk
    · cases he
  · cases he
set_option maxHeartbeats 6400000 in
theorem back_walk (s : Stp) (oa : Option Addr) (n cc : Nat) (z : Int) (pa : Option Addr) (pn pc : Nat) (hn : n = s.a.o.m.length) (hi : Ints s) (line : ByteArray) (W : World) (hv : PV W) (hm : MvAt W oa s.a.o.m) (hch : ChAt W pa pn) :
    Calls Tryd.prog 4 #[.agg (cellsS s (.slice oa n cc) z (.slice pa pn pc)), .string line] W fun e w' => e = .returned (.bool true) ∧ Below W.heap.size W w' := by
  have HV := Lib.hid hv
  have HN := Lib.hid hn
  have HI := Lib.hid hi
  have HM := Lib.hid hm
  have HCH := Lib.hid hch
  obtain ⟨ss, hss⟩ : ∃ ss, ss = cellsS s (.slice oa n cc) z (.slice pa pn pc) := ⟨_, rfl⟩
  have HSS := Lib.hid hss
  have S2 : Hid ((Tryd.prog.info? 32).map (·.size) = some ss.size) := Lib.hid (by rw [hss]; exact stepSize)
  have HB1 := Lib.hid (below_alloc W (.cells ss 32))
  have HSB : Hid ((W.alloc (.cells ss 32)).heap[W.heap.size]? = some (.cells ss 32 (0, 0))) := Lib.hid (heap_alloc_new _ _)
  rw [← hss]
  clear hv hn hi hm hch hss
  go_enter Tryd.func4, Tryd.ntmps4
  go_wp2_with ((with_reducible (refine wpList_load_row rfl 32 (Operand.tmp 2) rfl W.heap.size ?_ 32 ss (0, 0) _ ?_ Tryd.underlying32 ?_ ?_ ?_)); (· rfl); (· exact HSB.out); (· rfl); (· exact S2.out))
  generalize W.alloc (.cells ss 32) = w1 at *
  obtain ⟨sb, hsb⟩ : ∃ sb, sb = W.heap.size := ⟨_, rfl⟩
  rw [← hsb] at HSB
  rw [← hsb]
  clear hsb
  have hla := large_s s oa pa n cc pn pc HN.out z w1 (HCH.out.keep HB1.out)
  rw [← HSS.out] at hla
  refine hla.mono ?_
  rintro e w2 ⟨⟨lb, rfl, hsm⟩, hb2⟩
  have HB2 : Hid (Below W.heap.size W w2) := Lib.hid (bstep' HB1.out hb2)
  have HSB2 : Hid (w2.heap[sb]? = some (.cells ss 32 (0, 0))) := Lib.hid ((hb2.block _ (lt_of_block HSB.out)).trans HSB.out)
  have HSM := Lib.hid hsm
  clear hla hsm hb2 HSB
  cases lb with
  | true =>
    go_wp2_with fail
    refine (wakes_any w2 (HV.out.keep HB2.out)).mono ?_
    rintro e w6 ⟨rfl, hb6⟩
    have HB6 := Lib.hid (bstep' HB2.out hb6)
    clear hb6
    go_wp2_with fail
    go_ret
    exact ⟨rfl, HB6.out⟩
  | false =>
    have HSML : Hid (SmallS s) := Lib.hid (HSM.out rfl)
    by_cases hls : 20000 < (line.size : Int)
    · go_wp2_with fail
      refine (wakes_any w2 (HV.out.keep HB2.out)).mono ?_
      rintro e w6 ⟨rfl, hb6⟩
      have HB6 := Lib.hid (bstep' HB2.out hb6)
      clear hb6
      go_wp2_with fail
      go_ret
      exact ⟨rfl, HB6.out⟩
    have HLS : Hid (line.size ≤ 1000000) := Lib.hid (by omega)
    have HLT : Hid (line.data.toList.length ≤ 1000000) := Lib.hid (by
      have e : line.data.toList.length = line.size := by simp
      rw [e]; exact HLS.out)
    have h0 : decide (20000 < (line.size : Int)) = false := decide_eq_false hls
    clear hls
    go_wp2_with ((with_reducible (refine wpList_load_row rfl 32 (Operand.tmp 2) rfl sb ?_ 32 ss (0, 0) _ ?_ Tryd.underlying32 ?_ ?_ ?_)); (· rfl); (· exact HSB2.out); (· rfl); (· exact S2.out))
    clear h0
    have hln := Line_any s (small_num HSML.out HI.out) (lineL_len HSML.out HI.out) oa pa n cc pn pc HN.out (by have := HSML.out.1.2.2.2; omega) z w2 (HM.out.grow HB2.out) (HV.out.keep HB2.out)
    rw [← HSS.out] at hln
    refine hln.mono ?_
    rintro e w3 ⟨rfl, hb3⟩
    have HB3 := Lib.hid (bstep' HB2.out hb3)
    have HSB3 : Hid (w3.heap[sb]? = some (.cells ss 32 (0, 0))) := Lib.hid ((hb3.block _ (lt_of_block HSB2.out)).trans HSB2.out)
    clear hln hb3
    cases hp : lineP s ((0 : Int) == z && 0 == pn) with
    | none =>
      rw [lineR_none hp]
      clear hp
      go_wp2_with fail
      refine (Parse_any line HLS.out w3 (HV.out.keep HB3.out)).mono ?_
      rintro e u1 ⟨rfl, hb1⟩
      have UB1 := Lib.hid (bstep' HB3.out hb1)
      clear hb1
      cases hpl : parseP (wds line.data.toList) with
      | none =>
        rw [parseR_none hpl]
        clear hpl
        have UB2 : Hid (Below W.heap.size W ((u1.alloc (.cells zeroS 32)).setRow u1.heap.size zeroS)) := Lib.hid (below_row (UB1.out.alloc UB1.out.size _) UB1.out.size _)
        have hz0 : ((u1.alloc (.cells zeroS 32)).setRow u1.heap.size zeroS).cell? ⟨u1.heap.size, 0, none⟩ = some (.int .i64 0) := by rw [Lib.cell_of_heap (setRow_heap _ _ _ _ _ _ (heap_alloc_new _ _))]; rfl
        go_wp2_with ((with_reducible (refine wpList_store_rowTo rfl 32 (Operand.tmp 9) (Operand.tmp 44) rfl rfl u1.heap.size zeroS ?_ ?_ 32 zeroS ?_ ?_ ?_ ?_ ?_)); (· rfl); (· rfl); (· exact heap_alloc_new _ _); (· exact zeroS_size); (· rfl); (· exact zeroS_one); change wpList _ _ _ _ _ ((u1.alloc (.cells zeroS 32)).setRow u1.heap.size zeroS); generalize (u1.alloc (.cells zeroS 32)).setRow u1.heap.size zeroS = u2 at *; generalize u1.heap.size = ub at *)
        refine (wakes_any u2 (HV.out.keep UB2.out)).mono ?_
        rintro e u3 ⟨rfl, hb3⟩
        have UB3 := Lib.hid (bstep' UB2.out hb3)
        clear hb3
        go_wp2_with fail
        go_ret
        exact ⟨rfl, UB3.out⟩
      | some q =>
        obtain ⟨ct, hct⟩ : ∃ ct, ct = cellsS q noV 0 noV := ⟨_, rfl⟩
        have C1 : Hid (ct.all (·.oneCell') = true) := Lib.hid (by rw [hct]; exact cells_one _ _)
        have C2 : Hid ((Tryd.prog.info? 32).map (·.size) = some ct.size) := Lib.hid (by rw [hct]; exact stepSize)
        have C3 : Hid (zeroS.size = ct.size) := Lib.hid (by rw [hct]; rfl)
        have HPR := parseR_some hpl
        rw [← hct] at HPR
        rw [HPR]
        have HLN : Hid (∀ u, PV u → Calls Tryd.prog 11 #[.agg ct] u fun e w' => e = .returned (.tuple #[.string line, .int .i64 0]) ∧ Below u.heap.size u w') := Lib.hid (fun u hu => by
          have := Line_read hpl HLT.out u hu
          rw [← hct, bs_of] at this
          exact this)
        have UB2 : Hid (Below W.heap.size W ((u1.alloc (.cells zeroS 32)).setRow u1.heap.size ct)) := Lib.hid (below_row (UB1.out.alloc UB1.out.size _) UB1.out.size _)
        have US2 : Hid (((u1.alloc (.cells zeroS 32)).setRow u1.heap.size ct).heap[u1.heap.size]? = some (.cells ct 32 (0, 0))) := Lib.hid (setRow_heap _ _ _ _ _ _ (heap_alloc_new _ _))
        clear hct hpl HPR
        go_wp2_with (first
          | ((with_reducible (refine wpList_store_rowTo rfl 32 (Operand.tmp 9) (Operand.tmp 44) rfl rfl u1.heap.size ct ?_ ?_ 32 zeroS ?_ ?_ ?_ ?_ ?_)); (· rfl); (· rfl); (· exact heap_alloc_new _ _); (· exact C2.out); (· exact C3.out); (· exact C1.out); change wpList _ _ _ _ _ ((u1.alloc (.cells zeroS 32)).setRow u1.heap.size ct); generalize (u1.alloc (.cells zeroS 32)).setRow u1.heap.size ct = u2 at *; generalize u1.heap.size = ub at *)
          | ((with_reducible (refine wpList_load_row rfl 32 (Operand.tmp 9) rfl ub ?_ 32 ct (0, 0) _ ?_ Tryd.underlying32 ?_ ?_ ?_)); (· rfl); (· exact US2.out); (· rfl); (· exact C2.out)))
        refine (HLN.out u2 (HV.out.keep UB2.out)).mono ?_
        rintro e u3 ⟨rfl, hb3⟩
        have UB3 := Lib.hid (bstep' UB2.out hb3)
        clear hb3
        have heq : (line.toList == line.toList) = true := beq_self_eq_true _
        go_wp2_with fail
        refine (wakes_any u3 (HV.out.keep UB3.out)).mono ?_
        rintro e u4 ⟨rfl, hb4⟩
        have UB4 := Lib.hid (bstep' UB3.out hb4)
        clear hb4
        go_wp2_with fail
        go_ret
        exact ⟨rfl, UB4.out⟩
    | some tx =>
      rw [lineR_some hp]
      have HPZ := says_z (lineP_says hp)
      have HTL : Hid ((bs tx).size ≤ 1000000) := Lib.hid (by rw [bs_size]; exact lineP_len hp (lineL_len HSML.out HI.out))
      obtain ⟨hps, hz⟩ := HPZ
      simp only [Bool.and_eq_true, beq_iff_eq] at hz
      obtain ⟨rfl, rfl⟩ := hz
      have hqm := parseP_m hps
      obtain ⟨ct, hct⟩ : ∃ ct, ct = cellsS s noV 0 noV := ⟨_, rfl⟩
      have C1 : Hid (ct.all (·.oneCell') = true) := Lib.hid (by rw [hct]; exact cells_one _ _)
      have C2 : Hid ((Tryd.prog.info? 32).map (·.size) = some ct.size) := Lib.hid (by rw [hct]; exact stepSize)
      have C3 : Hid (zeroS.size = ct.size) := Lib.hid (by rw [hct]; rfl)
      have HPY : Hid (∀ u, PV u → Calls Tryd.prog 7 #[.string (bs tx)] u fun e w' => e = .returned (.tuple #[.agg ct, .int .i64 0]) ∧ Below u.heap.size u w') := Lib.hid (fun u hu => by
        have := Parse_yes (bs tx) HTL.out s hps u hu
        rw [← hct] at this
        exact this)
      have HSA : Hid (∀ u, Below W.heap.size W u → Calls Tryd.prog 9 #[.agg ss, .agg ct] u fun e w' => e = .returned (.bool true) ∧ Below u.heap.size u w') := Lib.hid (fun u hu => by
        have h := rsame_any s s oa none pa none n 0 cc 0 0 0 pc 0 0 0 (fun _ => rfl) HN.out (by rw [hqm]; rfl) (by rw [hqm]; simp) (by rw [hqm]; simp) u (HM.out.grow hu) (mv_nil u hqm)
        rw [same_yes rfl rfl rfl rfl rfl ((sameB_iff _ _).2 rfl) rfl rfl rfl rfl rfl rfl rfl] at h
        rw [← HSS.out, show cellsS s (.slice none 0 0) 0 (.slice none 0 0) = ct from hct.symm] at h
        exact h)
      clear hct hqm hps hp
      go_wp2_with fail
      refine (HPY.out w3 (HV.out.keep HB3.out)).mono ?_
      rintro e w4 ⟨rfl, hb4⟩
      have HB4 := Lib.hid (bstep' HB3.out hb4)
      have HSB4 : Hid (w4.heap[sb]? = some (.cells ss 32 (0, 0))) := Lib.hid ((hb4.block _ (lt_of_block HSB3.out)).trans HSB3.out)
      clear hb4
      have HB54 : Hid (Below w4.heap.size w4 ((w4.alloc (.cells zeroS 32)).setRow w4.heap.size ct)) := Lib.hid (below_row (below_alloc _ _) (Nat.le_refl _) _)
      have HB5 := Lib.hid (bstep' HB4.out HB54.out)
      have HS5 := Lib.hid ((HB54.out.block _ (lt_of_block HSB4.out)).trans HSB4.out)
      have HT5 : Hid (((w4.alloc (.cells zeroS 32)).setRow w4.heap.size ct).heap[w4.heap.size]? = some (.cells ct 32 (0, 0))) := Lib.hid (setRow_heap _ _ _ _ _ _ (heap_alloc_new _ _))
      go_wp2_with (first
        | ((with_reducible (refine wpList_store_rowTo rfl 32 (Operand.tmp 7) (Operand.tmp 31) rfl rfl w4.heap.size ct ?_ ?_ 32 zeroS ?_ ?_ ?_ ?_ ?_)); (· rfl); (· rfl); (· exact heap_alloc_new _ _); (· exact C2.out); (· exact C3.out); (· exact C1.out); change wpList _ _ _ _ _ ((w4.alloc (.cells zeroS 32)).setRow w4.heap.size ct); generalize (w4.alloc (.cells zeroS 32)).setRow w4.heap.size ct = w5 at *; generalize w4.heap.size = tb at *)
        | ((with_reducible (refine wpList_load_rowG ?_ 32 (Operand.tmp 2) rfl sb ?_ 32 ss (0, 0) _ ?_ Tryd.underlying32 ?_ ?_ ?_)); (· rfl); (· rfl); (· exact HS5.out); (· rfl); (· exact S2.out))
        | ((with_reducible (refine wpList_load_rowG ?_ 32 (Operand.tmp 7) rfl tb ?_ 32 ct (0, 0) _ ?_ Tryd.underlying32 ?_ ?_ ?_)); (· rfl); (· rfl); (· exact HT5.out); (· rfl); (· exact C2.out)))
      refine (HSA.out w5 HB5.out).mono ?_
      rintro e w6 ⟨rfl, hb6⟩
      have HB6 := Lib.hid (bstep' HB5.out hb6)
      clear hb6 C1 C2 C3
      go_wp2_with fail
      refine (Parse_any line HLS.out w6 (HV.out.keep HB6.out)).mono ?_
      rintro e u1 ⟨rfl, hb1⟩
      have UB1 := Lib.hid (bstep' HB6.out hb1)
      clear hb1
      cases hpl : parseP (wds line.data.toList) with
      | none =>
        rw [parseR_none hpl]
        clear hpl
        have UB2 : Hid (Below W.heap.size W ((u1.alloc (.cells zeroS 32)).setRow u1.heap.size zeroS)) := Lib.hid (below_row (UB1.out.alloc UB1.out.size _) UB1.out.size _)
        have hz0 : ((u1.alloc (.cells zeroS 32)).setRow u1.heap.size zeroS).cell? ⟨u1.heap.size, 0, none⟩ = some (.int .i64 0) := by rw [Lib.cell_of_heap (setRow_heap _ _ _ _ _ _ (heap_alloc_new _ _))]; rfl
        go_wp2_with ((with_reducible (refine wpList_store_rowTo rfl 32 (Operand.tmp 9) (Operand.tmp 44) rfl rfl u1.heap.size zeroS ?_ ?_ 32 zeroS ?_ ?_ ?_ ?_ ?_)); (· rfl); (· rfl); (· exact heap_alloc_new _ _); (· exact zeroS_size); (· rfl); (· exact zeroS_one); change wpList _ _ _ _ _ ((u1.alloc (.cells zeroS 32)).setRow u1.heap.size zeroS); generalize (u1.alloc (.cells zeroS 32)).setRow u1.heap.size zeroS = u2 at *; generalize u1.heap.size = ub at *)
        refine (wakes_any u2 (HV.out.keep UB2.out)).mono ?_
        rintro e u3 ⟨rfl, hb3⟩
        have UB3 := Lib.hid (bstep' UB2.out hb3)
        clear hb3
        go_wp2_with fail
        go_ret
        exact ⟨rfl, UB3.out⟩
      | some q =>
        obtain ⟨ct, hct⟩ : ∃ ct, ct = cellsS q noV 0 noV := ⟨_, rfl⟩
        have C1 : Hid (ct.all (·.oneCell') = true) := Lib.hid (by rw [hct]; exact cells_one _ _)
        have C2 : Hid ((Tryd.prog.info? 32).map (·.size) = some ct.size) := Lib.hid (by rw [hct]; exact stepSize)
        have C3 : Hid (zeroS.size = ct.size) := Lib.hid (by rw [hct]; rfl)
        have HPR := parseR_some hpl
        rw [← hct] at HPR
        rw [HPR]
        have HLN : Hid (∀ u, PV u → Calls Tryd.prog 11 #[.agg ct] u fun e w' => e = .returned (.tuple #[.string line, .int .i64 0]) ∧ Below u.heap.size u w') := Lib.hid (fun u hu => by
          have := Line_read hpl HLT.out u hu
          rw [← hct, bs_of] at this
          exact this)
        have UB2 : Hid (Below W.heap.size W ((u1.alloc (.cells zeroS 32)).setRow u1.heap.size ct)) := Lib.hid (below_row (UB1.out.alloc UB1.out.size _) UB1.out.size _)
        have US2 : Hid (((u1.alloc (.cells zeroS 32)).setRow u1.heap.size ct).heap[u1.heap.size]? = some (.cells ct 32 (0, 0))) := Lib.hid (setRow_heap _ _ _ _ _ _ (heap_alloc_new _ _))
        clear hct hpl HPR
        go_wp2_with (first
          | ((with_reducible (refine wpList_store_rowTo rfl 32 (Operand.tmp 9) (Operand.tmp 44) rfl rfl u1.heap.size ct ?_ ?_ 32 zeroS ?_ ?_ ?_ ?_ ?_)); (· rfl); (· rfl); (· exact heap_alloc_new _ _); (· exact C2.out); (· exact C3.out); (· exact C1.out); change wpList _ _ _ _ _ ((u1.alloc (.cells zeroS 32)).setRow u1.heap.size ct); generalize (u1.alloc (.cells zeroS 32)).setRow u1.heap.size ct = u2 at *; generalize u1.heap.size = ub at *)
          | ((with_reducible (refine wpList_load_row rfl 32 (Operand.tmp 9) rfl ub ?_ 32 ct (0, 0) _ ?_ Tryd.underlying32 ?_ ?_ ?_)); (· rfl); (· exact US2.out); (· rfl); (· exact C2.out)))
        refine (HLN.out u2 (HV.out.keep UB2.out)).mono ?_
        rintro e u3 ⟨rfl, hb3⟩
        have UB3 := Lib.hid (bstep' UB2.out hb3)
        clear hb3
        have heq : (line.toList == line.toList) = true := beq_self_eq_true _
        go_wp2_with fail
        refine (wakes_any u3 (HV.out.keep UB3.out)).mono ?_
        rintro e u4 ⟨rfl, hb4⟩
        have UB4 := Lib.hid (bstep' UB3.out hb4)
        clear hb4
        go_wp2_with fail
        go_ret
        exact ⟨rfl, UB4.out⟩
end Go.Proofs.YtiffmigihhcgcaaDoor.ConW
