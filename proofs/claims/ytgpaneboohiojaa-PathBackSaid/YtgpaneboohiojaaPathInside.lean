/- path.Inside. -/
import Derived.Test.YtgpaneboohiojaaPathUp
namespace Go.Proofs.Ytgpaneboohiojaa.PathW
open Go.RowKit
def insideR (p q : List UInt8) : Bool := match namesR p, namesR q with
  | some a, some b => decide (b.length ≤ a.length) && (a.take b.length == b)
  | _, _ => false
set_option maxHeartbeats 800000 in
theorem inside_any (p q : ByteArray) (hp : p.size ≤ 140737488355328) (hq : q.size ≤ 140737488355328) (w : World) :
    Calls Try.prog 11 #[.string p, .string q] w fun e w' => e = .returned (.bool (insideR p.data.toList q.data.toList)) ∧ Below w.heap.size w w' := by
  have hn1 := fun W => names_any p hp W
  have hn2 := fun W => names_any q hq W
  cases hN1 : namesR p.data.toList with
  | none =>
    have HR : Hid (insideR p.data.toList q.data.toList = false) := Lib.hid (by rw [insideR, hN1])
    rw [hN1] at hn1
    have H1 := Lib.hid hn1
    have H2 := Lib.hid hn2
    clear hn1 hn2 hN1
    cases hb : (namesR q.data.toList).isSome
    all_goals
      rw [hb] at H2
      clear hb
      go_enter Try.func11, Try.ntmps11
      go_wp2_with (go_at_call_of 24 (Value.string p); refine (H1.out _).mono ?_; rintro e w1 ⟨v, rfl, hs1, hb1⟩; have HB1 := Lib.hid hb1; clear hs1 hb1)
      refine (H2.out _).mono ?_
      rintro e w2 ⟨v2, rfl, hs2, hb2⟩
      have HB2 := Lib.hid (bstep HB1.out hb2)
      clear hs2 hb2
      go_wp2
      go_ret
      exact ⟨ret_bool HR.out.symm, HB2.out⟩
  | some a =>
    cases hN2 : namesR q.data.toList with
    | none =>
      have HR : Hid (insideR p.data.toList q.data.toList = false) := Lib.hid (by rw [insideR, hN1, hN2])
      rw [hN1] at hn1
      rw [hN2] at hn2
      have H1 := Lib.hid hn1
      have H2 := Lib.hid hn2
      clear hn1 hn2 hN1 hN2
      go_enter Try.func11, Try.ntmps11
      go_wp2_with fail
      refine (H1.out _).mono ?_
      rintro e w1 ⟨v, rfl, hs1, hb1⟩
      have HB1 := Lib.hid hb1
      clear hs1 hb1
      go_wp2_with fail
      refine (H2.out _).mono ?_
      rintro e w2 ⟨v2, rfl, hs2, hb2⟩
      have HB2 := Lib.hid (bstep HB1.out hb2)
      clear hs2 hb2
      go_wp2
      go_ret
      exact ⟨ret_bool HR.out.symm, HB2.out⟩
    | some b =>
      rw [hN1] at hn1
      rw [hN2] at hn2
      have H1 := Lib.hid hn1
      have H2 := Lib.hid hn2
      have ha8 := (join_names _ a hN1).2.1
      have hb8 := (join_names _ b hN2).2.1
      by_cases hle : b.length ≤ a.length
      · have HR : Hid (insideR p.data.toList q.data.toList = (a.take b.length == b)) := Lib.hid (by rw [insideR, hN1, hN2]; simp only; rw [decide_eq_true hle, Bool.true_and])
        have HTL : Hid ((a.take b.length).length = b.length) := Lib.hid (by rw [List.length_take]; omega)
        clear hn1 hn2 hN1 hN2
        go_enter Try.func11, Try.ntmps11
        go_wp2_with fail
        refine (H1.out _).mono ?_
        rintro e w1 ⟨v, rfl, hs1, hb1⟩
        have HB1 := Lib.hid hb1
        obtain ⟨oa, ca, rfl⟩ := hs1.form
        have hcap : (a.length : Int) ≤ (ca : Int) := by have := hs1.cap.2; simp only [Option.getD_some] at this; omega
        have HA := Lib.hid (show Rds w1.heap.size w1 oa a from Rds.of_strs hs1)
        clear hs1 hb1
        go_wp2_with fail
        refine (H2.out _).mono ?_
        rintro e w2 ⟨v2, rfl, hs2, hb2⟩
        obtain ⟨ob, cb, rfl⟩ := hs2.form
        have HB := Lib.hid (show Rds w2.heap.size w2 ob b from Rds.of_strs hs2)
        have HA2 : Hid (Rds w2.heap.size w2 oa a) := Lib.hid fun i hi => by
          obtain ⟨x, e1, e2, e3⟩ := (HA.out.below hb2) i hi
          exact ⟨x, e1, Nat.lt_of_lt_of_le e2 hb2.size, e3⟩
        have HB2 := Lib.hid (bstep HB1.out hb2)
        clear hs2 hb2
        go_wp2_with (go_at_call 25; refine (equal_is _ _ _ _ _ _ (a.take b.length) b HTL.out.symm rfl (by have := HTL.out; omega) (by omega) _ (HA2.out.take _) HB.out).mono ?_; rintro e w3 ⟨rfl, hb3⟩; have HB3 := Lib.hid (bstep HB2.out hb3); clear hb3)
        go_ret
        exact ⟨ret_bool HR.out.symm, HB3.out⟩
      · have HR : Hid (insideR p.data.toList q.data.toList = false) := Lib.hid (by rw [insideR, hN1, hN2]; simp only; rw [decide_eq_false hle, Bool.false_and])
        have hd : decide ((b.length : Int) ≤ (a.length : Int)) = false := decide_eq_false (by omega)
        have hd2 : decide (b.length ≤ a.length) = false := decide_eq_false hle
        clear hn1 hn2 hN1 hN2
        go_enter Try.func11, Try.ntmps11
        go_wp2_with fail
        refine (H1.out _).mono ?_
        rintro e w1 ⟨v, rfl, hs1, hb1⟩
        have HB1 := Lib.hid hb1
        obtain ⟨oa, ca, rfl⟩ := hs1.form
        clear hs1 hb1
        go_wp2_with fail
        refine (H2.out _).mono ?_
        rintro e w2 ⟨v2, rfl, hs2, hb2⟩
        obtain ⟨ob, cb, rfl⟩ := hs2.form
        have HB2 := Lib.hid (bstep HB1.out hb2)
        clear hs2 hb2
        go_wp2
        go_ret
        exact ⟨ret_bool HR.out.symm, HB2.out⟩
end Go.Proofs.Ytgpaneboohiojaa.PathW
