/- The laws of path: wakes, PathInside, PathTells. -/
import Derived.Test.YtgpaneboohiojaaPathRef2
namespace Go.Proofs.Ytgpaneboohiojaa.PathW
open Go.RowKit
theorem names_is (p : ByteArray) (hs : p.size ≤ 140737488355328) (N : Option (List (List UInt8))) (hN : namesR p.data.toList = N) (w : World) :
    Calls Try.prog 24 #[.string p] w fun e w' => ∃ v, e = .returned (.tuple #[v, .bool N.isSome]) ∧ Strs w.heap.size w' v (N.getD []) ∧ Below w.heap.size w w' := by
  rw [← hN]; exact names_any p hs w
theorem good_is (p : ByteArray) (hs : p.size ≤ 140737488355328) (b : Bool) (hb : (namesR p.data.toList).isSome = b) (w : World) :
    Calls Try.prog 13 #[.string p] w fun e w' => e = .returned (.bool b) ∧ Below w.heap.size w w' := by
  rw [← hb]; exact good_any p hs w
theorem inside_is (p q : ByteArray) (hp : p.size ≤ 140737488355328) (hq : q.size ≤ 140737488355328) (b : Bool) (hb : insideR p.data.toList q.data.toList = b) (w : World) :
    Calls Try.prog 11 #[.string p, .string q] w fun e w' => e = .returned (.bool b) ∧ Below w.heap.size w w' := by
  rw [← hb]; exact inside_any p q hp hq w
theorem up_is (p : ByteArray) (hs : p.size ≤ 140737488355328) (d n : ByteArray) (b : Bool) (h : upR p.data.toList = (d.data.toList, n.data.toList, b)) (w : World) :
    Calls Try.prog 16 #[.string p] w fun e w' => e = .returned (.tuple #[.string d, .string n, .bool b]) ∧ Below w.heap.size w w' := by
  have := up_any p hs w
  rwa [h] at this
set_option maxHeartbeats 800000 in
theorem wakes_any (w : World) : Calls Try.prog 7 #[] w fun e w' => e = .returned (.bool true) ∧ Below w.heap.size w w' := by
  have h1 : Hid (upR [47, 97, 47, 98] = ([47, 97], [98], true)) := Lib.hid (by decide +kernel)
  have h2 : Hid (insideR [47, 97, 47, 98] [47, 97] = true) := Lib.hid (by decide +kernel)
  have h3 : Hid (insideR [47, 97, 98] [47, 97] = false) := Lib.hid (by decide +kernel)
  have h4 : Hid ((namesR [47]).isSome = true) := Lib.hid (by decide +kernel)
  have h5 : Hid ((namesR [47, 97, 47]).isSome = false) := Lib.hid (by decide +kernel)
  have h6 : Hid (nameB [97, 95, 49] = true) := Lib.hid (by decide +kernel)
  go_enter Try.func7, Try.ntmps7
  go_wp2_with fail
  refine (up_is ⟨#[47, 97, 47, 98]⟩ (by decide) ⟨#[47, 97]⟩ ⟨#[98]⟩ true h1.out _).mono ?_
  rintro e w1 ⟨rfl, hb1⟩
  have HB1 := Lib.hid hb1
  clear hb1
  go_wp2_with fail
  refine (inside_is ⟨#[47, 97, 47, 98]⟩ ⟨#[47, 97]⟩ (by decide) (by decide) true h2.out _).mono ?_
  rintro e w2 ⟨rfl, hb2⟩
  have HB2 := Lib.hid (bstep HB1.out hb2)
  clear hb2
  go_wp2_with fail
  refine (inside_is ⟨#[47, 97, 98]⟩ ⟨#[47, 97]⟩ (by decide) (by decide) false h3.out _).mono ?_
  rintro e w3 ⟨rfl, hb3⟩
  have HB3 := Lib.hid (bstep HB2.out hb3)
  clear hb3
  go_wp2_with fail
  refine (good_is ⟨#[47]⟩ (by decide) true h4.out _).mono ?_
  rintro e w4 ⟨rfl, hb4⟩
  have HB4 := Lib.hid (bstep HB3.out hb4)
  clear hb4
  go_wp2_with fail
  refine (good_is ⟨#[47, 97, 47]⟩ (by decide) false h5.out _).mono ?_
  rintro e w5 ⟨rfl, hb5⟩
  have HB5 := Lib.hid (bstep HB4.out hb5)
  clear hb5
  go_wp2_with fail
  refine (name_is ⟨#[97, 95, 49]⟩ true h6.out (by decide) _).mono ?_
  rintro e w6 ⟨rfl, rfl⟩
  go_wp2
  go_ret
  exact ⟨rfl, HB5.out⟩
set_option maxHeartbeats 1600000 in
theorem insides_walk (p : ByteArray) (_ : p.size ≤ maxLen) (q : ByteArray) (_ : q.size ≤ maxLen) (w : World) :
    Calls Try.prog 4 #[.string p, .string q] w fun e w' => e = .returned (.bool true) ∧ Below w.heap.size w w' := by
  by_cases h : 20000 < p.size ∨ 20000 < q.size
  · by_cases h1 : 20000 < p.size
    · clear h
      go_enter Try.func4, Try.ntmps4
      go_wp2_with (go_at_call 7; refine (wakes_any _).mono ?_; rintro e w1 ⟨rfl, hb⟩)
      go_ret
      exact ⟨rfl, hb⟩
    · have h2 : 20000 < q.size := by omega
      clear h
      go_enter Try.func4, Try.ntmps4
      go_wp2_with (go_at_call 7; refine (wakes_any _).mono ?_; rintro e w1 ⟨rfl, hb⟩)
      go_ret
      exact ⟨rfl, hb⟩
  · have hp : p.size ≤ 20000 := by omega
    have hq : q.size ≤ 20000 := by omega
    clear h
    have HP := Lib.hid (show p.size ≤ 140737488355328 by omega)
    have HQ := Lib.hid (show q.size ≤ 140737488355328 by omega)
    have HP1 := Lib.hid (show p.size ≤ 1000000 by omega)
    have HQ1 := Lib.hid (show q.size ≤ 1000000 by omega)
    obtain ⟨b, hb⟩ : ∃ b, insideR p.data.toList q.data.toList = b := ⟨_, rfl⟩
    have HI := Lib.hid hb
    have HBE : Hid ((b == b) = true) := Lib.hid (by simp)
    clear hb
    cases hN : namesR p.data.toList with
    | none =>
      have HG : Hid ((namesR p.data.toList).isSome = false) := Lib.hid (by rw [hN]; rfl)
      clear hN
      cases b
      all_goals
        go_enter Try.func4, Try.ntmps4
        go_wp2_with (first
          | (go_at_call 11; refine (inside_is p q HP.out HQ.out _ HI.out _).mono ?_; rintro e w1 ⟨rfl, hb1⟩; have HB1 := Lib.hid hb1; clear hb1)
          | (go_at_call 12; refine (rinside_any p q HP1.out HQ1.out _).mono ?_; rintro e w2 ⟨he, hb2⟩; rw [HI.out] at he; subst he; have HB2 := Lib.hid (bstep HB1.out hb2); clear hb2)
          | (go_at_call 13; refine (good_is p HP.out false HG.out _).mono ?_; rintro e w3 ⟨rfl, hb3⟩; have HB3 := Lib.hid (bstep HB2.out hb3); clear hb3)
          | (go_at_call 7; refine (wakes_any _).mono ?_; rintro e w4 ⟨rfl, hb4⟩; have HB4 := Lib.hid (bstep HB3.out hb4); clear hb4))
        go_ret
        exact ⟨rfl, HB4.out⟩
    | some l =>
      have HG : Hid ((namesR p.data.toList).isSome = true) := Lib.hid (by rw [hN]; rfl)
      have HI2 : Hid (insideR p.data.toList p.data.toList = true) := Lib.hid (by rw [insideR, hN]; simp)
      have HI3 : Hid (insideR p.data.toList (⟨#[47]⟩ : ByteArray).data.toList = true) := Lib.hid (by rw [insideR, hN]; simp [namesR])
      clear hN
      cases b
      all_goals
        go_enter Try.func4, Try.ntmps4
        go_wp2_with fail
        refine (inside_is p q HP.out HQ.out _ HI.out _).mono ?_
        rintro e w1 ⟨rfl, hb1⟩
        have HB1 := Lib.hid hb1
        clear hb1
        go_wp2_with fail
        refine (rinside_any p q HP1.out HQ1.out _).mono ?_
        rintro e w2 ⟨he, hb2⟩
        rw [HI.out] at he
        subst he
        have HB2 := Lib.hid (bstep HB1.out hb2)
        clear hb2
        go_wp2_with fail
        refine (good_is p HP.out true HG.out _).mono ?_
        rintro e w3 ⟨rfl, hb3⟩
        have HB3 := Lib.hid (bstep HB2.out hb3)
        clear hb3
        go_wp2_with fail
        refine (inside_is p p HP.out HP.out _ HI2.out _).mono ?_
        rintro e w4 ⟨rfl, hb4⟩
        have HB4 := Lib.hid (bstep HB3.out hb4)
        clear hb4
        go_wp2_with fail
        refine (inside_is p ⟨#[47]⟩ HP.out (by decide) _ HI3.out _).mono ?_
        rintro e w5 ⟨rfl, hb5⟩
        have HB5 := Lib.hid (bstep HB4.out hb5)
        clear hb5
        go_wp2_with (go_at_call 7; refine (wakes_any _).mono ?_; rintro e w4 ⟨rfl, hb6⟩; have HB6 := Lib.hid (bstep HB5.out hb6); clear hb6)
        go_ret
        exact ⟨rfl, HB6.out⟩
end Go.Proofs.Ytgpaneboohiojaa.PathW
