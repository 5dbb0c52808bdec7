/- The law's own test that the code is awake. -/
import Derived.Test.YtonckbnmamlilaaPackRUn2
namespace Go.Proofs.Ytonckbnmamlilaa.PackW
open Go.RowKit
theorem UIs.of {b : Nat} {s : ByteArray} {w : World} (h : UAt b s false w) (hs : s.size ≤ 140737488355328) : UIs b s.data.toList false w := ⟨s, h, hs, fun _ => rfl⟩
set_option maxHeartbeats 400000 in
theorem wakes_any (w : World) : Calls Try.prog 8 #[] w fun e w' => e = .returned (.bool true) ∧ Below w.heap.size w w' := by
  have h1 : Hid (numL [] 5 2 = [0, 5] ∧ numB false 5 2 = false) := Lib.hid (by decide +kernel)
  have h2 : Hid (textL [0, 5] [97] = [0, 5, 0, 1, 97] ∧ textB false [97] = false) := Lib.hid (by decide +kernel)
  have h3 : Hid (doneS [0, 5, 0, 1, 97] false = ⟨#[0, 5, 0, 1, 97]⟩ ∧ doneE [0, 5, 0, 1, 97] false = 0) := Lib.hid (by decide +kernel)
  have h4 : Hid (numA [0, 5, 0, 1, 97] false 2 = 5 ∧ numG [0, 5, 0, 1, 97] false 2 = false ∧ ([0, 5, 0, 1, 97] : List UInt8).drop (Int.toNat 2) = [0, 1, 97]) := Lib.hid (by decide +kernel)
  have h5 : Hid (textA [0, 1, 97] false 9 = ⟨#[97]⟩ ∧ textG [0, 1, 97] false 9 = false ∧ (([0, 1, 97] : List UInt8).drop 2).drop (ShiftP.getN ([0, 1, 97].take 2)) = []) := Lib.hid (by decide +kernel)
  have h6 : Hid (endA [] false = 0) := Lib.hid (by decide +kernel)
  go_enter Try.func8, Try.ntmps8
  go_wp2_with (first
    | (go_at_call 9; refine (new_any _).mono ?_; rintro e w1 ⟨rfl, hp1, hb1, hz1⟩; have HP1 := Lib.hid hp1; have HL1 : Hid (w.heap.size ≤ w1.heap.size) := Lib.hid hb1.size; have HB1 := Lib.hid hb1; clear hp1 hz1 hb1)
    | (go_at_call 13; refine (num_any _ _ _ _ 5 2 (by decide) _ HP1.out (by decide) HL1.out).mono ?_; rintro e w2 ⟨rfl, hp2, hb2⟩; rw [h1.out.1, h1.out.2] at hp2; have HP2 := Lib.hid hp2; have HB2 := Lib.hid (HB1.out.trans hb2.below); clear hp2 hb2)
    | (go_at_call 11; refine (text_any _ _ _ _ _ _ HP2.out (by decide) HB2.out.size).mono ?_; rintro e w3 ⟨rfl, hp3, hb3⟩; rw [h2.out.1, h2.out.2] at hp3; have HP3 := Lib.hid hp3; have HB3 := Lib.hid (HB2.out.trans hb3.below); clear hp3 hb3)
    | (go_at_call 15; refine (done_any _ _ _ _ _ HP3.out HB3.out.size).mono ?_; rintro e w4 ⟨he, hb4⟩; rw [h3.out.1, h3.out.2] at he; subst he; have HB4 := Lib.hid (HB3.out.trans hb4.below); clear hb4)
    | (go_at_call 17; refine (open_any _ _).mono ?_; rintro e w5 ⟨rfl, hp5, hb5, hz5⟩; have HP5 : Hid (UIs w4.heap.size [0, 5, 0, 1, 97] false w5) := Lib.hid (UIs.of hp5 (by decide)); have HB5 := Lib.hid (bstep HB4.out hb5); clear hp5 hz5 hb5)
    | (go_at_call 21; go_loud (refine (unum_any _ _ _ _ _ HP5.out).mono ?_; rintro e w6 ⟨he, hp6, hb6, hz6⟩; obtain rfl := he.trans (congrArg (fun x => Ending.returned (.int .i64 x)) h4.out.1); have HP6 : Hid (UIs w4.heap.size [0, 1, 97] false w6) := Lib.hid (by rw [← h4.out.2.2, ← h4.out.2.1]; exact hp6); have HB6 := Lib.hid (HB5.out.trans (hb6.below HB4.out.size HB5.out.size)); clear hp6 hz6 hb6))
    | (go_at_call 19; refine (utext_any _ _ _ 9 _ HP6.out).mono ?_; rintro e w7 ⟨he, ⟨l7, hp7, hl7⟩, hb7, hz7⟩; obtain rfl := he.trans (congrArg (fun x => Ending.returned (.string x)) h5.out.1); have HP7 : Hid (UIs w4.heap.size [] false w7) := Lib.hid (by rw [h5.out.2.1] at hp7 hl7; rw [← h5.out.2.2, ← hl7 rfl]; exact hp7); have HB7 := Lib.hid (HB6.out.trans (hb7.below HB4.out.size HB6.out.size)); clear hp7 hz7 hb7 hl7)
    | (go_at_call 25; refine (uend_any _ _ _ _ HP7.out).mono ?_; rintro e w8 ⟨he, rfl⟩; obtain rfl := he.trans (congrArg (fun x => Ending.returned (.int .i64 x)) h6.out)))
  go_ret
  exact ⟨rfl, HB7.out⟩
end Go.Proofs.Ytonckbnmamlilaa.PackW
