/- The reference's Num, where the number does not fit. -/
import Derived.Test.YtlffcilgmockmaaDoorPackRNum
namespace Go.Proofs.YtlffcilgmockmaaDoor.PackW
open Go.RowKit
set_option maxRecDepth 100000
set_option maxHeartbeats 1600000 in
theorem rnum_unsized (b : Nat) (s : ByteArray) (bad : Bool) (v n : Int) (hs : ¬ Sized n) (w : World) (hp : RAt b s bad w) :
    Calls Tryd.prog 25 #[.pointer (some ⟨b, 0, none⟩), .int .i64 v, .int .i64 n] w fun e w' => e = .returned (.tuple #[]) ∧ RAt b s true w' ∧ Only b w w' := by
  have HP := Lib.hid hp
  have hc := hp.cell1
  have hf := hp.free 1
  have HS := Lib.hid hs
  unfold Sized at hs
  have h1 : (n == 1) = false := by rw [beq_eq_false_iff_ne]; omega
  have h2 : (n == 2) = false := by rw [beq_eq_false_iff_ne]; omega
  have h4 : (n == 4) = false := by rw [beq_eq_false_iff_ne]; omega
  clear hp hs
  go_enter Tryd.func25, Tryd.ntmps25
  go_wp2_with (go_at_call 47; refine (size_no _ HS.out _).mono ?_; rintro e w1 ⟨rfl, rfl⟩)
  refine bodyPost_ret (results_none rfl _ _ _) rfl ?_
  exact ⟨rfl, HP.out.set1, (Only.refl _ _).setCell 1 _⟩
set_option maxHeartbeats 1600000 in
theorem rnum_off1 (b : Nat) (s : ByteArray) (bad : Bool) (v : Int) (h : v < 0 ∨ 255 < v) (hv : v < 9223372036854775808) (w : World) (hp : RAt b s bad w) :
    Calls Tryd.prog 25 #[.pointer (some ⟨b, 0, none⟩), .int .i64 v, .int .i64 1] w fun e w' => e = .returned (.tuple #[]) ∧ RAt b s true w' ∧ Only b w w' := by
  have HP := Lib.hid hp
  have hc := hp.cell1
  have hf := hp.free 1
  have HS := Lib.hid (show Sized 1 by unfold Sized; omega)
  by_cases h0 : v < 0
  · have d0 : decide (v < 0) = true := decide_eq_true h0
    clear hp h h0 hv
    go_enter Tryd.func25, Tryd.ntmps25
    go_wp2_with (go_at_call 47; refine (size_yes _ HS.out _).mono ?_; rintro e w1 ⟨rfl, rfl⟩)
    all_goals refine bodyPost_ret (results_none rfl _ _ _) rfl ?_
    all_goals exact ⟨rfl, HP.out.set1, (Only.refl _ _).setCell 1 _⟩
  · have d0 : decide (v < 0) = false := decide_eq_false h0
    have d1 : decide (255 < v) = true := decide_eq_true (by omega)
    clear hp h h0 hv
    go_enter Tryd.func25, Tryd.ntmps25
    go_wp2_with (go_at_call 47; refine (size_yes _ HS.out _).mono ?_; rintro e w1 ⟨rfl, rfl⟩)
    all_goals refine bodyPost_ret (results_none rfl _ _ _) rfl ?_
    all_goals exact ⟨rfl, HP.out.set1, (Only.refl _ _).setCell 1 _⟩
set_option maxHeartbeats 1600000 in
theorem rnum_off2 (b : Nat) (s : ByteArray) (bad : Bool) (v : Int) (h : v < 0 ∨ 65535 < v) (hv : v < 9223372036854775808) (w : World) (hp : RAt b s bad w) :
    Calls Tryd.prog 25 #[.pointer (some ⟨b, 0, none⟩), .int .i64 v, .int .i64 2] w fun e w' => e = .returned (.tuple #[]) ∧ RAt b s true w' ∧ Only b w w' := by
  have HP := Lib.hid hp
  have hc := hp.cell1
  have hf := hp.free 1
  have HS := Lib.hid (show Sized 2 by unfold Sized; omega)
  by_cases h0 : v < 0
  · have d0 : decide (v < 0) = true := decide_eq_true h0
    clear hp h h0 hv
    go_enter Tryd.func25, Tryd.ntmps25
    go_wp2_with (go_at_call 47; refine (size_yes _ HS.out _).mono ?_; rintro e w1 ⟨rfl, rfl⟩)
    all_goals refine bodyPost_ret (results_none rfl _ _ _) rfl ?_
    all_goals exact ⟨rfl, HP.out.set1, (Only.refl _ _).setCell 1 _⟩
  · have d0 : decide (v < 0) = false := decide_eq_false h0
    have d1 : decide (65535 < v) = true := decide_eq_true (by omega)
    clear hp h h0 hv
    go_enter Tryd.func25, Tryd.ntmps25
    go_wp2_with (go_at_call 47; refine (size_yes _ HS.out _).mono ?_; rintro e w1 ⟨rfl, rfl⟩)
    all_goals refine bodyPost_ret (results_none rfl _ _ _) rfl ?_
    all_goals exact ⟨rfl, HP.out.set1, (Only.refl _ _).setCell 1 _⟩
set_option maxHeartbeats 1600000 in
theorem rnum_off4 (b : Nat) (s : ByteArray) (bad : Bool) (v : Int) (h : v < 0 ∨ 4294967295 < v) (hv : v < 9223372036854775808) (w : World) (hp : RAt b s bad w) :
    Calls Tryd.prog 25 #[.pointer (some ⟨b, 0, none⟩), .int .i64 v, .int .i64 4] w fun e w' => e = .returned (.tuple #[]) ∧ RAt b s true w' ∧ Only b w w' := by
  have HP := Lib.hid hp
  have hc := hp.cell1
  have hf := hp.free 1
  have HS := Lib.hid (show Sized 4 by unfold Sized; omega)
  by_cases h0 : v < 0
  · have d0 : decide (v < 0) = true := decide_eq_true h0
    clear hp h h0 hv
    go_enter Tryd.func25, Tryd.ntmps25
    go_wp2_with (go_at_call 47; refine (size_yes _ HS.out _).mono ?_; rintro e w1 ⟨rfl, rfl⟩)
    all_goals refine bodyPost_ret (results_none rfl _ _ _) rfl ?_
    all_goals exact ⟨rfl, HP.out.set1, (Only.refl _ _).setCell 1 _⟩
  · have d0 : decide (v < 0) = false := decide_eq_false h0
    have d1 : decide (4294967295 < v) = true := decide_eq_true (by omega)
    clear hp h h0 hv
    go_enter Tryd.func25, Tryd.ntmps25
    go_wp2_with (go_at_call 47; refine (size_yes _ HS.out _).mono ?_; rintro e w1 ⟨rfl, rfl⟩)
    all_goals refine bodyPost_ret (results_none rfl _ _ _) rfl ?_
    all_goals exact ⟨rfl, HP.out.set1, (Only.refl _ _).setCell 1 _⟩
set_option maxHeartbeats 1600000 in
theorem rnum_off8 (b : Nat) (s : ByteArray) (bad : Bool) (v : Int) (h : v < 0 ∨ 9223372036854775807 < v) (hv : v < 9223372036854775808) (w : World) (hp : RAt b s bad w) :
    Calls Tryd.prog 25 #[.pointer (some ⟨b, 0, none⟩), .int .i64 v, .int .i64 8] w fun e w' => e = .returned (.tuple #[]) ∧ RAt b s true w' ∧ Only b w w' := by
  have HP := Lib.hid hp
  have hc := hp.cell1
  have hf := hp.free 1
  have HS := Lib.hid (show Sized 8 by unfold Sized; omega)
  by_cases h0 : v < 0
  · have d0 : decide (v < 0) = true := decide_eq_true h0
    clear hp h h0 hv
    go_enter Tryd.func25, Tryd.ntmps25
    go_wp2_with (go_at_call 47; refine (size_yes _ HS.out _).mono ?_; rintro e w1 ⟨rfl, rfl⟩)
    all_goals refine bodyPost_ret (results_none rfl _ _ _) rfl ?_
    all_goals exact ⟨rfl, HP.out.set1, (Only.refl _ _).setCell 1 _⟩
  · omega
theorem rnum_no (b : Nat) (s : ByteArray) (bad : Bool) (v n : Int) (h : ¬ May v n) (hv : v < 9223372036854775808) (w : World) (hp : RAt b s bad w) :
    Calls Tryd.prog 25 #[.pointer (some ⟨b, 0, none⟩), .int .i64 v, .int .i64 n] w fun e w' => e = .returned (.tuple #[]) ∧ RAt b s true w' ∧ Only b w w' := by
  by_cases hs : Sized n
  · have hb : v < 0 ∨ (2 : Int) ^ (8 * n.toNat) ≤ v := by
      by_cases h0 : v < 0
      · exact Or.inl h0
      · exact Or.inr (Int.not_lt.mp fun hx => h ⟨hs, by omega, hx⟩)
    unfold Sized at hs
    rcases hs with rfl | rfl | rfl | rfl
    · exact rnum_off1 b s bad v (by simp at hb; omega) hv w hp
    · exact rnum_off2 b s bad v (by simp at hb; omega) hv w hp
    · exact rnum_off4 b s bad v (by simp at hb; omega) hv w hp
    · exact rnum_off8 b s bad v (by simp at hb; omega) hv w hp
  · exact rnum_unsized b s bad v n hs w hp
end Go.Proofs.YtlffcilgmockmaaDoor.PackW
