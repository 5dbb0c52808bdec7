/- The walks of the reference's Field and With. -/
import Derived.Test.YtlegggefgjlkbaaShiftField
namespace Go.Proofs.Ytlegggefgjlkbaa.ShiftW
open Go.RowKit
def shrN (v a : Nat) : Nat := v / 2 ^ a
theorem shr_quo (v a : Nat) (hv : v < 2 ^ 64) (ha : a < 64) : IntKind.u64.wrap ((v : Int) / (powN a : Int)) = (shrN v a : Int) := by
  have h1 : v / 2 ^ a ≤ v := Nat.div_le_self _ _
  rw [powN_lt a ha, ← Int.natCast_ediv, IntKind.wrap_u64, shrN]
  generalize v / 2 ^ a = x at *
  omega
theorem shr_lt (v a : Nat) (hv : v < 2 ^ 64) : shrN v a < 2 ^ 64 := Nat.lt_of_le_of_lt (Nat.div_le_self _ _) hv
theorem low_shr (v a n : Nat) : lowN (shrN v a) n = fld v a n := rfl
theorem powN_pos (a : Nat) (ha : a < 64) : 0 < (powN a : Int) := by
  rw [powN_lt a ha]
  have := Nat.pow_pos (a := 2) (n := a) (by omega)
  omega
set_option maxHeartbeats 400000 in
theorem rfield_yes (v a n : Nat) (hv : v < 2 ^ 64) (h1 : a ≤ 64) (h : n ≤ 64 - a) (w : World) : Calls Try.prog 25 #[.int .u64 v, .int .i64 a, .int .i64 n] w fun e w' => e = .returned (.int .u64 (fld v a n)) ∧ w = w' := by
  by_cases h0 : n = 0
  · have d : ((n : Int) == 0) = true := by rw [h0]; rfl
    have HZ := Lib.hid (show fld v a n = 0 by rw [h0, fld_zero])
    clear h0 hv
    go_enter Try.func25, Try.ntmps25
    go_wp2_with (go_at_call 32; refine (may_yes _ _ h1 h _).mono ?_; rintro e w' ⟨rfl, rfl⟩)
    go_ret
    exact ⟨by rw [HZ.out]; rfl, rfl⟩
  · have d : ((n : Int) == 0) = false := by rw [beq_eq_false_iff_ne]; omega
    have hq := shr_quo v a hv (by omega)
    have HL := Lib.hid (shr_lt v a hv)
    have hp := powN_pos a (by omega)
    have HF := Lib.hid (low_shr v a n)
    clear hv
    go_enter Try.func25, Try.ntmps25
    go_wp2_with (first
      | (go_at_call 32; refine (may_yes _ _ h1 h _).mono ?_; rintro e w' ⟨rfl, rfl⟩)
      | (go_at_call 29; refine (pow_any _ (by omega) _).mono ?_; rintro e w' ⟨rfl, rfl⟩)
      | (go_at_call 28; refine (low_any _ _ HL.out (by omega) _).mono ?_; rintro e w' ⟨rfl, rfl⟩))
    go_ret
    exact ⟨ret_int (by rw [HF.out]), rfl⟩
set_option maxHeartbeats 400000 in
theorem rfield_no (v : Nat) (a n : Int) (h : ¬ thereP a n) (w : World) : Calls Try.prog 25 #[.int .u64 v, .int .i64 a, .int .i64 n] w fun e w' => e = .returned (.int .u64 0) ∧ w = w' := by
  have HN := Lib.hid h
  clear h
  go_enter Try.func25, Try.ntmps25
  go_wp2_with (go_at_call 32; refine (may_no _ _ HN.out _).mono ?_; rintro e w' ⟨rfl, rfl⟩)
  go_ret
  exact ⟨rfl, rfl⟩
theorem rwith_eq (v f a n : Nat) (hv : v < 2 ^ 64) (ha : a < 64) (h : a + n ≤ 64) :
    IntKind.u64.wrap (IntKind.u64.wrap ((v : Int) - IntKind.u64.wrap ((fld v a n : Int) * (powN a : Int))) + IntKind.u64.wrap ((lowN f n : Int) * (powN a : Int))) = (wit v a n f : Int) := by
  have h1 := ShiftP.withN_eq v a n f
  have h2 := ShiftP.split3 v a n
  have h3 := ShiftP.withN_lt v a n f 64 h hv
  have h4 : f % 2 ^ n * 2 ^ a ≤ ShiftP.withN v a n f := by rw [h1]; omega
  rw [powN_lt a ha, ← Int.natCast_mul, ← Int.natCast_mul, wit, h1, fld, lowN]
  rw [h1] at h3 h4
  generalize ShiftP.fieldN v a n * 2 ^ a = F at *
  generalize f % 2 ^ n * 2 ^ a = G at *
  rw [IntKind.wrap_u64, IntKind.wrap_u64, IntKind.wrap_u64, IntKind.wrap_u64]
  omega
set_option maxHeartbeats 400000 in
theorem rwith_yes (v f a n : Nat) (hv : v < 2 ^ 64) (hf : f < 2 ^ 64) (h1 : a ≤ 64) (h : n ≤ 64 - a) (w : World) : Calls Try.prog 27 #[.int .u64 v, .int .i64 a, .int .i64 n, .int .u64 f] w fun e w' => e = .returned (.int .u64 (wit v a n f)) ∧ w = w' := by
  by_cases h0 : n = 0
  · have d : ((n : Int) == 0) = true := by rw [h0]; rfl
    have HZ := Lib.hid (show wit v a n f = v by rw [h0, wit_zero])
    clear h0 hv hf
    go_enter Try.func27, Try.ntmps27
    go_wp2_with (go_at_call 32; refine (may_yes _ _ h1 h _).mono ?_; rintro e w' ⟨rfl, rfl⟩)
    go_ret
    exact ⟨by rw [HZ.out]; rfl, rfl⟩
  · have d : ((n : Int) == 0) = false := by rw [beq_eq_false_iff_ne]; omega
    have HF := Lib.hid (rwith_eq v f a n hv (by omega) (by omega))
    have HV := Lib.hid hv
    have HW := Lib.hid hf
    clear hv hf
    go_enter Try.func27, Try.ntmps27
    go_wp2_with (first
      | (go_at_call 32; refine (may_yes _ _ h1 h _).mono ?_; rintro e w' ⟨rfl, rfl⟩)
      | (go_at_call 25; refine (rfield_yes _ _ _ HV.out h1 h _).mono ?_; rintro e w' ⟨rfl, rfl⟩)
      | (go_at_call 29; refine (pow_any _ (by omega) _).mono ?_; rintro e w' ⟨rfl, rfl⟩)
      | (go_at_call 28; refine (low_any _ _ HW.out (by omega) _).mono ?_; rintro e w' ⟨rfl, rfl⟩))
    go_ret
    exact ⟨ret_int HF.out, rfl⟩
set_option maxHeartbeats 400000 in
theorem rwith_no (v f : Nat) (a n : Int) (h : ¬ thereP a n) (w : World) : Calls Try.prog 27 #[.int .u64 v, .int .i64 a, .int .i64 n, .int .u64 f] w fun e w' => e = .returned (.int .u64 v) ∧ w = w' := by
  have HN := Lib.hid h
  clear h
  go_enter Try.func27, Try.ntmps27
  go_wp2_with (go_at_call 32; refine (may_no _ _ HN.out _).mono ?_; rintro e w' ⟨rfl, rfl⟩)
  go_ret
  exact ⟨rfl, rfl⟩
end Go.Proofs.Ytlegggefgjlkbaa.ShiftW
