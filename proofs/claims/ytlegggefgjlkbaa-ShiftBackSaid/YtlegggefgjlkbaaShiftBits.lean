/- The walks of mask, pow, low, Signed and Fit. -/
import Derived.Test.YtlegggefgjlkbaaShiftPut
namespace Go.Proofs.Ytlegggefgjlkbaa.ShiftW
open Go.RowKit
/-- so many bits that are set; a power; the greatest number of so many bits with a sign: closed to simp -/
def maskN (n : Nat) : Nat := 2 ^ n - 1
def powN (n : Nat) : Nat := 2 ^ n % 2 ^ 64
def topN (n : Nat) : Nat := 2 ^ (n - 1) - 1
def lowN (v n : Nat) : Nat := v % 2 ^ n
def signedI (v n : Nat) : Int := if lowN v n < 2 ^ (n - 1) then (lowN v n : Int) else (lowN v n : Int) - (2 ^ n : Nat)
def fitI (v : Int) (n : Nat) : Int := max (-(topN n : Int) - 1) (min v (topN n))
theorem pow_lt64 (n : Nat) (h : n < 64) : 2 ^ n ≤ 9223372036854775808 := show 2 ^ n ≤ 2 ^ 63 from Nat.pow_le_pow_right (by omega) (by omega)
theorem mask_eq (n : Nat) (h : n < 64) : IntKind.u64.wrap (IntKind.u64.wrap ((2 : Int) ^ n) - 1) = (maskN n : Int) := by
  have h1 := pow_lt64 n h
  have h2 : 1 ≤ 2 ^ n := Nat.pow_pos (by omega)
  have e : ((2 : Int) ^ n) = ((2 ^ n : Nat) : Int) := by rw [Int.natCast_pow]; rfl
  unfold maskN
  rw [e, IntKind.wrap_u64, IntKind.wrap_u64]
  generalize 2 ^ n = x at *
  omega
theorem mask_64 : (18446744073709551615 : Int) = (maskN 64 : Int) := by decide
theorem signed_eq (v n : Nat) (h1 : 1 ≤ n) (h : n ≤ 64) : wrap64 (IntKind.u64.wrap ((v : Int) * 2 ^ (64 - n))) / 2 ^ (64 - n) = signedI v n := by
  have e : ((v : Int) * 2 ^ (64 - n)) = ((v * 2 ^ (64 - n) : Nat) : Int) := by rw [Int.natCast_mul, Int.natCast_pow]; rfl
  have e2 : ((2 : Int) ^ (64 - n)) = ((2 ^ (64 - n) : Nat) : Int) := by rw [Int.natCast_pow]; rfl
  rw [e, e2, IntKind.wrap_u64]
  have e3 : ((v * 2 ^ (64 - n) : Nat) : Int) % 18446744073709551616 = ((lowN v n * 2 ^ (64 - n) : Nat) : Int) := by
    have : (18446744073709551616 : Int) = ((2 ^ n * 2 ^ (64 - n) : Nat) : Int) := by
      rw [← Nat.pow_add, show n + (64 - n) = 64 by omega]; rfl
    rw [this, ← Int.natCast_emod, Nat.mul_mod_mul_right]; rfl
  rw [e3]
  have hx : lowN v n < 2 ^ n := Nat.mod_lt _ (Nat.pow_pos (by omega))
  have hp : 2 ^ n = 2 * 2 ^ (n - 1) := by rw [← Nat.pow_succ']; congr 1; omega
  have hB : 0 < 2 ^ (64 - n) := Nat.pow_pos (by omega)
  have hq : 2 ^ (n - 1) * 2 ^ (64 - n) = 9223372036854775808 := by rw [← Nat.pow_add, show n - 1 + (64 - n) = 63 by omega]
  unfold signedI
  generalize lowN v n = x at *
  rw [hp] at *
  generalize 2 ^ (64 - n) = B at *
  generalize 2 ^ (n - 1) = H at *
  by_cases hs : x < H
  · have h3 : x * B < 9223372036854775808 := by rw [← hq]; exact Nat.mul_lt_mul_of_pos_right hs hB
    rw [if_pos hs, IntWalk.wrap64_in _ (by omega), ← Int.natCast_ediv, Nat.mul_div_cancel _ hB]
  · have h3 : 9223372036854775808 ≤ x * B := by rw [← hq]; exact Nat.mul_le_mul_right _ (by omega)
    have h4 : x * B < 18446744073709551616 := by
      have : x * B < 2 * H * B := Nat.mul_lt_mul_of_pos_right hx hB
      rw [Nat.mul_assoc, hq] at this; omega
    rw [if_neg hs]
    have h5 : wrap64 ((x * B : Nat) : Int) = ((x : Int) - ((2 * H : Nat) : Int)) * (B : Int) := by
      rw [Int.sub_mul, ← Int.natCast_mul, ← Int.natCast_mul, Nat.mul_assoc, hq]
      unfold wrap64; omega
    rw [h5, Int.mul_ediv_cancel _ (by omega)]

set_option maxHeartbeats 400000 in
theorem mask_any (n : Nat) (h : n ≤ 64) (w : World) : Calls Try.prog 30 #[.int .i64 n] w fun e w' => e = .returned (.int .u64 (maskN n)) ∧ w = w' := by
  by_cases hn : n < 64
  · have HM := Lib.hid (mask_eq n hn)
    go_enter Try.func30, Try.ntmps30
    go_wp2
    go_ret
    exact ⟨ret_int HM.out, rfl⟩
  · obtain rfl : n = 64 := by omega
    go_enter Try.func30, Try.ntmps30
    go_wp2
    go_ret
    exact ⟨ret_int mask_64, rfl⟩

set_option maxHeartbeats 400000 in
theorem signed_any (v n : Nat) (h1 : 1 ≤ n) (h : n ≤ 64) (w : World) : Calls Try.prog 15 #[.int .u64 v, .int .i64 n] w fun e w' => e = .returned (.int .i64 (signedI v n)) ∧ w = w' := by
  have d1 : decide ((n : Int) < 1) = false := by simp; omega
  have d2 : decide (64 < (n : Int)) = false := by simp; omega
  have HM := Lib.hid (signed_eq v n h1 h)
  go_enter Try.func15, Try.ntmps15
  go_wp2
  go_ret
  exact ⟨ret_int HM.out, rfl⟩

theorem powN_succ (k : Nat) : IntKind.u64.wrap ((powN k : Int) * 2) = (powN (k + 1) : Int) := by
  unfold powN
  rw [IntKind.wrap_u64, Nat.pow_succ 2 k]
  generalize 2 ^ k = x
  omega
set_option maxHeartbeats 400000 in
theorem pow_any (n : Nat) (hn : n ≤ 64) (w : World) : Calls Try.prog 29 #[.int .i64 n] w fun e w' => e = .returned (.int .u64 (powN n)) ∧ w = w' := by
  go_enter Try.func29, Try.ntmps29
  go_wp2
  go_loop [3, 4] (fun v i => ∃ k : Nat, k ≤ n ∧ i = .int .i64 k ∧ v = .int .u64 (powN k)) (fun _ i => n - (intOf i).toNat)
  case atStart => exact ⟨0, by omega, rfl, rfl⟩
  case round =>
    obtain ⟨k, hk, rfl, rfl⟩ := hrel
    by_cases hlt : k < n
    · have hs := powN_succ k
      go_wp2
      go_round
      case rel => exact ⟨k + 1, by omega, by go_num, rfl⟩
      case measure => simp [intOf]; omega
    · have HK := Lib.hid (show k = n by omega)
      go_wp2
      go_ret
      exact ⟨by rw [HK.out]; rfl, rfl⟩
theorem powN_lt (n : Nat) (h : n < 64) : powN n = 2 ^ n := Nat.mod_eq_of_lt (Nat.pow_lt_pow_right (by omega) h)
theorem low_mod' (v n : Nat) (h : n < 64) : ((v : Int) % (powN n : Int)) = (lowN v n : Int) := by
  rw [powN_lt n h, lowN, Int.natCast_emod]
set_option maxHeartbeats 400000 in
theorem low_any (v n : Nat) (hv : v < 2 ^ 64) (hn : n ≤ 64) (w : World) : Calls Try.prog 28 #[.int .u64 v, .int .i64 n] w fun e w' => e = .returned (.int .u64 (lowN v n)) ∧ w = w' := by
  by_cases h : n < 64
  · have d : ((n : Int) == 64) = false := by rw [beq_eq_false_iff_ne]; omega
    have h1 : ((powN n : Nat) : Int) ≠ 0 := by
      rw [powN_lt n h]
      have := Nat.pow_pos (a := 2) (n := n) (by omega)
      omega
    have h2 := Lib.hid (low_mod' v n h)
    clear hv
    go_enter Try.func28, Try.ntmps28
    go_wp2_with (go_at_call 29; refine (pow_any _ (by omega) _).mono ?_; rintro e w' ⟨rfl, rfl⟩)
    go_ret
    exact ⟨ret_int h2.out, rfl⟩
  · have hn' : n = 64 := by omega
    have HL := Lib.hid (show lowN v n = v by rw [lowN, hn', Nat.mod_eq_of_lt hv])
    have d : ((n : Int) == 64) = true := by rw [hn']; rfl
    clear hn' hv
    go_enter Try.func28, Try.ntmps28
    go_wp2_with fail
    go_ret
    exact ⟨by rw [HL.out]; rfl, rfl⟩

theorem top_eq (n : Nat) (h1 : 1 ≤ n) (h : n ≤ 64) : wrap64 ((maskN n : Int) / 2) = (topN n : Int) := by
  have hp : 2 ^ n = 2 * 2 ^ (n - 1) := by rw [← Nat.pow_succ']; congr 1; omega
  have h2 := pow_lt64 (n - 1) (by omega)
  have h3 : 1 ≤ 2 ^ (n - 1) := Nat.pow_pos (by omega)
  unfold maskN topN
  rw [hp]
  generalize 2 ^ (n - 1) = H at *
  rw [IntWalk.wrap64_in _ (by omega)]; omega
theorem topN_lt (n : Nat) (h : n ≤ 64) : topN n < 9223372036854775808 := by
  have h2 := pow_lt64 (n - 1) (by omega)
  have h3 : 1 ≤ 2 ^ (n - 1) := Nat.pow_pos (by omega)
  unfold topN; omega
theorem not_i64 (x : Nat) (h : x < 9223372036854775808) : bits BinOp.xor IntKind.i64 (-1) (x : Int) = -(x : Int) - 1 := by
  show IntKind.i64.wrap ((BitVec.ofInt 64 (-1) ^^^ BitVec.ofInt 64 (x : Int)).toNat : Int) = _
  have e : (BitVec.ofInt 64 (-1) ^^^ BitVec.ofInt 64 (x : Int)) = ~~~ (BitVec.ofNat 64 x) := by
    rw [BitVec.not_def, BitVec.ofInt_natCast]; rfl
  rw [e, BitVec.toNat_not, BitVec.toNat_ofNat, Nat.mod_eq_of_lt (by omega), IntKind.wrap_i64]
  omega
theorem fit_a (v : Int) (n : Nat) (h : v ≤ -(topN n : Int) - 1) : fitI v n = -(topN n : Int) - 1 := by unfold fitI; omega
theorem fit_b (v : Int) (n : Nat) (h : -(topN n : Int) - 1 ≤ v) (h2 : v ≤ topN n) : fitI v n = v := by unfold fitI; omega
theorem fit_c (v : Int) (n : Nat) (h : (topN n : Int) ≤ v) : fitI v n = topN n := by unfold fitI; omega
set_option maxHeartbeats 400000 in
theorem fit_any (v : Int) (n : Nat) (h1 : 1 ≤ n) (h : n ≤ 64) (w : World) : Calls Try.prog 17 #[.int .i64 v, .int .i64 n] w fun e w' => e = .returned (.int .i64 (fitI v n)) ∧ w = w' := by
  have d1 : decide ((n : Int) < 1) = false := by simp; omega
  have d2 : decide (64 < (n : Int)) = false := by simp; omega
  have hsg : IntKind.i64.signed = true := rfl
  have h2 := top_eq n h1 h
  have h3 := not_i64 (topN n) (topN_lt n h)
  have h4 := topN_lt n h
  rcases (by omega : v < -(topN n : Int) - 1 ∨ ((-(topN n : Int) - 1 ≤ v) ∧ v ≤ topN n) ∨ (topN n : Int) < v) with h5 | ⟨h5, h6⟩ | h5
  · have HF := Lib.hid (fit_a v n (by omega))
    go_enter Try.func17, Try.ntmps17
    go_wp2_with (go_at_call 30; refine (mask_any _ (by omega) _).mono ?_; rintro e w' ⟨rfl, rfl⟩)
    all_goals go_ret
    all_goals exact ⟨by rw [HF.out]; first | rfl | (apply ret_int; omega), rfl⟩
  · have HF := Lib.hid (fit_b v n (by omega) (by omega))
    go_enter Try.func17, Try.ntmps17
    go_wp2_with (go_at_call 30; refine (mask_any _ (by omega) _).mono ?_; rintro e w' ⟨rfl, rfl⟩)
    all_goals go_ret
    all_goals exact ⟨by rw [HF.out]; first | rfl | (apply ret_int; omega), rfl⟩
  · have HF := Lib.hid (fit_c v n (by omega))
    go_enter Try.func17, Try.ntmps17
    go_wp2_with (go_at_call 30; refine (mask_any _ (by omega) _).mono ?_; rintro e w' ⟨rfl, rfl⟩)
    all_goals go_ret
    all_goals exact ⟨by rw [HF.out]; first | rfl | (apply ret_int; omega), rfl⟩
end Go.Proofs.Ytlegggefgjlkbaa.ShiftW
