/- The walks of Field and With, the program's and the reference's. -/
import Derived.Test.YtlegggefgjlkbaaShiftBits2
namespace Go.Proofs.Ytlegggefgjlkbaa.ShiftW
open Go.RowKit
/-- some bits; a number with others there: closed to simp -/
def fld (v a n : Nat) : Nat := ShiftP.fieldN v a n
def wit (v a n f : Nat) : Nat := ShiftP.withN v a n f
theorem and_mask (x n : Nat) : x &&& maskN n = x % 2 ^ n := Nat.and_two_pow_sub_one_eq_mod x n
theorem mask_lt (n : Nat) (h : n ≤ 64) : maskN n < 2 ^ 64 := by
  have h1 : 2 ^ n ≤ 2 ^ 64 := Nat.pow_le_pow_right (by omega) h
  have h2 : 1 ≤ 2 ^ n := Nat.pow_pos (by omega)
  unfold maskN; omega
theorem fld_eq (v a n : Nat) (hv : v < 2 ^ 64) (hn : n ≤ 64) : bits BinOp.and IntKind.u64 ((v : Int) / 2 ^ a) (maskN n : Int) = (fld v a n : Int) := by
  have e : ((v : Int) / 2 ^ a) = ((v / 2 ^ a : Nat) : Int) := by rw [Int.natCast_ediv, Int.natCast_pow]; rfl
  have h1 : v / 2 ^ a ≤ v := Nat.div_le_self _ _
  rw [e, u64_and_nat _ _ (by omega) (mask_lt n hn), and_mask]; rfl
theorem fld_zero (v a : Nat) : fld v a 0 = 0 := by simp [fld, ShiftP.fieldN, Nat.mod_one]
theorem wit_zero (v a f : Nat) : wit v a 0 f = v := by
  rw [wit, ShiftP.withN_eq]; simp [ShiftP.fieldN, Nat.mod_one]
theorem and_not (v a n : Nat) (hv : v < 2 ^ 64) (h : a + n ≤ 64) : v &&& (18446744073709551615 - maskN n * 2 ^ a) = v % 2 ^ a ||| (v / 2 ^ (a + n)) <<< (a + n) := by
  have hM : maskN n * 2 ^ a < 2 ^ 64 := by
    have h1 : 2 ^ n * 2 ^ a ≤ 2 ^ 64 := by rw [← Nat.pow_add]; exact Nat.pow_le_pow_right (by omega) (by omega)
    have h2 : 1 ≤ 2 ^ n := Nat.pow_pos (by omega)
    have h3 : 1 ≤ 2 ^ a := Nat.pow_pos (by omega)
    have h4 : (maskN n + 1) * 2 ^ a = 2 ^ n * 2 ^ a := by congr 1; unfold maskN; omega
    rw [Nat.add_mul] at h4; omega
  apply Nat.eq_of_testBit_eq
  intro j
  rw [Nat.testBit_and, show (18446744073709551615 - maskN n * 2 ^ a) = 2 ^ 64 - (maskN n * 2 ^ a + 1) by omega, Nat.testBit_two_pow_sub_succ hM, ← Nat.shiftLeft_eq, Nat.testBit_shiftLeft, Nat.testBit_or, Nat.testBit_mod_two_pow, Nat.testBit_shiftLeft,
    Nat.testBit_div_two_pow]
  unfold maskN
  rw [Nat.testBit_two_pow_sub_one]
  by_cases h1 : j < 64
  · by_cases h2 : j < a
    · simp [h1, h2, show ¬ a ≤ j by omega, show ¬ a + n ≤ j by omega]
    · by_cases h3 : j < a + n
      · simp [h2, show a ≤ j by omega, show j - a < n by omega, show ¬ a + n ≤ j by omega]
      · simp [h1, h2, show a ≤ j by omega, show ¬ j - a < n by omega, show a + n ≤ j by omega]
  · have : v.testBit j = false := Nat.testBit_lt_two_pow (Nat.lt_of_lt_of_le hv (Nat.pow_le_pow_right (by omega) (by omega)))
    simp [this, show a + n ≤ j by omega]
theorem wit_join (v a n f : Nat) : (v % 2 ^ a ||| (v / 2 ^ (a + n)) <<< (a + n)) ||| (f % 2 ^ n * 2 ^ a) = wit v a n f := by
  have h1 : v % 2 ^ a < 2 ^ a := Nat.mod_lt _ (Nat.pow_pos (by omega))
  have h2 := ShiftP.low_lt v a n f
  rw [Nat.or_comm (v % 2 ^ a), Nat.or_assoc, Nat.or_comm (v % 2 ^ a), nat_join a (f % 2 ^ n * 2 ^ a) _ (by simp) h1, nat_join (a + n) _ _ (by rw [Nat.shiftLeft_eq]; simp) (by omega), Nat.shiftLeft_eq, wit, ShiftP.withN]
  omega
theorem shl_mask (n a : Nat) (h : a + n ≤ 64) (x : Nat) (hx : x < 2 ^ n) : IntKind.u64.wrap ((x : Int) * 2 ^ a) = ((x * 2 ^ a : Nat) : Int) := by
  have h1 : x * 2 ^ a < 2 ^ 64 := by
    have h2 : (x + 1) * 2 ^ a ≤ 2 ^ n * 2 ^ a := Nat.mul_le_mul_right _ hx
    have h3 : 2 ^ n * 2 ^ a ≤ 2 ^ 64 := by rw [← Nat.pow_add]; exact Nat.pow_le_pow_right (by omega) (by omega)
    have h4 : 1 ≤ 2 ^ a := Nat.pow_pos (by omega)
    rw [Nat.add_mul] at h2; omega
  have e : ((x : Int) * 2 ^ a) = ((x * 2 ^ a : Nat) : Int) := by rw [Int.natCast_mul, Int.natCast_pow]; rfl
  rw [e, IntKind.wrap_u64]; omega
theorem wit_eq (v f a n : Nat) (hv : v < 2 ^ 64) (hf : f < 2 ^ 64) (h : a + n ≤ 64) :
    bits BinOp.or IntKind.u64 (bits BinOp.andNot IntKind.u64 (v : Int) (IntKind.u64.wrap ((maskN n : Int) * 2 ^ a))) (IntKind.u64.wrap (bits BinOp.and IntKind.u64 (f : Int) (maskN n : Int) * 2 ^ a)) = (wit v a n f : Int) := by
  have hm : maskN n < 2 ^ n := by
    have : 1 ≤ 2 ^ n := Nat.pow_pos (by omega)
    unfold maskN; omega
  have hM : maskN n * 2 ^ a < 2 ^ 64 := by
    have h2 : (maskN n + 1) * 2 ^ a ≤ 2 ^ n * 2 ^ a := Nat.mul_le_mul_right _ hm
    have h3 : 2 ^ n * 2 ^ a ≤ 2 ^ 64 := by rw [← Nat.pow_add]; exact Nat.pow_le_pow_right (by omega) (by omega)
    have h4 : 1 ≤ 2 ^ a := Nat.pow_pos (by omega)
    rw [Nat.add_mul] at h2; omega
  have hB : f % 2 ^ n * 2 ^ a < 2 ^ 64 := by
    have h1 : f % 2 ^ n < 2 ^ n := Nat.mod_lt _ (Nat.pow_pos (by omega))
    have h2 : (f % 2 ^ n + 1) * 2 ^ a ≤ 2 ^ n * 2 ^ a := Nat.mul_le_mul_right _ h1
    have h3 : 2 ^ n * 2 ^ a ≤ 2 ^ 64 := by rw [← Nat.pow_add]; exact Nat.pow_le_pow_right (by omega) (by omega)
    have h4 : 1 ≤ 2 ^ a := Nat.pow_pos (by omega)
    rw [Nat.add_mul] at h2; omega
  rw [shl_mask n a h _ hm, u64_andNot_nat _ _ (by omega) (by omega), u64_and_nat _ _ (by omega) (mask_lt n (by omega)), and_mask, shl_mask n a h _ (Nat.mod_lt _ (Nat.pow_pos (by omega))),
    u64_or_nat _ _ (Nat.lt_of_le_of_lt Nat.and_le_left (by omega)) (by omega), and_not v a n hv h, wit_join]

def thereP (a n : Int) : Prop := 0 ≤ a ∧ 0 ≤ n ∧ a ≤ 64 ∧ n ≤ 64 - a
instance (a n : Int) : Decidable (thereP a n) := by unfold thereP; infer_instance

set_option maxHeartbeats 400000 in
theorem there_yes (a n : Nat) (h1 : a ≤ 64) (h : n ≤ 64 - a) (w : World) : Calls Try.prog 31 #[.int .i64 a, .int .i64 n] w fun e w' => e = .returned (.bool true) ∧ w = w' := by
  have d1 : (decide (0 ≤ (a : Int))) = true := by simp
  have d2 : (decide (0 ≤ (n : Int))) = true := by simp
  have d3 : (decide ((a : Int) ≤ 64)) = true := by simp; omega
  have d4 : (decide ((n : Int) ≤ 64 - a)) = true := by simp; omega
  go_enter Try.func31, Try.ntmps31
  go_wp2
  go_ret
  exact ⟨rfl, rfl⟩
set_option maxHeartbeats 400000 in
theorem there_no (a n : Int) (h : ¬ thereP a n) (w : World) : Calls Try.prog 31 #[.int .i64 a, .int .i64 n] w fun e w' => e = .returned (.bool false) ∧ w = w' := by
  unfold thereP at h
  rcases (by omega : a < 0 ∨ (0 ≤ a ∧ n < 0) ∨ (0 ≤ a ∧ 0 ≤ n ∧ 64 < a) ∨ (0 ≤ a ∧ 0 ≤ n ∧ a ≤ 64 ∧ 64 - a < n)) with h1 | ⟨h1, h2⟩ | ⟨h1, h2, h3⟩ | ⟨h1, h2, h3, h4⟩
  · have d1 : (decide (0 ≤ a)) = false := by simp; omega
    clear h
    go_enter Try.func31, Try.ntmps31
    go_wp2
    go_ret
    exact ⟨rfl, rfl⟩
  · have d1 : (decide (0 ≤ a)) = true := by simp; omega
    have d2 : (decide (0 ≤ n)) = false := by simp; omega
    clear h
    go_enter Try.func31, Try.ntmps31
    go_wp2
    go_ret
    exact ⟨rfl, rfl⟩
  · have d1 : (decide (0 ≤ a)) = true := by simp; omega
    have d2 : (decide (0 ≤ n)) = true := by simp; omega
    have d3 : (decide (a ≤ 64)) = false := by simp; omega
    clear h
    go_enter Try.func31, Try.ntmps31
    go_wp2
    go_ret
    exact ⟨rfl, rfl⟩
  · have d1 : (decide (0 ≤ a)) = true := by simp; omega
    have d2 : (decide (0 ≤ n)) = true := by simp; omega
    have d3 : (decide (a ≤ 64)) = true := by simp; omega
    have d4 : (decide (n ≤ 64 - a)) = false := by simp; omega
    clear h
    go_enter Try.func31, Try.ntmps31
    go_wp2
    go_ret
    exact ⟨rfl, rfl⟩

set_option maxHeartbeats 400000 in
theorem may_yes (a n : Nat) (h1 : a ≤ 64) (h : n ≤ 64 - a) (w : World) : Calls Try.prog 32 #[.int .i64 a, .int .i64 n] w fun e w' => e = .returned (.bool true) ∧ w = w' := by
  have d1 : (decide (0 ≤ (a : Int))) = true := by simp
  have d2 : (decide (0 ≤ (n : Int))) = true := by simp
  have d3 : (decide ((a : Int) ≤ 64)) = true := by simp; omega
  have d4 : (decide ((n : Int) ≤ 64 - a)) = true := by simp; omega
  go_enter Try.func32, Try.ntmps32
  go_wp2
  go_ret
  exact ⟨rfl, rfl⟩
set_option maxHeartbeats 400000 in
theorem may_no (a n : Int) (h : ¬ thereP a n) (w : World) : Calls Try.prog 32 #[.int .i64 a, .int .i64 n] w fun e w' => e = .returned (.bool false) ∧ w = w' := by
  unfold thereP at h
  rcases (by omega : a < 0 ∨ (0 ≤ a ∧ n < 0) ∨ (0 ≤ a ∧ 0 ≤ n ∧ 64 < a) ∨ (0 ≤ a ∧ 0 ≤ n ∧ a ≤ 64 ∧ 64 - a < n)) with h1 | ⟨h1, h2⟩ | ⟨h1, h2, h3⟩ | ⟨h1, h2, h3, h4⟩
  · have d1 : (decide (0 ≤ a)) = false := by simp; omega
    clear h
    go_enter Try.func32, Try.ntmps32
    go_wp2
    go_ret
    exact ⟨rfl, rfl⟩
  · have d1 : (decide (0 ≤ a)) = true := by simp; omega
    have d2 : (decide (0 ≤ n)) = false := by simp; omega
    clear h
    go_enter Try.func32, Try.ntmps32
    go_wp2
    go_ret
    exact ⟨rfl, rfl⟩
  · have d1 : (decide (0 ≤ a)) = true := by simp; omega
    have d2 : (decide (0 ≤ n)) = true := by simp; omega
    have d3 : (decide (a ≤ 64)) = false := by simp; omega
    clear h
    go_enter Try.func32, Try.ntmps32
    go_wp2
    go_ret
    exact ⟨rfl, rfl⟩
  · have d1 : (decide (0 ≤ a)) = true := by simp; omega
    have d2 : (decide (0 ≤ n)) = true := by simp; omega
    have d3 : (decide (a ≤ 64)) = true := by simp; omega
    have d4 : (decide (n ≤ 64 - a)) = false := by simp; omega
    clear h
    go_enter Try.func32, Try.ntmps32
    go_wp2
    go_ret
    exact ⟨rfl, rfl⟩

set_option maxHeartbeats 400000 in
theorem field_yes (v a n : Nat) (hv : v < 2 ^ 64) (h1 : a ≤ 64) (h : n ≤ 64 - a) (w : World) : Calls Try.prog 24 #[.int .u64 v, .int .i64 a, .int .i64 n] w fun e w' => e = .returned (.int .u64 (fld v a n)) ∧ Below w.heap.size w w' := by
  have HF := Lib.hid (fld_eq v a n hv (by omega))
  clear hv
  go_enter Try.func24, Try.ntmps24
  go_wp2_with (go_at_call 31; refine (there_yes _ _ h1 h _).mono ?_; rintro e w' ⟨rfl, rfl⟩)
  go_quiet ((go_at_call 30; exact quiet_left (mask_any _ (by omega) _)))
  go_wp2
  go_ret
  exact ⟨ret_int HF.out, below_drawn w _⟩
set_option maxHeartbeats 400000 in
theorem field_no (v : Nat) (a n : Int) (h : ¬ thereP a n) (w : World) : Calls Try.prog 24 #[.int .u64 v, .int .i64 a, .int .i64 n] w fun e w' => e = .returned (.int .u64 0) ∧ Below w.heap.size w w' := by
  have HN := Lib.hid h
  clear h
  go_enter Try.func24, Try.ntmps24
  go_wp2_with (go_at_call 31; refine (there_no _ _ HN.out _).mono ?_; rintro e w' ⟨rfl, rfl⟩)
  go_ret
  exact ⟨rfl, below_refl w⟩
set_option maxHeartbeats 400000 in
theorem with_yes (v f a n : Nat) (hv : v < 2 ^ 64) (hf : f < 2 ^ 64) (h1 : a ≤ 64) (h : n ≤ 64 - a) (w : World) : Calls Try.prog 26 #[.int .u64 v, .int .i64 a, .int .i64 n, .int .u64 f] w fun e w' => e = .returned (.int .u64 (wit v a n f)) ∧ Below w.heap.size w w' := by
  have HF := Lib.hid (wit_eq v f a n hv hf (by omega))
  clear hv hf
  go_enter Try.func26, Try.ntmps26
  go_wp2_with (go_at_call 31; refine (there_yes _ _ h1 h _).mono ?_; rintro e w' ⟨rfl, rfl⟩)
  go_quiet ((go_at_call 30; exact quiet_left (mask_any _ (by omega) _)))
  go_wp2
  go_ret
  exact ⟨ret_int HF.out, below_drawn w _⟩
set_option maxHeartbeats 400000 in
theorem with_no (v f : Nat) (a n : Int) (h : ¬ thereP a n) (w : World) : Calls Try.prog 26 #[.int .u64 v, .int .i64 a, .int .i64 n, .int .u64 f] w fun e w' => e = .returned (.int .u64 v) ∧ Below w.heap.size w w' := by
  have HN := Lib.hid h
  clear h
  go_enter Try.func26, Try.ntmps26
  go_wp2_with (go_at_call 31; refine (there_no _ _ HN.out _).mono ?_; rintro e w' ⟨rfl, rfl⟩)
  go_ret
  exact ⟨rfl, below_refl w⟩
end Go.Proofs.Ytlegggefgjlkbaa.ShiftW
