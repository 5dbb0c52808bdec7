/- The walks of the reference's Signed and Fit, and of both Turn and Count. -/
import Derived.Test.YtlegggefgjlkbaaShiftBits
import Derived.Test.YtlegggefgjlkbaaKeep
namespace Go.Proofs.Ytlegggefgjlkbaa.ShiftW
open Go.RowKit
theorem half_eq (n : Nat) (h1 : 1 ≤ n) (h : n ≤ 64) : powN (n - 1) = 2 ^ (n - 1) := powN_lt _ (by omega)
theorem rs_lo (v n : Nat) (h1 : 1 ≤ n) (h : n ≤ 64) (hlt : lowN v n < powN (n - 1)) : wrap64 (lowN v n : Int) = signedI v n := by
  rw [half_eq n h1 h] at hlt
  have h2 := pow_lt64 (n - 1) (by omega)
  rw [signedI, if_pos hlt, IntWalk.wrap64_in _ (by omega)]
theorem rs_hi (v n : Nat) (h1 : 1 ≤ n) (h : n ≤ 64) (hlt : powN (n - 1) ≤ lowN v n) :
    wrap64 (wrap64 (wrap64 (IntKind.u64.wrap ((lowN v n : Int) - (powN (n - 1) : Int))) - wrap64 (IntKind.u64.wrap ((powN (n - 1) : Int) - 1))) - 1) = signedI v n := by
  rw [half_eq n h1 h] at *
  have h2 := pow_lt64 (n - 1) (by omega)
  have h3 : 1 ≤ 2 ^ (n - 1) := Nat.pow_pos (by omega)
  have hp : 2 ^ n = 2 * 2 ^ (n - 1) := by rw [← Nat.pow_succ']; congr 1; omega
  have hx : lowN v n < 2 ^ n := Nat.mod_lt _ (Nat.pow_pos (by omega))
  rw [signedI, if_neg (by omega), IntKind.wrap_u64, IntKind.wrap_u64]
  generalize lowN v n = x at *
  rw [hp] at *
  generalize 2 ^ (n - 1) = H at *
  unfold wrap64
  omega
theorem rtop_eq (n : Nat) (h1 : 1 ≤ n) (h : n ≤ 64) : wrap64 (IntKind.u64.wrap ((powN (n - 1) : Int) - 1)) = (topN n : Int) := by
  rw [half_eq n h1 h]
  have h2 := pow_lt64 (n - 1) (by omega)
  have h3 : 1 ≤ 2 ^ (n - 1) := Nat.pow_pos (by omega)
  unfold topN
  rw [IntKind.wrap_u64]
  unfold wrap64
  omega
set_option maxHeartbeats 400000 in
theorem rsigned_any (v n : Nat) (hv : v < 2 ^ 64) (h1 : 1 ≤ n) (h : n ≤ 64) (w : World) : Calls Try.prog 16 #[.int .u64 v, .int .i64 n] w fun e w' => e = .returned (.int .i64 (signedI v n)) ∧ w = w' := by
  have d1 : decide ((n : Int) < 1) = false := by simp; omega
  have d2 : decide (64 < (n : Int)) = false := by simp; omega
  have HV := Lib.hid hv
  clear hv
  by_cases hlt : lowN v n < powN (n - 1)
  · have HF := Lib.hid (rs_lo v n h1 h hlt)
    go_enter Try.func16, Try.ntmps16
    go_wp2_with (first
      | (go_at_call 28; refine (low_any _ _ HV.out (by omega) _).mono ?_; rintro e w' ⟨rfl, rfl⟩)
      | (go_at_call 29; rw [show ((n : Int) - 1) = ((n - 1 : Nat) : Int) by omega]; refine (pow_any _ (by omega) _).mono ?_; rintro e w' ⟨rfl, rfl⟩))
    go_ret
    exact ⟨ret_int HF.out, rfl⟩
  · have HF := Lib.hid (rs_hi v n h1 h (by omega))
    go_enter Try.func16, Try.ntmps16
    go_wp2_with (first
      | (go_at_call 28; refine (low_any _ _ HV.out (by omega) _).mono ?_; rintro e w' ⟨rfl, rfl⟩)
      | (go_at_call 29; rw [show ((n : Int) - 1) = ((n - 1 : Nat) : Int) by omega]; refine (pow_any _ (by omega) _).mono ?_; rintro e w' ⟨rfl, rfl⟩))
    go_ret
    exact ⟨ret_int HF.out, rfl⟩
set_option maxHeartbeats 400000 in
theorem rfit_any (v : Int) (n : Nat) (h1 : 1 ≤ n) (h : n ≤ 64) (w : World) : Calls Try.prog 18 #[.int .i64 v, .int .i64 n] w fun e w' => e = .returned (.int .i64 (fitI v n)) ∧ w = w' := by
  have d1 : decide ((n : Int) < 1) = false := by simp; omega
  have d2 : decide (64 < (n : Int)) = false := by simp; omega
  have h2 := rtop_eq n h1 h
  have h4 := topN_lt n h
  rcases (by omega : v < -(topN n : Int) - 1 ∨ ((-(topN n : Int) - 1 ≤ v) ∧ v ≤ topN n) ∨ (topN n : Int) < v) with h5 | ⟨h5, h6⟩ | h5
  · have HF := Lib.hid (fit_a v n (by omega))
    go_enter Try.func18, Try.ntmps18
    go_wp2_with (go_at_call 29; rw [show ((n : Int) - 1) = ((n - 1 : Nat) : Int) by omega]; refine (pow_any _ (by omega) _).mono ?_; rintro e w' ⟨rfl, rfl⟩)
    all_goals go_ret
    all_goals exact ⟨by rw [HF.out]; first | rfl | (apply ret_int; omega), rfl⟩
  · have HF := Lib.hid (fit_b v n (by omega) (by omega))
    go_enter Try.func18, Try.ntmps18
    go_wp2_with (go_at_call 29; rw [show ((n : Int) - 1) = ((n - 1 : Nat) : Int) by omega]; refine (pow_any _ (by omega) _).mono ?_; rintro e w' ⟨rfl, rfl⟩)
    all_goals go_ret
    all_goals exact ⟨by rw [HF.out]; first | rfl | (apply ret_int; omega), rfl⟩
  · have HF := Lib.hid (fit_c v n (by omega))
    go_enter Try.func18, Try.ntmps18
    go_wp2_with (go_at_call 29; rw [show ((n : Int) - 1) = ((n - 1 : Nat) : Int) by omega]; refine (pow_any _ (by omega) _).mono ?_; rintro e w' ⟨rfl, rfl⟩)
    all_goals go_ret
    all_goals exact ⟨by rw [HF.out]; first | rfl | (apply ret_int; omega), rfl⟩

theorem u64_and31 (n : Int) : bits BinOp.and IntKind.u64 (IntKind.u64.wrap n) 31 = (((n % 32).toNat : Nat) : Int) := by
  have h := u64_and_nat (IntKind.u64.wrap n).toNat 31 (by rw [IntKind.wrap_u64]; omega) (by omega)
  have h0 : 0 ≤ IntKind.u64.wrap n := by rw [IntKind.wrap_u64]; omega
  rw [Int.toNat_of_nonneg h0] at h
  rw [show (31 : Int) = ((31 : Nat) : Int) from rfl, h, nat_mask5, IntKind.wrap_u64]
  omega
/-- turned, closed to simp -/
def rotN (k v : Nat) : Nat := ShiftP.rot k v
theorem turn_eq (k v : Nat) (hk : k < 32) (hv : v < 2 ^ 32) : bits BinOp.or IntKind.u32 ((v : Int) * 2 ^ k % 4294967296) ((v : Int) / 2 ^ (32 - k)) = (rotN k v : Int) := by
  have e1 : ((v : Int) * 2 ^ k % 4294967296) = ((v * 2 ^ k % 2 ^ 32 : Nat) : Int) := by rw [Int.natCast_emod, Int.natCast_mul, Int.natCast_pow]; rfl
  have e2 : ((v : Int) / 2 ^ (32 - k)) = ((v / 2 ^ (32 - k) : Nat) : Int) := by rw [Int.natCast_ediv, Int.natCast_pow]; rfl
  have h1 := ShiftP.high_lt k v (by omega) hv
  have h2 : 2 ^ k ≤ 2 ^ 32 := Nat.pow_le_pow_right (by omega) (by omega)
  rw [e1, e2, u32_or_nat _ _ (Nat.mod_lt _ (by omega)) (by omega), nat_join k _ _ ?_ h1]
  · rfl
  · rw [show (4294967296 : Nat) = 2 ^ (32 - k) * 2 ^ k by rw [← Nat.pow_add, show 32 - k + k = 32 by omega], Nat.mul_mod_mul_right]; simp
set_option maxHeartbeats 400000 in
theorem turn_any (v : Nat) (hv : v < 2 ^ 32) (n : Int) (w : World) : Calls Try.prog 19 #[.int .u32 v, .int .i64 n] w fun e w' => e = .returned (.int .u32 (rotN (n % 32).toNat v)) ∧ w = w' := by
  have hk := u64_and31 n
  have hk2 : (n % 32).toNat < 32 := by omega
  generalize (n % 32).toNat = k at *
  have HF := Lib.hid (turn_eq k v hk2 hv)
  clear hv
  go_enter Try.func19, Try.ntmps19
  go_wp2
  go_ret
  exact ⟨ret_int HF.out, rfl⟩
theorem rot_start (v : Nat) (hv : v < 2 ^ 32) : rotN 0 v = v := ShiftP.rot_zero v hv
theorem rot_step (k v : Nat) (hk : k < 32) (hv : v < 2 ^ 32) : ((rotN k v : Int) * 2 % 4294967296 + (rotN k v : Int) / 2147483648 % 4294967296) % 4294967296 = (rotN (k + 1) v : Int) := by
  have h1 := ShiftP.rot_lt k v (by omega) hv
  have h2 := ShiftP.rot_succ k v hk hv
  have h3 := ShiftP.rot_one (ShiftP.rot k v)
  unfold rotN
  rw [← h2, ← h3]
  omega
set_option maxHeartbeats 400000 in
theorem rturn_any (v : Nat) (hv : v < 2 ^ 32) (n : Int) (w : World) : Calls Try.prog 20 #[.int .u32 v, .int .i64 n] w fun e w' => e = .returned (.int .u32 (rotN (n % 32).toNat v)) ∧ w = w' := by
  have hk : (n.tmod 32 + 32) % 32 = (((n % 32).toNat : Nat) : Int) := by
    rw [Int.add_emod_right]
    have h := Int.mul_tdiv_add_tmod n 32
    omega
  have hk2 : (n % 32).toNat < 32 := by omega
  have hb : -32 < n.tmod 32 ∧ n.tmod 32 < 32 := by
    have h := Int.mul_tdiv_add_tmod n 32
    have h1 := Int.tmod_lt_of_pos n (b := 32) (by omega)
    have h2 := Int.tmod_lt_of_pos (-n) (b := 32) (by omega)
    rw [Int.neg_tmod] at h2
    omega
  obtain ⟨hb1, hb2⟩ := hb
  generalize (n % 32).toNat = k at *
  have H0 := Lib.hid (rot_start v hv)
  have HV := Lib.hid hv
  clear hv
  go_enter Try.func20, Try.ntmps20
  go_wp2
  go_loop [0, 5] (fun x i => ∃ j : Nat, j ≤ k ∧ i = .int .i64 j ∧ x = .int .u32 (rotN j v)) (fun _ i => k - (intOf i).toNat)
  case atStart => exact ⟨0, by omega, rfl, by rw [H0.out]⟩
  case round =>
    obtain ⟨j, hj, rfl, rfl⟩ := hrel
    by_cases hlt : j < k
    · have hs := Lib.hid (rot_step j v (by omega) HV.out)
      go_wp2
      go_round
      case rel => exact ⟨j + 1, by omega, by go_num, by rw [hs.out]⟩
      case measure => simp [intOf]; omega
    · have HK := Lib.hid (show j = k by omega)
      go_wp2
      go_ret
      exact ⟨by rw [HK.out]; rfl, rfl⟩

/-- how many bits are set, closed to simp -/
def popN (v : Nat) : Nat := ShiftP.pop 64 v
def lessOne (v : Nat) : Nat := v &&& (v - 1)
theorem less_eq (x : Nat) (h0 : 0 < x) (hx : x < 2 ^ 64) : bits BinOp.and IntKind.u64 (x : Int) (IntKind.u64.wrap ((x : Int) - 1)) = (lessOne x : Int) := by
  rw [IntKind.wrap_u64, show ((x : Int) - 1) % 18446744073709551616 = ((x - 1 : Nat) : Int) by omega, u64_and_nat _ _ (by omega) (by omega)]; rfl
theorem pop_less (x : Nat) (h0 : 0 < x) (hx : x < 2 ^ 64) : popN x = popN (lessOne x) + 1 := ShiftP.pop_pred 64 x hx h0
theorem less_lt (x : Nat) (h0 : 0 < x) : lessOne x < x := ShiftP.and_pred_lt x h0
theorem pop_le (k v : Nat) : ShiftP.pop k v ≤ k := by
  induction k generalizing v with
  | zero => exact Nat.le_refl _
  | succ k ih =>
    have := ih (v / 2)
    simp only [ShiftP.pop]; omega
theorem popN_le (v : Nat) : popN v ≤ 64 := pop_le 64 v
theorem popN_zero : popN 0 = 0 := ShiftP.pop_zero 64
set_option maxHeartbeats 400000 in
theorem count_any (v : Nat) (hv : v < 2 ^ 64) (w : World) : Calls Try.prog 21 #[.int .u64 v] w fun e w' => e = .returned (.int .i64 (popN v)) ∧ w = w' := by
  have HV := Lib.hid hv
  have hp := popN_le v
  clear hv
  go_enter Try.func21, Try.ntmps21
  go_wp2
  go_loop [0, 3] (fun x c => ∃ y m : Nat, Hid (y < 2 ^ 64) ∧ Hid (m + popN y = popN v) ∧ m ≤ 64 ∧ x = .int .u64 y ∧ c = .int .i64 m) (fun x _ => (intOf x).toNat)
  case atStart => exact ⟨v, 0, HV, by rw [Nat.zero_add]; exact Lib.hid rfl, by omega, rfl, rfl⟩
  case round =>
    obtain ⟨y, m, hy, he, hm, rfl, rfl⟩ := hrel
    by_cases hz : 0 < y
    · have ht : ((y : Int) != 0) = true := by rw [bne_iff_ne]; omega
      have hl := less_eq y hz hy.out
      have hlt := less_lt y hz
      have he2 := Lib.hid (pop_less y hz hy.out)
      have hm2 : m < 64 := by have := he.out; have := he2.out; omega
      go_wp2
      go_round
      case rel => exact ⟨lessOne y, m + 1, Lib.hid (Nat.lt_trans hlt hy.out), Lib.hid (by have := he.out; have := he2.out; omega), by omega, rfl, by go_num⟩
      case measure => simp [intOf]; omega
    · have ht : ((y : Int) != 0) = false := by
        rw [show y = 0 by omega]; rfl
      have HE := Lib.hid (show m = popN v by have := he.out; rw [show y = 0 by omega, popN_zero] at this; omega)
      go_wp2
      go_ret
      exact ⟨by rw [← HE.out]; rfl, rfl⟩
theorem rpop_quo (y : Nat) (hy : y < 2 ^ 64) : IntKind.u64.wrap ((y : Int) / 2) = ((y / 2 : Nat) : Int) := by
  rw [IntKind.wrap_u64]; omega
def half (y : Nat) : Nat := y / 2
def lowBit (y : Nat) : Nat := y % 2
set_option maxHeartbeats 400000 in
theorem rcount_any (v : Nat) (hv : v < 2 ^ 64) (w : World) : Calls Try.prog 22 #[.int .u64 v] w fun e w' => e = .returned (.int .i64 (popN v)) ∧ w = w' := by
  have HV := Lib.hid hv
  have hp := popN_le v
  clear hv
  go_enter Try.func22, Try.ntmps22
  go_wp2
  go_loop [0, 3] (fun x c => ∃ k y m : Nat, Hid (y < 2 ^ 64) ∧ Hid (m + ShiftP.pop k y = popN v ∧ y < 2 ^ k) ∧ m ≤ 64 ∧ x = .int .u64 y ∧ c = .int .i64 m) (fun x _ => (intOf x).toNat)
  case atStart => exact ⟨64, v, 0, HV, Lib.hid ⟨by rw [Nat.zero_add]; rfl, HV.out⟩, by omega, rfl, rfl⟩
  case round =>
    obtain ⟨k, y, m, hy, he, hm, rfl, rfl⟩ := hrel
    by_cases hz : 0 < y
    · have hq := rpop_quo y hy.out
      have hstep : ∃ k', k = k' + 1 := by
        rcases k with _ | k'
        · have := he.out.2; simp at this; omega
        · exact ⟨k', rfl⟩
      obtain ⟨k', rfl⟩ := hstep
      have HS := Lib.hid (show m + lowBit y + ShiftP.pop k' (half y) = popN v ∧ half y < 2 ^ k' by
        obtain ⟨h1, h2⟩ := he.out
        rw [Nat.pow_succ] at h2
        simp only [ShiftP.pop] at h1
        unfold half lowBit
        exact ⟨by omega, by omega⟩)
      have hm2 : m + lowBit y ≤ 64 := by have := HS.out.1; omega
      have hlt : half y < y := by unfold half; omega
      have hy2 := Lib.hid (Nat.lt_trans hlt hy.out)
      rw [show ((y / 2 : Nat)) = half y from rfl] at hq
      have h01 : ((y : Int) % 2) = ((lowBit y : Nat) : Int) := by unfold lowBit; omega
      go_wp2
      go_round
      case rel => exact ⟨k', half y, m + lowBit y, hy2, HS, hm2, rfl, by go_num⟩
      case measure => simp [intOf]; omega
    · have HE := Lib.hid (show m = popN v by have := he.out.1; rw [show y = 0 by omega, ShiftP.pop_zero] at this; omega)
      go_wp2
      go_ret
      exact ⟨by rw [← HE.out]; rfl, rfl⟩
end Go.Proofs.Ytlegggefgjlkbaa.ShiftW
