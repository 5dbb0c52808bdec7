/- The walks of ShiftFits and ShiftHalves. -/
import Derived.Test.YtlegggefgjlkbaaShiftLaw
namespace Go.Proofs.Ytlegggefgjlkbaa.ShiftW
open Go.RowKit
/-- a number's bits, as one without a sign: closed to simp -/
def u64N (z : Int) : Nat := (z % 18446744073709551616).toNat
theorem u64N_eq (z : Int) : IntKind.u64.wrap z = (u64N z : Int) := by rw [IntKind.wrap_u64, u64N]; omega
theorem u64N_lt (z : Int) : u64N z < 2 ^ 64 := by unfold u64N; omega
theorem halfpow (k : Nat) (h1 : 1 ≤ k) (h : k ≤ 64) : ∃ H : Nat, 2 ^ (k - 1) = H ∧ 2 ^ k = 2 * H ∧ 1 ≤ H ∧ H ≤ 9223372036854775808 ∧ ∃ B : Nat, (18446744073709551616 : Int) = ((2 ^ k : Nat) : Int) * (B : Int) := by
  refine ⟨2 ^ (k - 1), rfl, by rw [← Nat.pow_succ']; congr 1; omega, Nat.pow_pos (by omega), pow_lt64 (k - 1) (by omega), 2 ^ (64 - k), ?_⟩
  rw [← Int.natCast_mul, ← Nat.pow_add, show k + (64 - k) = 64 by omega]; rfl
theorem low_u64N (z : Int) (k : Nat) (h1 : 1 ≤ k) (h : k ≤ 64) : (lowN (u64N z) k : Int) = z % ((2 ^ k : Nat) : Int) := by
  obtain ⟨H, _, _, _, _, B, hB⟩ := halfpow k h1 h
  have e : ((u64N z : Nat) : Int) = z % 18446744073709551616 := by unfold u64N; omega
  rw [lowN, Int.natCast_emod, e, hB, Int.emod_emod_of_dvd _ ⟨_, rfl⟩]
theorem signed_in (z : Int) (k : Nat) (h1 : 1 ≤ k) (h : k ≤ 64) (ha : -((topN k : Int)) - 1 ≤ z) (hb : z ≤ topN k) : signedI (u64N z) k = z := by
  have hl := low_u64N z k h1 h
  obtain ⟨H, e1, e2, h3, h4, _⟩ := halfpow k h1 h
  unfold topN at ha hb
  unfold signedI
  rw [e1] at ha hb ⊢
  rw [e2] at hl ⊢
  by_cases hz : 0 ≤ z
  · have : z % ((2 * H : Nat) : Int) = z := Int.emod_eq_of_lt hz (by omega)
    rw [if_pos (by omega), hl, this]
  · have : z % ((2 * H : Nat) : Int) = z + (2 * H : Nat) := by
      rw [← Int.add_emod_right]; exact Int.emod_eq_of_lt (by omega) (by omega)
    rw [if_neg (by omega), hl, this]; omega
theorem signed_bd (x k : Nat) (h1 : 1 ≤ k) (h : k ≤ 64) : -((topN k : Int)) - 1 ≤ signedI x k ∧ signedI x k ≤ topN k := by
  obtain ⟨H, e1, e2, h3, h4, _⟩ := halfpow k h1 h
  have hx : lowN x k < 2 ^ k := Nat.mod_lt _ (Nat.pow_pos (by omega))
  unfold signedI topN
  rw [e2] at hx
  rw [e1, e2]
  split <;> omega
theorem fits_iff (v : Int) (k : Nat) (h1 : 1 ≤ k) (h : k ≤ 64) : (fitI v k = v) ↔ (signedI (u64N v) k = v) := by
  have hb := signed_bd (u64N v) k h1 h
  constructor
  · intro hf
    exact signed_in v k h1 h (by unfold fitI at hf; omega) (by unfold fitI at hf; omega)
  · intro hs
    rw [hs] at hb
    unfold fitI; omega
theorem fit_facts (v : Int) (k : Nat) (h1 : 1 ≤ k) (h : k ≤ 64) : ∃ f : Int, fitI v k = f ∧ -9223372036854775808 ≤ f ∧ f ≤ 9223372036854775807 ∧ (signedI (u64N f) k != f) = false ∧ fitI f k = f ∧ (!((f == v) == (signedI (u64N v) k == v))) = false ∧ (0 ≤ v → 0 ≤ f) := by
  have ht := topN_lt k h
  have hr : -(topN k : Int) - 1 ≤ fitI v k ∧ fitI v k ≤ topN k := by unfold fitI; omega
  refine ⟨fitI v k, rfl, by omega, by omega, ?_, ?_, ?_, ?_⟩
  · rw [signed_in _ k h1 h hr.1 hr.2]; simp
  · generalize fitI v k = f at hr
    unfold fitI; omega
  · have hi := fits_iff v k h1 h
    by_cases hf : fitI v k = v
    · simp [hf, hi.1 hf]
    · have hs : ¬ signedI (u64N v) k = v := fun e => hf (hi.2 e)
      rw [beq_eq_false_iff_ne.2 hf, beq_eq_false_iff_ne.2 hs]; rfl
  · intro h0; unfold fitI; omega

set_option maxHeartbeats 1000000 in
theorem fits_walk (v : Int) (hv : (Lit.int .i64 v).wf = true) (b : Int) (_ : (Lit.int .i64 b).wf = true) (w : World) :
    Calls Try.prog 6 #[.int .i64 v, .int .i64 b] w fun e w' => e = .returned (.bool true) ∧ Below w.heap.size w w' := by
  obtain ⟨hv1, hv2⟩ := i64_bd hv
  clear hv
  obtain ⟨m, hm, hk⟩ : ∃ m : Nat, m < 64 ∧ b % 64 = (m : Int) := ⟨(b % 64).toNat, by omega, by omega⟩
  have HK := Lib.hid hk
  clear hk
  obtain ⟨k, hk1⟩ : ∃ k : Nat, 1 + (m : Int) = (k : Int) := ⟨m + 1, by omega⟩
  have HM := Lib.hid hk1
  have hk2 : 1 ≤ k := by omega
  have hk3 : k ≤ 64 := by omega
  clear hk1
  obtain ⟨f, hf0, hf1, hf2, p1, p2, p3, p4⟩ := fit_facts v k hk2 hk3
  have HF0 := Lib.hid hf0
  have HP2 := Lib.hid p2
  have hs1 := u64N_eq f
  have hs2 := u64N_eq v
  have p2' : (f != f) = false := by simp
  clear hf0 p2
  rcases (by omega : f ≤ v ∨ v < f) with hc | hc <;> rcases (by omega : v < 0 ∨ (0 ≤ v ∧ 0 ≤ f)) with hd | hd
  all_goals
    have d0 : decide (f ≤ v) = true ∨ (decide (f ≤ v) = false ∧ decide (v < f) = true) := by
      first | (left; simp; omega) | (right; constructor <;> simp <;> omega)
    have d1 : decide (v < 0) = true ∨ (decide (v < 0) = false ∧ decide (0 ≤ f) = true) := by
      first | (left; simp; omega) | (right; constructor <;> simp <;> omega)
    go_enter Try.func6, Try.ntmps6
    go_wp2_with (first
      | (go_at_call 23; refine (mod_any _ _ _ (by omega) (by omega)).mono ?_; rintro e w' ⟨rfl, rfl⟩; rw [HK.out])
      | (go_at_call_of 17 (Value.int .i64 v); rw [HM.out]; refine (fit_any v k (by omega) (by omega) _).mono ?_; rintro e w' ⟨rfl, rfl⟩; rw [HF0.out])
      | (go_at_call 17; refine (fit_any f k (by omega) (by omega) _).mono ?_; rintro e w' ⟨rfl, rfl⟩; rw [HP2.out])
      | (go_at_call 15; refine (signed_any _ k (by omega) (by omega) _).mono ?_; rintro e w' ⟨rfl, rfl⟩)
      | (go_at_call 10; refine (wakes_any _).mono ?_; rintro e w' ⟨rfl, hb⟩))
    all_goals go_ret
    all_goals exact ⟨rfl, by assumption⟩
end Go.Proofs.Ytlegggefgjlkbaa.ShiftW
