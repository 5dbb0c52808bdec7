/- Plain mathematics for CrcTurned: bytes of which some bits are turned over. -/
import Derived.Test.YtlmbllboemgcpaaCrcPlain
namespace Go.Proofs.Ytlmbllboemgcpaa.CrcP
def bitByte (r : Nat) : UInt8 := UInt8.ofNat (2 ^ r)
def flipB (c : UInt8) (r : Nat) : UInt8 := c ^^^ bitByte r
def turnedF (s : List UInt8) (k fl : Nat) : Nat → Nat → UInt8
  | 0, j => s.getD j 0
  | m + 1, j => if fl.testBit m = true ∧ j = (k + m) / 8 then flipB (turnedF s k fl m j) ((k + m) % 8) else turnedF s k fl m j
theorem bitByte_bit (r t : Nat) (hr : r < 8) : (bitByte r).toNat.testBit t = decide (r = t) := by
  unfold bitByte
  rw [UInt8.toNat_ofNat', Nat.mod_eq_of_lt, Nat.testBit_two_pow]
  exact Nat.pow_lt_pow_right (by omega) hr
theorem turnedF_bit (s : List UInt8) (k fl m p : Nat) :
    (turnedF s k fl m (p / 8)).toNat.testBit (p % 8) = ((s.getD (p / 8) 0).toNat.testBit (p % 8) ^^ (decide (k ≤ p) && decide (p < k + m) && fl.testBit (p - k))) := by
  induction m with
  | zero =>
    have : (decide (k ≤ p) && decide (p < k + 0)) = false := by simp
    rw [this]; simp [turnedF]
  | succ m ih =>
    simp only [turnedF]
    by_cases e : p = k + m
    · subst e
      have h1 : (decide (k ≤ k + m) && decide (k + m < k + m)) = false := by simp
      rw [h1, Bool.false_and, Bool.xor_false] at ih
      have h2 : (decide (k ≤ k + m) && decide (k + m < k + (m + 1))) = true := by simp
      rw [h2, Bool.true_and, Nat.add_sub_cancel_left]
      by_cases hb : fl.testBit m = true
      · rw [if_pos ⟨hb, rfl⟩, flipB, UInt8.toNat_xor, Nat.testBit_xor, ih, bitByte_bit _ _ (Nat.mod_lt _ (by omega)), hb]; simp
      · rw [if_neg (fun h => hb h.1), ih]; simp [hb]
    · have h1 : (decide (k ≤ p) && decide (p < k + (m + 1))) = (decide (k ≤ p) && decide (p < k + m)) := by
        congr 1; apply decide_eq_decide.2; omega
      rw [h1, ← ih]
      by_cases hc : fl.testBit m = true ∧ p / 8 = (k + m) / 8
      · rw [if_pos hc, flipB, UInt8.toNat_xor, Nat.testBit_xor, bitByte_bit _ _ (Nat.mod_lt _ (by omega)), decide_eq_false (by omega), Bool.xor_false]
      · rw [if_neg hc]
theorem turnedF_yes (s : List UInt8) (k fl m : Nat) (h : fl.testBit m = true) :
    (fun j => if j = (k + m) / 8 then flipB (turnedF s k fl m ((k + m) / 8)) ((k + m) % 8) else turnedF s k fl m j) = turnedF s k fl (m + 1) := by
  funext j
  simp only [turnedF, h, true_and]
  by_cases e : j = (k + m) / 8
  · rw [if_pos e, if_pos e, e]
  · rw [if_neg e, if_neg e]
theorem turnedF_no (s : List UInt8) (k fl m : Nat) (h : fl.testBit m = false) : turnedF s k fl m = turnedF s k fl (m + 1) := by
  funext j; simp [turnedF, h]
theorem mod_yes (fl m : Nat) (h : fl.testBit m = true) : (true : Bool) = !(decide (fl % 2 ^ (m + 1) = 0)) := by
  have h1 : fl % 2 ^ (m + 1) = fl % 2 ^ m + 2 ^ m * (fl / 2 ^ m % 2) := Nat.mod_pow_succ
  have h2 : fl / 2 ^ m % 2 = 1 := by rw [Nat.testBit_eq_decide_div_mod_eq] at h; simpa using h
  have h3 : 0 < 2 ^ m := Nat.pow_pos (by omega)
  rw [h2] at h1
  simp; omega
theorem mod_no (fl m : Nat) (h : fl.testBit m = false) : fl % 2 ^ (m + 1) = fl % 2 ^ m := by
  have h1 : fl % 2 ^ (m + 1) = fl % 2 ^ m + 2 ^ m * (fl / 2 ^ m % 2) := Nat.mod_pow_succ
  have h2 : fl / 2 ^ m % 2 = 0 := by rw [Nat.testBit_eq_decide_div_mod_eq] at h; simp at h; omega
  rw [h2] at h1; omega
/-- the law: the sums differ just if a bit was turned over -/
theorem turned_sum (s : List UInt8) (k fl m : Nat) (hm : m ≤ 32) (hk : k + m ≤ 8 * s.length) :
    sum ((List.range s.length).map (turnedF s k fl m)) = sum s ↔ fl % 2 ^ m = 0 := by
  refine turned_law s _ k m (fl % 2 ^ m) (by simp) hm (Nat.mod_lt _ (Nat.pow_pos (by omega))) hk ?_
  intro p hp
  have h1 : ((List.range s.length).map (turnedF s k fl m)).getD (p / 8) 0 = turnedF s k fl m (p / 8) := by
    have : p / 8 < s.length := by omega
    simp [List.getD, this]
  rw [h1, turnedF_bit, Nat.testBit_mod_two_pow]
  congr 1
  by_cases h2 : k ≤ p
  · by_cases h3 : p < k + m
    · simp [h2, h3, show p - k < m by omega]
    · simp [h3]
  · simp [h2]
end Go.Proofs.Ytlmbllboemgcpaa.CrcP
