/- Plain mathematics for Shift: no program in sight. -/
namespace Go.Proofs.YtlffcilgmockmaaDoor.ShiftP
theorem p256 (n : Nat) : 2 ^ (8 * n) = 256 ^ n := by rw [Nat.pow_mul]
/-- a number's lowest bytes, the highest first -/
def putN (v size : Nat) : List UInt8 := (List.range size).map fun i => UInt8.ofNat (v / 2 ^ (8 * (size - 1 - i)))
theorem putN_length (v n : Nat) : (putN v n).length = n := by simp [putN]
theorem putN_get (v n i : Nat) (h : i < n) : (putN v n)[i]? = some (UInt8.ofNat (v / 2 ^ (8 * (n - 1 - i)))) := by simp [putN, h]
theorem putN_succ (v n : Nat) : putN v (n + 1) = putN (v / 256) n ++ [UInt8.ofNat v] := by
  apply List.ext_getElem?
  intro i
  by_cases h : i < n
  · rw [putN_get _ _ _ (by omega), List.getElem?_append_left (by rw [putN_length]; exact h), putN_get _ _ _ h]
    have : n + 1 - 1 - i = (n - 1 - i) + 1 := by omega
    rw [this, Nat.mul_succ, Nat.pow_add, Nat.mul_comm, ← Nat.div_div_eq_div_mul]
  · by_cases h2 : i = n
    · subst h2
      rw [putN_get _ _ _ (by omega), List.getElem?_append_right (by rw [putN_length]; omega), putN_length]
      simp
    · rw [List.getElem?_eq_none (by rw [putN_length]; omega), List.getElem?_eq_none (by simp [putN_length]; omega)]
def getN (l : List UInt8) : Nat := l.foldl (fun a c => a * 256 + c.toNat) 0
theorem getN_snoc (l : List UInt8) (c : UInt8) : getN (l ++ [c]) = getN l * 256 + c.toNat := by simp [getN]
theorem getN_lt' (l : List UInt8) (a : Nat) : l.foldl (fun a c => a * 256 + c.toNat) a < (a + 1) * 256 ^ l.length := by
  induction l generalizing a with
  | nil => simp
  | cons c l ih =>
    rw [List.foldl_cons, List.length_cons, Nat.pow_succ]
    have h := ih (a * 256 + c.toNat)
    have hc := c.toNat_lt
    have h2 : (a * 256 + c.toNat + 1) * 256 ^ l.length ≤ ((a + 1) * 256) * 256 ^ l.length := Nat.mul_le_mul_right _ (by omega)
    rw [Nat.mul_comm (256 ^ l.length), ← Nat.mul_assoc]; omega
theorem getN_lt (l : List UInt8) : getN l < 256 ^ l.length := by
  have := getN_lt' l 0
  simpa [getN] using this
theorem getN_putN (v n : Nat) : getN (putN v n) = v % 256 ^ n := by
  induction n generalizing v with
  | zero => simp [putN, getN, Nat.mod_one]
  | succ n ih =>
    rw [putN_succ, getN_snoc, ih, Nat.pow_succ, Nat.mul_comm (256 ^ n), Nat.mod_mul]
    simp; omega
theorem putN_mod (v n : Nat) : putN (v % 256 ^ n) n = putN v n := by
  apply List.ext_getElem?
  intro i
  by_cases h : i < n
  · rw [putN_get _ _ _ h, putN_get _ _ _ h]
    congr 1
    apply UInt8.toNat_inj.1
    simp only [UInt8.toNat_ofNat']
    have e : 256 ^ n = 2 ^ (8 * (n - 1 - i)) * (256 * 256 ^ i) := by
      rw [p256, ← Nat.pow_succ', ← Nat.pow_add]; congr 1; omega
    rw [e, Nat.mod_mul_right_div_self, Nat.mod_mul_right_mod]
  · rw [List.getElem?_eq_none (by rw [putN_length]; omega), List.getElem?_eq_none (by rw [putN_length]; omega)]
theorem putN_append (v m n : Nat) : putN v (m + n) = putN (v / 256 ^ n) m ++ putN v n := by
  induction n generalizing v with
  | zero => simp [putN]
  | succ n ih =>
    rw [← Nat.add_assoc, putN_succ, ih, putN_succ v n, List.append_assoc, Nat.div_div_eq_div_mul, Nat.pow_succ, Nat.mul_comm 256]
/-- some bits -/
def fieldN (v at_ bits : Nat) : Nat := v / 2 ^ at_ % 2 ^ bits
def withN (v at_ bits f : Nat) : Nat := v % 2 ^ at_ + (f % 2 ^ bits) * 2 ^ at_ + v / 2 ^ (at_ + bits) * 2 ^ (at_ + bits)
theorem split3 (v a b : Nat) : v = v % 2 ^ a + fieldN v a b * 2 ^ a + v / 2 ^ (a + b) * 2 ^ (a + b) := by
  unfold fieldN
  have h1 := Nat.div_add_mod v (2 ^ a)
  have h2 := Nat.div_add_mod (v / 2 ^ a) (2 ^ b)
  rw [Nat.div_div_eq_div_mul, ← Nat.pow_add] at h2
  have h3 : v / 2 ^ a * 2 ^ a = (2 ^ b * (v / 2 ^ (a + b)) + v / 2 ^ a % 2 ^ b) * 2 ^ a := by rw [h2]
  rw [Nat.add_mul] at h3
  have h4 : 2 ^ b * (v / 2 ^ (a + b)) * 2 ^ a = v / 2 ^ (a + b) * 2 ^ (a + b) := by rw [Nat.pow_add]; ac_rfl
  rw [Nat.mul_comm (2 ^ a)] at h1
  omega
theorem withN_eq (v a b f : Nat) : withN v a b f = v - fieldN v a b * 2 ^ a + (f % 2 ^ b) * 2 ^ a := by
  have h := split3 v a b
  unfold withN
  generalize fieldN v a b * 2 ^ a = F at *
  generalize (f % 2 ^ b) * 2 ^ a = G at *
  generalize v / 2 ^ (a + b) * 2 ^ (a + b) = H at *
  omega
theorem withN_mod (v a b f : Nat) : withN v a b f % 2 ^ a = v % 2 ^ a := by
  unfold withN
  rw [Nat.pow_add, show v / (2 ^ a * 2 ^ b) * (2 ^ a * 2 ^ b) = (v / (2 ^ a * 2 ^ b) * 2 ^ b) * 2 ^ a by ac_rfl, Nat.add_assoc, ← Nat.add_mul, Nat.add_mul_mod_self_right, Nat.mod_mod]
theorem low_lt (v a b f : Nat) : v % 2 ^ a + (f % 2 ^ b) * 2 ^ a < 2 ^ (a + b) := by
  have h1 : v % 2 ^ a < 2 ^ a := Nat.mod_lt _ (Nat.pow_pos (by omega))
  have h2 : f % 2 ^ b < 2 ^ b := Nat.mod_lt _ (Nat.pow_pos (by omega))
  have h3 : (f % 2 ^ b + 1) * 2 ^ a ≤ 2 ^ b * 2 ^ a := Nat.mul_le_mul_right _ h2
  rw [Nat.add_mul] at h3
  rw [Nat.pow_add, Nat.mul_comm (2 ^ a)]; omega
theorem withN_div (v a b f : Nat) : withN v a b f / 2 ^ (a + b) = v / 2 ^ (a + b) := by
  unfold withN
  rw [Nat.add_mul_div_right _ _ (Nat.pow_pos (by omega)), Nat.div_eq_of_lt (low_lt v a b f), Nat.zero_add]
theorem withN_field (v a b f : Nat) : fieldN (withN v a b f) a b = f % 2 ^ b := by
  unfold fieldN withN
  rw [Nat.pow_add, show v / (2 ^ a * 2 ^ b) * (2 ^ a * 2 ^ b) = (v / (2 ^ a * 2 ^ b) * 2 ^ b) * 2 ^ a by ac_rfl, Nat.add_assoc, ← Nat.add_mul,
    Nat.add_mul_div_right _ _ (Nat.pow_pos (by omega)), Nat.div_eq_of_lt (Nat.mod_lt _ (Nat.pow_pos (by omega))), Nat.zero_add, Nat.add_mul_mod_self_right, Nat.mod_mod]
theorem withN_lt (v a b f w : Nat) (h : a + b ≤ w) (hv : v < 2 ^ w) : withN v a b f < 2 ^ w := by
  have h1 := low_lt v a b f
  have h2 : v / 2 ^ (a + b) < 2 ^ (w - (a + b)) := by
    rw [Nat.div_lt_iff_lt_mul (Nat.pow_pos (by omega)), ← Nat.pow_add, Nat.sub_add_cancel h]; exact hv
  have h3 : (v / 2 ^ (a + b) + 1) * 2 ^ (a + b) ≤ 2 ^ (w - (a + b)) * 2 ^ (a + b) := Nat.mul_le_mul_right _ h2
  rw [← Nat.pow_add, Nat.sub_add_cancel h, Nat.add_mul] at h3
  unfold withN; omega
theorem fieldN_lt (v a b : Nat) : fieldN v a b < 2 ^ b := Nat.mod_lt _ (Nat.pow_pos (by omega))
theorem fieldN_le (v a b : Nat) : fieldN v a b ≤ v := Nat.le_trans (Nat.mod_le _ _) (Nat.div_le_self _ _)
/-- bits that are set -/
def pop : Nat → Nat → Nat
  | 0, _ => 0
  | k + 1, v => v % 2 + pop k (v / 2)
theorem pop_zero (k : Nat) : pop k 0 = 0 := by
  induction k with
  | zero => rfl
  | succ k ih => simp [pop, ih]
theorem and_pred_even (u : Nat) (h : 0 < u) : (2 * u) &&& (2 * u - 1) = 2 * (u &&& (u - 1)) := by
  apply Nat.eq_of_testBit_eq
  intro j
  rw [Nat.testBit_and]
  cases j with
  | zero => simp [Nat.testBit_zero]
  | succ j =>
    rw [Nat.testBit_succ, Nat.testBit_succ, Nat.testBit_succ, show 2 * u / 2 = u by omega, show (2 * u - 1) / 2 = u - 1 by omega, show 2 * (u &&& (u - 1)) / 2 = u &&& (u - 1) by omega, Nat.testBit_and]
theorem and_pred_odd (u : Nat) : (2 * u + 1) &&& (2 * u) = 2 * u := by
  apply Nat.eq_of_testBit_eq
  intro j
  rw [Nat.testBit_and]
  cases j with
  | zero => simp [Nat.testBit_zero]
  | succ j =>
    rw [Nat.testBit_succ, Nat.testBit_succ, show 2 * u / 2 = u by omega, show (2 * u + 1) / 2 = u by omega]; simp
theorem pop_pred (k v : Nat) (h : v < 2 ^ k) (h0 : 0 < v) : pop k v = pop k (v &&& (v - 1)) + 1 := by
  induction k generalizing v with
  | zero => omega
  | succ k ih =>
    rw [Nat.pow_succ] at h
    rcases (by omega : v = 2 * (v / 2) ∨ v = 2 * (v / 2) + 1) with e | e
    · generalize v / 2 = u at *
      subst e
      rw [and_pred_even u (by omega)]
      have := ih u (by omega) (by omega)
      simp only [pop]
      rw [show 2 * u / 2 = u by omega, show 2 * (u &&& (u - 1)) / 2 = u &&& (u - 1) by omega, this]; omega
    · generalize v / 2 = u at *
      subst e
      rw [show 2 * u + 1 - 1 = 2 * u by omega, and_pred_odd]
      simp only [pop]
      rw [show 2 * u / 2 = u by omega, show (2 * u + 1) / 2 = u by omega]; omega
theorem and_pred_lt (v : Nat) (h0 : 0 < v) : v &&& (v - 1) < v := by
  have := @Nat.and_le_right v (v - 1)
  omega
theorem pop_split (i j x y : Nat) (h : y < 2 ^ i) : pop (i + j) (x * 2 ^ i + y) = pop i y + pop j x := by
  induction i generalizing y with
  | zero =>
    have : y = 0 := by simpa using h
    subst this; simp [pop]
  | succ i ih =>
    rw [Nat.pow_succ] at h
    rw [show i + 1 + j = (i + j) + 1 by omega]
    simp only [pop]
    rw [Nat.pow_succ, show (x * (2 ^ i * 2) + y) / 2 = x * 2 ^ i + y / 2 by rw [← Nat.mul_assoc]; omega, ih _ (by omega), show (x * (2 ^ i * 2) + y) % 2 = y % 2 by rw [← Nat.mul_assoc]; omega]
    omega
theorem pop_wide (i j y : Nat) (h : y < 2 ^ i) : pop (i + j) y = pop i y := by
  have := pop_split i j 0 y h
  simpa [pop_zero] using this
/-- turned to the left -/
def rot (k v : Nat) : Nat := v * 2 ^ k % 2 ^ 32 + v / 2 ^ (32 - k)
theorem rot_parts (k v : Nat) (hk : k ≤ 32) : rot k v = (v % 2 ^ (32 - k)) * 2 ^ k + v / 2 ^ (32 - k) := by
  unfold rot
  rw [show (2 : Nat) ^ 32 = 2 ^ (32 - k) * 2 ^ k by rw [← Nat.pow_add, Nat.sub_add_cancel hk], Nat.mul_mod_mul_right]
theorem high_lt (k v : Nat) (hk : k ≤ 32) (hv : v < 2 ^ 32) : v / 2 ^ (32 - k) < 2 ^ k := by
  rw [Nat.div_lt_iff_lt_mul (Nat.pow_pos (by omega)), ← Nat.pow_add, show k + (32 - k) = 32 by omega]; exact hv
theorem rot_lt (k v : Nat) (hk : k ≤ 32) (hv : v < 2 ^ 32) : rot k v < 2 ^ 32 := by
  rw [rot_parts k v hk]
  have h1 := high_lt k v hk hv
  have h2 : v % 2 ^ (32 - k) < 2 ^ (32 - k) := Nat.mod_lt _ (Nat.pow_pos (by omega))
  have h3 : (v % 2 ^ (32 - k) + 1) * 2 ^ k ≤ 2 ^ (32 - k) * 2 ^ k := Nat.mul_le_mul_right _ h2
  rw [← Nat.pow_add, Nat.sub_add_cancel hk, Nat.add_mul] at h3
  omega
theorem rot_zero (v : Nat) (hv : v < 2 ^ 32) : rot 0 v = v := by
  unfold rot
  rw [Nat.pow_zero, Nat.mul_one, Nat.mod_eq_of_lt hv, Nat.div_eq_of_lt (by simpa using hv)]; rfl
theorem rot_back (k v : Nat) (hk : k ≤ 32) (hv : v < 2 ^ 32) : rot (32 - k) (rot k v) = v := by
  rw [rot_parts k v hk, rot_parts (32 - k) _ (by omega), show 32 - (32 - k) = k by omega]
  have h1 := high_lt k v hk hv
  rw [Nat.add_comm (v % 2 ^ (32 - k) * 2 ^ k), Nat.add_mul_mod_self_right, Nat.mod_eq_of_lt h1, Nat.add_mul_div_right _ _ (Nat.pow_pos (by omega)), Nat.div_eq_of_lt h1, Nat.zero_add, Nat.mul_comm]
  exact Nat.div_add_mod v _
theorem rot_pop (k v : Nat) (hk : k ≤ 32) (hv : v < 2 ^ 32) : pop 64 (rot k v) = pop 64 v := by
  have h1 := high_lt k v hk hv
  have h2 : v % 2 ^ (32 - k) < 2 ^ (32 - k) := Nat.mod_lt _ (Nat.pow_pos (by omega))
  rw [pop_wide 32 32 _ (rot_lt k v hk hv), pop_wide 32 32 _ hv, rot_parts k v hk]
  have e1 := pop_split k (32 - k) (v % 2 ^ (32 - k)) _ h1
  have e2 := pop_split (32 - k) k (v / 2 ^ (32 - k)) _ h2
  rw [show k + (32 - k) = 32 by omega] at e1
  rw [show 32 - k + k = 32 by omega, Nat.mul_comm, Nat.div_add_mod] at e2
  omega
theorem rot_one (v : Nat) : v * 2 % 2 ^ 32 + v / 2 ^ 31 = rot 1 v := by simp [rot]
theorem rot_succ (k v : Nat) (hk : k < 32) (hv : v < 2 ^ 32) : rot 1 (rot k v) = rot (k + 1) v := by
  have hl := rot_lt k v (by omega) hv
  rw [rot_parts 1 _ (by omega), rot_parts (k + 1) v (by omega), rot_parts k v (by omega)]
  have h1 := high_lt k v (by omega) hv
  rw [show 32 - (k + 1) = 31 - k by omega, show 32 - k = (31 - k) + 1 by omega, show 32 - 1 = (31 - k) + k by omega]
  rw [show 32 - k = (31 - k) + 1 by omega] at h1
  generalize 31 - k = m at *
  have e0 : v / 2 ^ (m + 1) = v / 2 ^ m / 2 := by rw [Nat.pow_succ, Nat.div_div_eq_div_mul]
  have e1 : v % 2 ^ (m + 1) = v % 2 ^ m + 2 ^ m * (v / 2 ^ m % 2) := Nat.mod_pow_succ
  rw [e0] at h1 ⊢
  rw [e1]
  have hm : v % 2 ^ m < 2 ^ m := Nat.mod_lt _ (Nat.pow_pos (by omega))
  generalize v / 2 ^ m = H at *
  generalize v % 2 ^ m = A at *
  have e2 : (A + 2 ^ m * (H % 2)) * 2 ^ k + H / 2 = (A * 2 ^ k + H / 2) + (H % 2) * 2 ^ (m + k) := by
    rw [Nat.add_mul, Nat.pow_add]
    have : 2 ^ m * (H % 2) * 2 ^ k = H % 2 * (2 ^ m * 2 ^ k) := by ac_rfl
    omega
  rw [e2]
  have h3 : A * 2 ^ k + H / 2 < 2 ^ (m + k) := by
    have h4 : (A + 1) * 2 ^ k ≤ 2 ^ m * 2 ^ k := Nat.mul_le_mul_right _ hm
    rw [Nat.add_mul] at h4
    rw [Nat.pow_add]; omega
  rw [Nat.add_mul_mod_self_right, Nat.mod_eq_of_lt h3, Nat.add_mul_div_right _ _ (Nat.pow_pos (by omega)), Nat.div_eq_of_lt h3, Nat.pow_succ]
  rw [Nat.pow_zero, Nat.one_mul, Nat.add_mul, Nat.pow_succ, ← Nat.mul_assoc]
  omega
end Go.Proofs.YtlffcilgmockmaaDoor.ShiftP
