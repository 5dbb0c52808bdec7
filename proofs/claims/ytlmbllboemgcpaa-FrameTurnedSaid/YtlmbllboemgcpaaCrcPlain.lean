/- Plain mathematics for Crc: no program in sight. -/
namespace Go.Proofs.Ytlmbllboemgcpaa.CrcP
abbrev W := BitVec 32
def poly : W := 0xedb88320#32
def step (r : W) : W := if r.getLsbD 0 then (r >>> 1) ^^^ poly else r >>> 1
theorem step_xor (a b : W) : step (a ^^^ b) = step a ^^^ step b := by
  unfold step
  rw [BitVec.getLsbD_xor, BitVec.ushiftRight_xor_distrib]
  cases a.getLsbD 0 <;> cases b.getLsbD 0 <;> simp
  · ac_rfl
  · ac_rfl
  · rw [show a >>> 1 ^^^ poly ^^^ (b >>> 1 ^^^ poly) = a >>> 1 ^^^ b >>> 1 ^^^ (poly ^^^ poly) by ac_rfl]; simp
theorem step_zero : step 0#32 = 0#32 := by decide
def steps : Nat → W → W
  | 0, r => r
  | n + 1, r => steps n (step r)
theorem steps_xor (n : Nat) (a b : W) : steps n (a ^^^ b) = steps n a ^^^ steps n b := by
  induction n generalizing a b with
  | zero => rfl
  | succ n ih => simp only [steps, step_xor, ih]
theorem steps_zero (n : Nat) : steps n 0#32 = 0#32 := by
  induction n with
  | zero => rfl
  | succ n ih => simp only [steps, step_zero, ih]
theorem steps_add (m n : Nat) (r : W) : steps (m + n) r = steps n (steps m r) := by
  induction m generalizing r with
  | zero => simp [steps]
  | succ m ih => rw [Nat.succ_add]; exact ih _
theorem steps_succ' (n : Nat) (r : W) : steps (n + 1) r = step (steps n r) := by
  rw [steps_add]; rfl
/-- step is injective -/
theorem step_inj0 (r : W) (h : step r = 0#32) : r = 0#32 := by
  unfold step at h
  have top : (r >>> 1).getLsbD 31 = false := by simp
  cases hb : r.getLsbD 0 with
  | true =>
    rw [hb] at h
    simp only [if_true] at h
    have : ((r >>> 1) ^^^ poly).getLsbD 31 = (0#32).getLsbD 31 := by rw [h]
    rw [BitVec.getLsbD_xor, top] at this
    have hp : poly.getLsbD 31 = true := by decide
    rw [hp] at this
    simp at this
  | false =>
    rw [hb] at h
    simp only [Bool.false_eq_true, if_false] at h
    apply BitVec.eq_of_getLsbD_eq
    intro i hi
    cases i with
    | zero => rw [hb]; rfl
    | succ i =>
      have : (r >>> 1).getLsbD i = (0#32).getLsbD i := by rw [h]
      rw [BitVec.getLsbD_ushiftRight, Nat.add_comm] at this
      simpa using this
theorem steps_inj0 (n : Nat) (r : W) (h : steps n r = 0#32) : r = 0#32 := by
  induction n generalizing r with
  | zero => exact h
  | succ n ih => exact step_inj0 _ (ih _ h)
def ofByte (c : UInt8) : W := BitVec.ofNat 32 c.toNat
def byte (r : W) (c : UInt8) : W := steps 8 (r ^^^ ofByte c)
def fold (r : W) (l : List UInt8) : W := l.foldl byte r
def more (sum : W) (l : List UInt8) : W := ~~~ (fold (~~~ sum) l)
def sum (l : List UInt8) : W := more 0#32 l
theorem fold_append (r : W) (a b : List UInt8) : fold r (a ++ b) = fold (fold r a) b := by simp [fold]
theorem more_append (s : W) (a b : List UInt8) : more s (a ++ b) = more (more s a) b := by simp [more, fold_append]
theorem more_nil (s : W) : more s [] = s := by simp [more, fold]
def xorL (a b : List UInt8) : List UInt8 := List.zipWith (· ^^^ ·) a b
theorem ofByte_xor (a b : UInt8) : ofByte (a ^^^ b) = ofByte a ^^^ ofByte b := by
  apply BitVec.eq_of_toNat_eq
  simp only [ofByte, BitVec.toNat_ofNat, BitVec.toNat_xor, UInt8.toNat_xor]
  have ha : a.toNat < 2 ^ 8 := a.toNat_lt
  have hb : b.toNat < 2 ^ 8 := b.toNat_lt
  have hx := Nat.xor_lt_two_pow ha hb
  rw [Nat.mod_eq_of_lt (by omega), Nat.mod_eq_of_lt (by omega), Nat.mod_eq_of_lt (by omega)]
theorem byte_xor (r s : W) (a b : UInt8) : byte (r ^^^ s) (a ^^^ b) = byte r a ^^^ byte s b := by
  simp only [byte, ofByte_xor, ← steps_xor]
  congr 1; ac_rfl
theorem fold_xor (a b : List UInt8) (h : a.length = b.length) (r s : W) : fold (r ^^^ s) (xorL a b) = fold r a ^^^ fold s b := by
  induction a generalizing b r s with
  | nil => cases b with
    | nil => rfl
    | cons => simp at h
  | cons x a ih => cases b with
    | nil => simp at h
    | cons y b =>
      simp only [xorL, List.zipWith_cons_cons, fold, List.foldl_cons]
      have := ih b (by simpa using h) (byte r x) (byte s y)
      simp only [xorL, fold] at this
      rw [byte_xor, this]
theorem ofByte_zero : ofByte 0 = 0#32 := by decide
theorem fold_zeros (n : Nat) (r : W) : fold r (List.replicate n 0) = steps (8 * n) r := by
  induction n generalizing r with
  | zero => rfl
  | succ n ih =>
    rw [List.replicate_succ, show 8 * (n + 1) = 8 + 8 * n by omega, steps_add]
    show fold (byte r 0) _ = _
    rw [ih, byte, ofByte_zero]; simp
theorem xorL_zeros (l : List UInt8) : xorL (List.replicate l.length 0) l = l := by
  induction l with
  | nil => rfl
  | cons x l ih =>
    simp only [xorL, List.length_cons, List.replicate_succ, List.zipWith_cons_cons] at *
    rw [ih]; simp
/-- Join -/
theorem not_eq_xor (a : W) : ~~~ a = a ^^^ BitVec.allOnes 32 := by
  rw [BitVec.not_def, BitVec.xor_comm]
theorem join_law (a b : List UInt8) : steps (8 * b.length) (sum a) ^^^ sum b = sum (a ++ b) := by
  rw [sum, sum, sum, more_append]
  generalize more 0#32 a = A
  simp only [more]
  have h := fold_xor (List.replicate b.length 0) b (by simp) A (~~~ 0#32)
  rw [xorL_zeros, fold_zeros] at h
  have e : ~~~ A = A ^^^ ~~~ 0#32 := by rw [not_eq_xor]; rfl
  rw [e, h, not_eq_xor, not_eq_xor]
  ac_rfl
/-- linear three -/
theorem sum_xor3 (a b c : List UInt8) (h : a.length = b.length) (h' : a.length = c.length) : sum (xorL (xorL a b) c) = sum a ^^^ sum b ^^^ sum c := by
  have e1 := fold_xor a b h (~~~ 0#32) (~~~ 0#32)
  have e2 := fold_xor (xorL a b) c (by simp [xorL, ← h, ← h']) (~~~ 0#32 ^^^ ~~~ 0#32) (~~~ 0#32)
  rw [e1] at e2
  have e : ~~~ 0#32 ^^^ ~~~ 0#32 ^^^ ~~~ 0#32 = ~~~ 0#32 := by decide
  rw [e] at e2
  simp only [sum, more]
  rw [e2]
  simp only [not_eq_xor]
  generalize fold _ a = A
  generalize fold _ b = B
  generalize fold _ c = C
  have : A ^^^ BitVec.allOnes 32 ^^^ (B ^^^ BitVec.allOnes 32) ^^^ (C ^^^ BitVec.allOnes 32) = A ^^^ B ^^^ C ^^^ BitVec.allOnes 32 ^^^ (BitVec.allOnes 32 ^^^ BitVec.allOnes 32) := by ac_rfl
  rw [this]; simp

/-- bit by bit -/
def bitf (r : W) (l : List Bool) : W := l.foldl (fun r b => step (r ^^^ (if b then 1#32 else 0#32))) r
theorem bitf_append (r : W) (a b : List Bool) : bitf r (a ++ b) = bitf (bitf r a) b := by simp [bitf]
def bitsOf : Nat → Nat → List Bool
  | 0, _ => []
  | n + 1, c => (c % 2 == 1) :: bitsOf n (c / 2)
theorem step_nat (c : Nat) (h : c < 2 ^ 32) : step (BitVec.ofNat 32 c) = step (if (c % 2 == 1) then 1#32 else 0#32) ^^^ BitVec.ofNat 32 (c / 2) := by
  have hs : BitVec.ofNat 32 c >>> 1 = BitVec.ofNat 32 (c / 2) := by
    apply BitVec.eq_of_toNat_eq
    simp only [BitVec.toNat_ushiftRight, BitVec.toNat_ofNat, Nat.shiftRight_eq_div_pow]
    rw [Nat.mod_eq_of_lt (by omega), Nat.mod_eq_of_lt (by omega)]
  have hl : (BitVec.ofNat 32 c).getLsbD 0 = (c % 2 == 1) := by
    rw [BitVec.getLsbD_ofNat, Nat.testBit_zero]; simp; rfl
  rw [step, hl, hs]
  cases hb : (c % 2 == 1)
  · simp [step_zero]
  · have : step 1#32 = poly := by decide
    simp [this, BitVec.xor_comm]
theorem steps_bits (n : Nat) (hn : n ≤ 32) (c : Nat) (h : c < 2 ^ n) (r : W) : steps n (r ^^^ BitVec.ofNat 32 c) = bitf r (bitsOf n c) := by
  induction n generalizing c r with
  | zero =>
    have : c = 0 := by simpa using h
    subst this; simp [steps, bitsOf, bitf]
  | succ n ih =>
    have hp : 2 ^ (n + 1) ≤ 2 ^ 32 := Nat.pow_le_pow_right (by omega) hn
    rw [steps, step_xor, step_nat c (by omega), ← BitVec.xor_assoc, ← step_xor, ih (by omega) _ (by rw [Nat.pow_succ] at h; omega)]
    rfl
theorem byte_bits (r : W) (c : UInt8) : byte r c = bitf r (bitsOf 8 c.toNat) := by
  rw [byte, ofByte]; exact steps_bits 8 (by omega) _ c.toNat_lt r
def allBits (l : List UInt8) : List Bool := l.flatMap fun c => bitsOf 8 c.toNat
theorem fold_bits (l : List UInt8) (r : W) : fold r l = bitf r (allBits l) := by
  induction l generalizing r with
  | nil => rfl
  | cons c l ih => 
    show fold (byte r c) l = _
    rw [ih, byte_bits, ← bitf_append]; rfl
theorem bitf_false (n : Nat) (r : W) : bitf r (List.replicate n false) = steps n r := by
  induction n generalizing r with
  | zero => rfl
  | succ n ih =>
    rw [List.replicate_succ, steps, ← ih]; simp [bitf]
theorem window (k m j w : Nat) (hm : m ≤ 32) (hw : w < 2 ^ m) : bitf 0#32 (List.replicate k false ++ bitsOf m w ++ List.replicate j false) = 0#32 ↔ w = 0 := by
  rw [bitf_append, bitf_append, bitf_false, bitf_false, steps_zero, ← steps_bits m hm w hw, BitVec.zero_xor]
  constructor
  · intro h
    have h' := steps_inj0 _ _ (steps_inj0 _ _ h)
    have hp : 2 ^ m ≤ 2 ^ 32 := Nat.pow_le_pow_right (by omega) hm
    have := congrArg BitVec.toNat h'
    simp only [BitVec.toNat_ofNat] at this
    rw [Nat.mod_eq_of_lt (by omega)] at this
    simpa using this
  · rintro rfl; simp [steps_zero]
theorem bitsOf_length (n c : Nat) : (bitsOf n c).length = n := by
  induction n generalizing c with
  | zero => rfl
  | succ n ih => simp [bitsOf, ih]
theorem bitsOf_get (n c i : Nat) (h : i < n) : (bitsOf n c)[i]? = some (c.testBit i) := by
  induction n generalizing c i with
  | zero => omega
  | succ n ih =>
    cases i with
    | zero => simp [bitsOf, Nat.testBit_zero]; rfl
    | succ i =>
      simp only [bitsOf, List.getElem?_cons_succ]
      rw [ih _ _ (by omega), Nat.testBit_succ]
theorem allBits_length (l : List UInt8) : (allBits l).length = 8 * l.length := by
  induction l with
  | nil => rfl
  | cons c l ih => simp only [allBits, List.flatMap_cons, List.length_append, bitsOf_length, List.length_cons] at *; omega
theorem allBits_get (l : List UInt8) (i : Nat) (h : i < 8 * l.length) : (allBits l)[i]? = some ((l.getD (i / 8) 0).toNat.testBit (i % 8)) := by
  induction l generalizing i with
  | nil => simp at h
  | cons c l ih =>
    have e : allBits (c :: l) = bitsOf 8 c.toNat ++ allBits l := rfl
    rw [e]
    by_cases hi : i < 8
    · rw [List.getElem?_append_left (by rw [bitsOf_length]; exact hi), bitsOf_get _ _ _ hi, show i / 8 = 0 by omega, show i % 8 = i by omega]; rfl
    · rw [List.getElem?_append_right (by rw [bitsOf_length]; omega), bitsOf_length, ih _ (by simp at h; omega)]
      have e1 : i / 8 = (i - 8) / 8 + 1 := by omega
      have e2 : i % 8 = (i - 8) % 8 := by omega
      rw [e1, e2]; simp
/-- what a window of bits, turned over, does to a sum -/
theorem turned_law (s b : List UInt8) (k m w : Nat) (hl : b.length = s.length) (hm : m ≤ 32) (hw : w < 2 ^ m) (hk : k + m ≤ 8 * s.length)
    (hb : ∀ i, i < 8 * s.length → (b.getD (i / 8) 0).toNat.testBit (i % 8) = ((s.getD (i / 8) 0).toNat.testBit (i % 8) ^^ (decide (k ≤ i) && decide (i < k + m) && w.testBit (i - k)))) :
    sum b = sum s ↔ w = 0 := by
  have e1 := fold_xor b s hl (~~~ 0#32) (~~~ 0#32)
  rw [fold_bits _ (~~~0#32 ^^^ ~~~0#32), show ~~~0#32 ^^^ ~~~0#32 = 0#32 by decide] at e1
  have e2 : allBits (xorL b s) = List.replicate k false ++ bitsOf m w ++ List.replicate (8 * s.length - (k + m)) false := by
    apply List.ext_getElem?
    intro i
    have hlen : (xorL b s).length = s.length := by simp [xorL, hl]
    by_cases hi : i < 8 * s.length
    · rw [allBits_get _ _ (by rw [hlen]; exact hi)]
      have hx : (xorL b s).getD (i / 8) 0 = b.getD (i / 8) 0 ^^^ s.getD (i / 8) 0 := by
        have h1 : i / 8 < s.length := by omega
        have h2 : i / 8 < b.length := by omega
        simp [xorL, List.getD, List.getElem?_zipWith, List.getElem?_eq_getElem h1, List.getElem?_eq_getElem h2]
      rw [hx, UInt8.toNat_xor, Nat.testBit_xor, hb i hi]
      have hc : ∀ a c : Bool, ((a ^^ c) ^^ a) = c := by decide
      rw [hc]
      by_cases c1 : i < k
      · rw [List.append_assoc, List.getElem?_append_left (by simpa using c1)]
        simp [c1, Nat.not_le.2 c1]
      · by_cases c2 : i < k + m
        · rw [List.getElem?_append_left (by simp [bitsOf_length]; omega), List.getElem?_append_right (by simp; omega), List.length_replicate, bitsOf_get _ _ _ (by omega)]
          simp [c2, Nat.not_lt.1 c1]
        · rw [List.getElem?_append_right (by simp [bitsOf_length]; omega)]
          simp [c2, bitsOf_length, List.getElem?_replicate]; omega
    · rw [List.getElem?_eq_none (by rw [allBits_length, hlen]; omega), List.getElem?_eq_none (by simp [bitsOf_length]; omega)]
  rw [e2] at e1
  have e3 := window k m (8 * s.length - (k + m)) w hm hw
  rw [e1] at e3
  rw [← e3]
  simp only [sum, more]
  generalize fold _ b = B
  generalize fold _ s = S
  constructor
  · intro h
    have : ~~~ ~~~ B = ~~~ ~~~ S := by rw [h]
    simp only [BitVec.not_not] at this
    rw [this]; simp
  · intro h
    have : B ^^^ S ^^^ S = 0#32 ^^^ S := by rw [h]
    rw [BitVec.xor_assoc] at this
    simp at this
    rw [this]
/-- matrices -/
structure Lin (L : W → W) : Prop where
  xor : ∀ a b, L (a ^^^ b) = L a ^^^ L b
theorem Lin.zero {L : W → W} (h : Lin L) : L 0#32 = 0#32 := by
  have := h.xor 0#32 0#32
  simp at this
  exact this
theorem lin_steps (n : Nat) : Lin (steps n) := ⟨steps_xor n⟩
theorem xor_pow (i x : Nat) (h : x < 2 ^ i) : x ^^^ 2 ^ i = x + 2 ^ i := by
  apply Nat.eq_of_testBit_eq
  intro j
  rw [Nat.testBit_xor, Nat.add_comm, Nat.testBit_two_pow]
  rcases Nat.lt_trichotomy j i with hj | hj | hj
  · rw [Nat.testBit_two_pow_add_gt hj, decide_eq_false (by omega)]; simp
  · subst hj; rw [Nat.testBit_two_pow_add_eq, Nat.testBit_lt_two_pow h]; simp
  · have e1 : 2 ^ (i + 1) ≤ 2 ^ j := Nat.pow_le_pow_right (by omega) hj
    have e2 : 2 ^ (i + 1) = 2 ^ i + 2 ^ i := by rw [Nat.pow_succ]; omega
    rw [Nat.testBit_lt_two_pow (by omega), Nat.testBit_lt_two_pow (by omega), decide_eq_false (by omega)]; rfl
/-- one round of times: the rest is v / 2 ^ i -/
theorem times_round {L : W → W} (h : Lin L) (v : Nat) (i : Nat) (hi : i < 32) (out : W)
    (ho : out = L (BitVec.ofNat 32 (v % 2 ^ i))) :
    (if v / 2 ^ i % 2 = 1 then out ^^^ L (BitVec.ofNat 32 (2 ^ i)) else out) = L (BitVec.ofNat 32 (v % 2 ^ (i + 1))) := by
  have hm : v % 2 ^ (i + 1) = v % 2 ^ i + 2 ^ i * (v / 2 ^ i % 2) := Nat.mod_pow_succ
  have h2 : v / 2 ^ i % 2 = 0 ∨ v / 2 ^ i % 2 = 1 := by omega
  have hp : 2 ^ i < 2 ^ 32 := Nat.pow_lt_pow_right (by omega) hi
  have hp' : 2 ^ i ≤ 2 ^ 31 := Nat.pow_le_pow_right (by omega) (by omega)
  rcases h2 with h2 | h2
  · rw [hm, h2]; simp [ho]
  · rw [hm, h2, ho, ← h.xor]
    simp only [if_true, Nat.mul_one]
    congr 1
    have hlt : v % 2 ^ i < 2 ^ i := Nat.mod_lt _ (Nat.pow_pos (by omega))
    generalize v % 2 ^ i = x at hlt
    apply BitVec.eq_of_toNat_eq
    simp only [BitVec.toNat_xor, BitVec.toNat_ofNat]
    rw [Nat.mod_eq_of_lt (by omega), Nat.mod_eq_of_lt (by omega), Nat.mod_eq_of_lt (by omega)]
    exact xor_pow i x hlt
end Go.Proofs.Ytlmbllboemgcpaa.CrcP
