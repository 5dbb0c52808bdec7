/- Plain mathematics of frames: what was sealed is opened, what was cut is short, what was turned over is none. -/
import Derived.Test.YtlmbllboemgcpaaFrameNext
import Derived.Test.YtlmbllboemgcpaaCrcTurn
namespace Go.Proofs.Ytlmbllboemgcpaa.FrameW
theorem sealL_len (s : List UInt8) : (sealL s).length = 8 + s.length := by
  simp only [sealL, List.length_append, ShiftP.putN_length]; omega
theorem getN_put4 (v : Nat) (h : v < 4294967296) : ShiftP.getN (ShiftP.putN v 4) = v := by
  rw [ShiftP.getN_putN]; exact Nat.mod_eq_of_lt h
/-- a text that begins with a length, a sum and so many bytes -/
theorem next_of (a c s r : List UInt8) (ha : a.length = 4) (hc : c.length = 4) (hn : ShiftP.getN a = s.length) (hs : s.length ≤ 65536) :
    nextR (a ++ (c ++ (s ++ r))) = if (CrcP.sum (a ++ s)).toNat = ShiftP.getN c then (s, 8 + s.length, 0) else ([], 0, 12) := by
  have h1 : (a ++ (c ++ (s ++ r))).take 4 = a := by rw [List.take_append_of_le_length (by omega), List.take_of_length_le (by omega)]
  have h2 : (a ++ (c ++ (s ++ r))).drop 4 = c ++ (s ++ r) := by rw [List.drop_append_of_le_length (by omega), List.drop_of_length_le (by omega)]; rfl
  have h3 : ((a ++ (c ++ (s ++ r))).drop 4).take 4 = c := by rw [h2, List.take_append_of_le_length (by omega), List.take_of_length_le (by omega)]
  have h4 : (a ++ (c ++ (s ++ r))).drop 8 = s ++ r := by
    rw [show 8 = 4 + 4 from rfl, ← List.drop_drop, h2, List.drop_append_of_le_length (by omega), List.drop_of_length_le (by omega)]; rfl
  have h5 : (s ++ r).take s.length = s := List.take_left' rfl
  have hl : (a ++ (c ++ (s ++ r))).length = 8 + (s.length + r.length) := by simp only [List.length_append]; omega
  rw [nextR, h1, hn, h3, h4, h5, hl, if_neg (by omega), if_neg (by omega), if_neg (by omega)]
theorem next_seal (s r : List UInt8) (hs : s.length ≤ 65536) : nextR (sealL s ++ r) = (s, 8 + s.length, 0) := by
  have hn := getN_put4 s.length (by omega)
  have hc := getN_put4 (CrcP.sum (ShiftP.putN s.length 4 ++ s)).toNat (CrcP.sum (ShiftP.putN s.length 4 ++ s)).isLt
  have h := next_of (ShiftP.putN s.length 4) (ShiftP.putN (CrcP.sum (ShiftP.putN s.length 4 ++ s)).toNat 4) s r (ShiftP.putN_length _ _) (ShiftP.putN_length _ _) hn hs
  rw [hc, if_pos rfl] at h
  rw [← h, sealL]; simp only [List.append_assoc]
theorem open_seal (s r : List UInt8) (hs : s.length ≤ 65536) : openR (sealL s ++ r) = if r = [] then (s, 0) else ([], 11) := by
  have hl : (sealL s ++ r).length = 8 + s.length + r.length := by rw [List.length_append, sealL_len]
  rw [openR, next_seal s r hs, if_neg (by simp), hl]
  cases r with
  | nil => simp
  | cons x r => simp
/-- a frame that is cut off -/
theorem next_cut (s : List UInt8) (hs : s.length ≤ 65536) (k : Nat) (hk : k < 8 + s.length) : nextR ((sealL s).take k) = ([], 0, 10) := by
  have hl : ((sealL s).take k).length = k := by rw [List.length_take, sealL_len]; omega
  by_cases h8 : k < 8
  · rw [nextR, if_pos (by omega)]
  · have h4 : ((sealL s).take k).take 4 = ShiftP.putN s.length 4 := by
      rw [List.take_take, Nat.min_eq_left (by omega), sealL, List.take_append_of_le_length (by rw [ShiftP.putN_length]; omega), List.take_of_length_le (by rw [ShiftP.putN_length]; omega)]
    rw [nextR, if_neg (by omega), h4, getN_put4 _ (by omega), if_neg (by omega), if_pos (by omega)]
/-- turning over bits behind a beginning leaves the beginning -/
theorem turned_pre (p s : List UInt8) (k fl m j : Nat) (hj : j < p.length) : CrcP.turnedF (p ++ s) (8 * p.length + k) fl m j = p.getD j 0 := by
  induction m with
  | zero =>
    simp only [CrcP.turnedF]
    rw [List.getD_eq_getElem?_getD, List.getD_eq_getElem?_getD, List.getElem?_append_left hj]
  | succ m ih =>
    simp only [CrcP.turnedF]
    rw [if_neg, ih]
    rintro ⟨_, h⟩; omega
theorem turned_post (p s : List UInt8) (k fl m j : Nat) : CrcP.turnedF (p ++ s) (8 * p.length + k) fl m (p.length + j) = CrcP.turnedF s k fl m j := by
  induction m generalizing j with
  | zero =>
    simp only [CrcP.turnedF]
    rw [List.getD_eq_getElem?_getD, List.getD_eq_getElem?_getD, List.getElem?_append_right (by omega), Nat.add_sub_cancel_left]
  | succ m ih =>
    simp only [CrcP.turnedF]
    have e : (p.length + j = (8 * p.length + k + m) / 8) ↔ (j = (k + m) / 8) := by omega
    have e2 : (8 * p.length + k + m) % 8 = (k + m) % 8 := by omega
    simp only [e, e2, ih]
theorem turned_end (p s : List UInt8) (k fl m j : Nat) (h : k + m ≤ 8 * p.length) (hj : j < p.length) : CrcP.turnedF (p ++ s) k fl m j = CrcP.turnedF p k fl m j := by
  induction m generalizing j with
  | zero =>
    simp only [CrcP.turnedF]
    rw [List.getD_eq_getElem?_getD, List.getD_eq_getElem?_getD, List.getElem?_append_left hj]
  | succ m ih =>
    simp only [CrcP.turnedF]
    rw [ih j (by omega) hj]
theorem turned_end2 (p s : List UInt8) (k fl m j : Nat) (h : k + m ≤ 8 * p.length) : CrcP.turnedF (p ++ s) k fl m (p.length + j) = s.getD j 0 := by
  induction m generalizing j with
  | zero =>
    simp only [CrcP.turnedF]
    rw [List.getD_eq_getElem?_getD, List.getD_eq_getElem?_getD, List.getElem?_append_right (by omega), Nat.add_sub_cancel_left]
  | succ m ih =>
    simp only [CrcP.turnedF]
    rw [if_neg, ih j (by omega)]
    rintro ⟨_, h2⟩; omega
/-- a text with some bits turned over -/
def turnedL (s : List UInt8) (k fl m : Nat) : List UInt8 := (List.range s.length).map (CrcP.turnedF s k fl m)
theorem turnedL_len (s : List UInt8) (k fl m : Nat) : (turnedL s k fl m).length = s.length := by simp [turnedL]
theorem list_getD (s : List UInt8) : (List.range s.length).map (fun j => s.getD j 0) = s := by
  apply List.ext_getElem
  · simp
  · intro i h1 h2
    have hi : i < s.length := by simpa using h1
    simp [hi]
theorem range_add' (a b : Nat) : List.range (a + b) = List.range a ++ (List.range b).map (a + ·) := List.range_add
theorem turnedL_behind (p s : List UInt8) (k fl m : Nat) : turnedL (p ++ s) (8 * p.length + k) fl m = p ++ turnedL s k fl m := by
  unfold turnedL
  rw [List.length_append, range_add', List.map_append, List.map_map]
  congr 1
  · conv => rhs; rw [← list_getD p]
    refine List.map_congr_left fun j hj => ?_
    exact turned_pre p s k fl m j (by simpa using hj)
  · refine List.map_congr_left fun j _ => ?_
    exact turned_post p s k fl m j
theorem turnedL_ahead (p s : List UInt8) (k fl m : Nat) (h : k + m ≤ 8 * p.length) : turnedL (p ++ s) k fl m = turnedL p k fl m ++ s := by
  unfold turnedL
  rw [List.length_append, range_add', List.map_append, List.map_map]
  congr 1
  · refine List.map_congr_left fun j hj => ?_
    exact turned_end p s k fl m j h (by simpa using hj)
  · conv => rhs; rw [← list_getD s]
    refine List.map_congr_left fun j _ => ?_
    exact turned_end2 p s k fl m j h
theorem turnedF_none (s : List UInt8) (k fl m : Nat) (h : fl % 2 ^ m = 0) : ∀ i, i ≤ m → CrcP.turnedF s k fl i = fun j => s.getD j 0
  | 0, _ => by funext j; rfl
  | i + 1, hi => by
    have hb : fl.testBit i = false := by
      have h1 := Nat.testBit_mod_two_pow fl m i
      rw [h, Nat.zero_testBit, decide_eq_true (by omega), Bool.true_and] at h1
      exact h1.symm
    rw [← CrcP.turnedF_no s k fl i hb]
    exact turnedF_none s k fl m h i (by omega)
theorem turnedL_none (s : List UInt8) (k fl m : Nat) (h : fl % 2 ^ m = 0) : turnedL s k fl m = s := by
  unfold turnedL
  rw [turnedF_none s k fl m h m (Nat.le_refl _)]
  exact list_getD s
theorem getN_inj (a b : List UInt8) (h : a.length = b.length) (e : ShiftP.getN a = ShiftP.getN b) : a = b := by
  have key : ∀ (n : Nat) (a b : List UInt8), a.length = n → b.length = n → ShiftP.getN a = ShiftP.getN b → a = b := by
    intro n
    induction n with
    | zero => intro a b h1 h2 _; rw [List.eq_nil_of_length_eq_zero h1, List.eq_nil_of_length_eq_zero h2]
    | succ n ih =>
      intro a b h1 h2 e
      rcases List.eq_nil_or_concat a with rfl | ⟨a', x, rfl⟩
      · simp at h1
      rcases List.eq_nil_or_concat b with rfl | ⟨b', y, rfl⟩
      · simp at h2
      rw [List.concat_eq_append, List.concat_eq_append] at *
      rw [ShiftP.getN_snoc, ShiftP.getN_snoc] at e
      have hx := x.toNat_lt
      have hy := y.toNat_lt
      have e1 : ShiftP.getN a' = ShiftP.getN b' := by omega
      have e2 : x = y := UInt8.toNat_inj.1 (by omega)
      rw [ih a' b' (by simpa using h1) (by simpa using h2) e1, e2]
  exact key _ a b rfl h.symm e
/-- the frame with bits of its text turned over -/
theorem open_turned_text (s : List UInt8) (hs : s.length ≤ 65536) (k fl m : Nat) (hm : m ≤ 32) (hk : k + m ≤ 8 * s.length) :
    (openR (turnedL (sealL s) (64 + k) fl m)).2 = if fl % 2 ^ m = 0 then 0 else 12 := by
  have hl : (ShiftP.putN s.length 4).length = 4 := ShiftP.putN_length _ _
  have hl2 : (ShiftP.putN (CrcP.sum (ShiftP.putN s.length 4 ++ s)).toNat 4).length = 4 := ShiftP.putN_length _ _
  have hc := getN_put4 (CrcP.sum (ShiftP.putN s.length 4 ++ s)).toNat (CrcP.sum (ShiftP.putN s.length 4 ++ s)).isLt
  have ht := CrcP.turned_sum (ShiftP.putN s.length 4 ++ s) (32 + k) fl m hm (by rw [List.length_append, hl]; omega)
  have e1 := turnedL_behind (ShiftP.putN s.length 4) s k fl m
  rw [hl] at e1
  have e2 : (List.range (ShiftP.putN s.length 4 ++ s).length).map (CrcP.turnedF (ShiftP.putN s.length 4 ++ s) (32 + k) fl m) = ShiftP.putN s.length 4 ++ turnedL s k fl m := e1
  rw [e2] at ht
  have e3 := turnedL_behind (ShiftP.putN s.length 4 ++ ShiftP.putN (CrcP.sum (ShiftP.putN s.length 4 ++ s)).toNat 4) s k fl m
  rw [List.length_append, hl, hl2] at e3
  have e4 : turnedL (sealL s) (64 + k) fl m = ShiftP.putN s.length 4 ++ (ShiftP.putN (CrcP.sum (ShiftP.putN s.length 4 ++ s)).toNat 4 ++ (turnedL s k fl m ++ [])) := by
    rw [sealL, ← List.append_assoc, e3]; simp
  have hn := next_of (ShiftP.putN s.length 4) (ShiftP.putN (CrcP.sum (ShiftP.putN s.length 4 ++ s)).toNat 4) (turnedL s k fl m) [] hl hl2 (by rw [turnedL_len, getN_put4 _ (by omega)]) (by rw [turnedL_len]; exact hs)
  rw [← e4, hc, turnedL_len] at hn
  by_cases hz : fl % 2 ^ m = 0
  · rw [if_pos (by rw [ht.2 hz])] at hn
    rw [if_pos hz, openR, hn, if_neg (by simp), turnedL_len, sealL_len, if_neg (by simp)]
  · rw [if_neg (fun e => hz (ht.1 (BitVec.eq_of_toNat_eq e)))] at hn
    rw [if_neg hz, openR, hn, if_pos (by simp)]
/-- the frame with bits of its sum turned over -/
theorem open_turned_sum (s : List UInt8) (hs : s.length ≤ 65536) (k fl m : Nat) (hm : m ≤ 32) (hk : k + m ≤ 32) :
    (openR (turnedL (sealL s) (32 + k) fl m)).2 = if fl % 2 ^ m = 0 then 0 else 12 := by
  have hl : (ShiftP.putN s.length 4).length = 4 := ShiftP.putN_length _ _
  have hc := getN_put4 (CrcP.sum (ShiftP.putN s.length 4 ++ s)).toNat (CrcP.sum (ShiftP.putN s.length 4 ++ s)).isLt
  generalize hC : ShiftP.putN (CrcP.sum (ShiftP.putN s.length 4 ++ s)).toNat 4 = C at *
  have hl2 : C.length = 4 := by rw [← hC]; exact ShiftP.putN_length _ _
  have ht := CrcP.turned_sum C k fl m hm (by omega)
  have e1 := turnedL_behind (ShiftP.putN s.length 4) (C ++ s) k fl m
  rw [hl, turnedL_ahead C s k fl m (by omega)] at e1
  have e4 : turnedL (sealL s) (32 + k) fl m = ShiftP.putN s.length 4 ++ (turnedL C k fl m ++ (s ++ [])) := by
    rw [sealL, hC, e1]; simp
  have hn := next_of (ShiftP.putN s.length 4) (turnedL C k fl m) s [] hl (by rw [turnedL_len]; exact hl2) (getN_put4 _ (by omega)) hs
  rw [← e4] at hn
  by_cases hz : fl % 2 ^ m = 0
  · rw [turnedL_none C k fl m hz, hc, if_pos rfl] at hn
    rw [if_pos hz, openR, hn, if_neg (by simp), turnedL_len, sealL_len, if_neg (by simp)]
  · rw [if_neg (fun e => hz (ht.1 (by
      have : turnedL C k fl m = C := getN_inj _ _ (turnedL_len _ _ _ _) (by rw [hc, ← e])
      show CrcP.sum (turnedL C k fl m) = CrcP.sum C
      rw [this])))] at hn
    rw [if_neg hz, openR, hn, if_pos (by simp)]
end Go.Proofs.Ytlmbllboemgcpaa.FrameW
