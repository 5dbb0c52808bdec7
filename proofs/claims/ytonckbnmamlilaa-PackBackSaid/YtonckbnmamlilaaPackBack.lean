/- PackBack: what was packed is taken out: the plain law, and the walk. -/
import Derived.Test.YtonckbnmamlilaaPackOpens
namespace Go.Proofs.Ytonckbnmamlilaa.PackW
open Go.RowKit
theorem pow256 (n : Nat) : (256 : Nat) ^ n = 2 ^ (8 * n) := by rw [show (256 : Nat) = 2 ^ 8 from rfl, ← Nat.pow_mul]
theorem num_back (v n : Int) (h : May v n) (hv : v < 9223372036854775808) (r : List UInt8) :
    numA (ShiftP.putN v.toNat n.toNat ++ r) false n = v ∧ numG (ShiftP.putN v.toNat n.toNat ++ r) false n = false ∧ (ShiftP.putN v.toNat n.toNat ++ r).drop n.toNat = r := by
  obtain ⟨hs, h0, h1⟩ := h
  have hl : (ShiftP.putN v.toNat n.toNat).length = n.toNat := ShiftP.putN_length _ _
  have ht : (ShiftP.putN v.toNat n.toNat ++ r).take n.toNat = ShiftP.putN v.toNat n.toNat := by
    rw [List.take_append_of_le_length (by omega), List.take_of_length_le (by omega)]
  have hd : (ShiftP.putN v.toNat n.toNat ++ r).drop n.toNat = r := by
    rw [List.drop_append_of_le_length (by omega), List.drop_of_length_le (by omega)]; rfl
  have hg : ShiftP.getN (ShiftP.putN v.toNat n.toNat) = v.toNat := by
    rw [ShiftP.getN_putN, pow256]
    refine Nat.mod_eq_of_lt ?_
    have e : ((2 : Int) ^ (8 * n.toNat)) = ((2 ^ (8 * n.toNat) : Nat) : Int) := by rw [Int.natCast_pow]; rfl
    rw [e] at h1; omega
  have hu : unumV (ShiftP.putN v.toNat n.toNat ++ r) false n = some v.toNat := by
    rw [unumV, ht, hg, if_pos ⟨rfl, hs, by rw [List.length_append]; omega, by omega⟩]
  refine ⟨?_, ?_, hd⟩
  · rw [numA, hu]; show ((v.toNat : Nat) : Int) = v; omega
  · rw [numG, hu]; rfl
theorem text_back (s : ByteArray) (hs : s.data.toList.length < 65536) (r : List UInt8) :
    textA (ShiftP.putN s.data.toList.length 2 ++ s.data.toList ++ r) false 65535 = s ∧ textG (ShiftP.putN s.data.toList.length 2 ++ s.data.toList ++ r) false 65535 = false ∧ textR (ShiftP.putN s.data.toList.length 2 ++ s.data.toList ++ r) = r := by
  generalize hq : s.data.toList = q at *
  have hl : (ShiftP.putN q.length 2).length = 2 := ShiftP.putN_length _ _
  have ht : (ShiftP.putN q.length 2 ++ q ++ r).take 2 = ShiftP.putN q.length 2 := by
    rw [List.append_assoc, List.take_append_of_le_length (by omega), List.take_of_length_le (by omega)]
  have hd : (ShiftP.putN q.length 2 ++ q ++ r).drop 2 = q ++ r := by
    rw [List.append_assoc, List.drop_append_of_le_length (by omega), List.drop_of_length_le (by omega)]; rfl
  have hg : ShiftP.getN (ShiftP.putN q.length 2) = q.length := by
    rw [ShiftP.getN_putN]
    exact Nat.mod_eq_of_lt (by omega)
  have hu : utextV (ShiftP.putN q.length 2 ++ q ++ r) false 65535 = some q := by
    rw [utextV, ht, hg, hd, if_pos ⟨rfl, by simp only [List.length_append]; omega, by omega, by simp only [List.length_append]; omega⟩, List.take_left' rfl]
  refine ⟨?_, ?_, ?_⟩
  · rw [textA, hu]
    show (⟨q.toArray⟩ : ByteArray) = s
    rw [← hq]
  · rw [textG, hu]; rfl
  · rw [textR, ht, hg, hd, List.drop_left' rfl]
theorem numL_pre (l : List UInt8) (v n : Int) : ∃ r, numL l v n = l ++ r := by
  unfold numL
  split
  · exact ⟨_, rfl⟩
  · exact ⟨[], by simp⟩
theorem textL_pre (l s : List UInt8) : ∃ r, textL l s = l ++ r := by
  unfold textL
  split
  · exact ⟨_, List.append_assoc _ _ _⟩
  · exact ⟨_, rfl⟩
theorem pkL_pre (f : Nat → Fd) {k n : Nat} (h : k ≤ n) : ∃ r, pkL f n = pkL f k ++ r := by
  induction n with
  | zero => obtain rfl : k = 0 := by omega
            exact ⟨[], by simp⟩
  | succ n ih =>
    by_cases hk : k = n + 1
    · subst hk; exact ⟨[], by simp⟩
    · obtain ⟨r, hr⟩ := ih (by omega)
      rw [pkL]
      split
      · obtain ⟨r2, h2⟩ := textL_pre (pkL f n) (f n).s.data.toList
        exact ⟨r ++ r2, by rw [h2, hr, List.append_assoc]⟩
      · obtain ⟨r2, h2⟩ := numL_pre (pkL f n) (f n).v (f n).size
        exact ⟨r ++ r2, by rw [h2, hr, List.append_assoc]⟩
theorem pkB_pre (f : Nat → Fd) {k n : Nat} (h : k ≤ n) (hn : pkB f n = false) : pkB f k = false := by
  induction n with
  | zero => obtain rfl : k = 0 := by omega
            exact hn
  | succ n ih =>
    by_cases hk : k = n + 1
    · subst hk; exact hn
    · refine ih (by omega) ?_
      rw [pkB] at hn
      split at hn
      · unfold textB at hn; split at hn
        · exact hn
        · cases hn
      · unfold numB at hn; split at hn
        · exact hn
        · cases hn
/-- a field's answer, and what is left, at the place where it was packed -/
theorem back_text (f : Nat → Fd) {k n : Nat} (h : k < n) (hn : pkB f n = false) (l : List UInt8) (hl : pkL f k ++ l = pkL f n) (hz : (f k).size = 0) :
    textA l false 65535 = (f k).s ∧ textG l false 65535 = false ∧ pkL f (k + 1) ++ textR l = pkL f n := by
  obtain ⟨r, hr⟩ := pkL_pre f (show k + 1 ≤ n by omega)
  have hb : pkB f (k + 1) = false := pkB_pre f (by omega) hn
  rw [pkB, if_pos hz] at hb
  have hlt : (f k).s.data.toList.length < 65536 := by
    unfold textB at hb; split at hb
    · assumption
    · cases hb
  have he : pkL f (k + 1) = pkL f k ++ (ShiftP.putN (f k).s.data.toList.length 2 ++ (f k).s.data.toList) := by
    rw [pkL, if_pos hz, textL, if_pos hlt, List.append_assoc]
  obtain rfl : l = ShiftP.putN (f k).s.data.toList.length 2 ++ (f k).s.data.toList ++ r := by
    rw [hr, he, List.append_assoc] at hl
    exact List.append_cancel_left hl
  obtain ⟨h1, h2, h3⟩ := text_back (f k).s hlt r
  exact ⟨h1, h2, by rw [h3, hr]⟩
theorem back_num (f : Nat → Fd) {k n : Nat} (h : k < n) (hn : pkB f n = false) (hv : (f k).v < 9223372036854775808) (l : List UInt8) (hl : pkL f k ++ l = pkL f n) (hz : (f k).size ≠ 0) :
    numA l false (f k).size = (f k).v ∧ numG l false (f k).size = false ∧ pkL f (k + 1) ++ l.drop (f k).size.toNat = pkL f n := by
  obtain ⟨r, hr⟩ := pkL_pre f (show k + 1 ≤ n by omega)
  have hb : pkB f (k + 1) = false := pkB_pre f (by omega) hn
  rw [pkB, if_neg hz] at hb
  have hm : May (f k).v (f k).size := by
    unfold numB at hb; split at hb
    · assumption
    · cases hb
  have he : pkL f (k + 1) = pkL f k ++ ShiftP.putN (f k).v.toNat (f k).size.toNat := by
    rw [pkL, if_neg hz, numL, if_pos hm]
  obtain rfl : l = ShiftP.putN (f k).v.toNat (f k).size.toNat ++ r := by
    rw [hr, he, List.append_assoc] at hl
    exact List.append_cancel_left hl
  obtain ⟨h1, h2, h3⟩ := num_back (f k).v (f k).size hm hv r
  exact ⟨h1, h2, by rw [h3, hr]⟩
/-- the Packer at the head of a round -/
structure One (w : World) (b : Nat) (l : List UInt8) (sp : Bool) (N : Nat) (wr : World) : Prop where
  pk : PkAt w.heap.size b l sp wr
  low : Below w.heap.size w wr
  len : l.length ≤ N
  far : N ≤ 400000
theorem One.drew {w wr : World} {b : Nat} {l : List UInt8} {sp : Bool} {N : Nat} (h : One w b l sp N wr) : One w b l sp N wr.drew := ⟨h.pk.drew, h.low.drew, h.len, h.far⟩
theorem one_num {w wr : World} {b : Nat} {l : List UInt8} {sp : Bool} {N : Nat} (h : One w b l sp N wr) (v n : Int) (hv : v < 9223372036854775808) (hN : N + 8 ≤ 400000) :
    Calls Try.prog 13 #[.pointer (some ⟨b, 0, none⟩), .int .i64 v, .int .i64 n] wr fun e w' => e = .returned (.tuple #[]) ∧ One w b (numL l v n) (numB sp v n) (N + 8) w' := by
  refine (num_any _ _ _ _ v n hv _ h.pk (by have := h.len; have := h.far; omega) h.low.size).mono ?_
  rintro e w' ⟨rfl, h1, h2⟩
  exact ⟨rfl, h1, h.low.trans h2.below, num_len _ _ _ _ h.len, hN⟩
theorem one_text {w wr : World} {b : Nat} {l : List UInt8} {sp : Bool} {N : Nat} (h : One w b l sp N wr) (s : ByteArray) (hN : N + (s.size + 8) ≤ 400000) :
    Calls Try.prog 11 #[.pointer (some ⟨b, 0, none⟩), .string s] wr fun e w' => e = .returned (.tuple #[]) ∧ One w b (textL l s.data.toList) (textB sp s.data.toList) (N + (s.size + 8)) w' := by
  refine (text_any _ _ _ _ s _ h.pk (by have := h.len; have := h.far; omega) h.low.size).mono ?_
  rintro e w' ⟨rfl, h1, h2⟩
  exact ⟨rfl, h1, h.low.trans h2.below, text_len _ _ _ h.len, hN⟩
def Head1 (w : World) (f : Nat → Fd) (k : Nat) (wr : World) : Prop := One w w.heap.size (pkL f k) (pkB f k) (sumF f k + 8 * k) wr
theorem head1_num {w wr : World} {f : Nat → Fd} {k : Nat} (h0 : (f k).size ≠ 0) (h : One w w.heap.size (numL (pkL f k) (f k).v (f k).size) (numB (pkB f k) (f k).v (f k).size) (sumF f k + 8 * k + 8) wr) (hs : sumF f (k + 1) + 8 * (k + 1) ≤ 400000) : Head1 w f (k + 1) wr := by
  unfold Head1
  rw [pkL, pkB, if_neg h0, if_neg h0]
  have hle : sumF f k + 8 * k + 8 ≤ sumF f (k + 1) + 8 * (k + 1) := by rw [sumF]; omega
  exact ⟨h.pk, h.low, Nat.le_trans h.len hle, hs⟩
theorem head1_text {w wr : World} {f : Nat → Fd} {k : Nat} (h0 : (f k).size = 0) (h : One w w.heap.size (textL (pkL f k) (f k).s.data.toList) (textB (pkB f k) (f k).s.data.toList) (sumF f k + 8 * k + ((f k).s.size + 8)) wr) : Head1 w f (k + 1) wr := by
  unfold Head1
  rw [pkL, pkB, if_pos h0, if_pos h0]
  have hle : sumF f k + 8 * k + ((f k).s.size + 8) = sumF f (k + 1) + 8 * (k + 1) := by rw [sumF]; omega
  rw [← hle]; exact h
end Go.Proofs.Ytonckbnmamlilaa.PackW
