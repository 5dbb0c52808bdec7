/- frame.Next and Open. -/
import Derived.Test.YtlmbllboemgcpaaFrameSeal
namespace Go.Proofs.Ytlmbllboemgcpaa.FrameW
open Go.RowKit
open ShiftW (getOK getV getR get_any rget_any)
open CrcW (u sum_any more_any)
/-- the frame with which a text begins: its text, its size, the error's number -/
def nextR (f : List UInt8) : List UInt8 × Nat × Nat :=
  if f.length < 8 then ([], 0, 10)
  else if 65536 < ShiftP.getN (f.take 4) then ([], 0, 2)
  else if f.length - 8 < ShiftP.getN (f.take 4) then ([], 0, 10)
  else if (CrcP.sum (f.take 4 ++ (f.drop 8).take (ShiftP.getN (f.take 4)))).toNat = ShiftP.getN ((f.drop 4).take 4) then ((f.drop 8).take (ShiftP.getN (f.take 4)), 8 + ShiftP.getN (f.take 4), 0)
  else ([], 0, 12)
def nextV (f : List UInt8) : Value := .tuple #[.string ⟨(nextR f).1.toArray⟩, .int .i64 ((nextR f).2.1 : Nat), .int .i64 ((nextR f).2.2 : Nat)]
theorem get4_lt (l : List UInt8) : ShiftP.getN (l.take 4) < 4294967296 := by
  have h1 := ShiftP.getN_lt (l.take 4)
  have h2 : (l.take 4).length ≤ 4 := by simp; omega
  have h3 : 256 ^ (l.take 4).length ≤ 256 ^ 4 := Nat.pow_le_pow_right (by omega) h2
  omega
theorem getR_in (s : ByteArray) (k : Nat) (n : Nat) (h : k + n ≤ s.size) (hn : n ≤ 8) : getR s k n = .tuple #[.int .u64 (ShiftP.getN ((s.data.toList.drop k).take n) : Nat), .bool true] := by
  rw [getR, if_pos ⟨by omega, by omega, by omega, by omega, by omega⟩, getV]; rfl
theorem getR_out (s : ByteArray) (k : Nat) (n : Int) (h : ¬ (0 ≤ n ∧ n ≤ 8 ∧ (k : Int) + n ≤ s.size)) : getR s k n = .tuple #[.int .u64 ((0 : Nat) : Int), .bool false] := by
  rw [getR, if_neg (by unfold getOK; omega)]; rfl
set_option maxHeartbeats 800000 in
theorem next_short (f : ByteArray) (hf : f.size < 8) (w : World) :
    Calls Try.prog 11 #[.string f] w fun e w' => e = .returned (.tuple #[.string ⟨#[]⟩, .int .i64 0, .int .i64 10]) ∧ w = w' := by
  have hsz := Lib.hid (show f.size ≤ 9223372036854775807 by omega)
  have h2 : Hid (getR f 4 4 = .tuple #[.int .u64 0, .bool false]) := Lib.hid (getR_out f 4 4 (by omega))
  by_cases h4 : f.size < 4
  · have h1 : Hid (getR f 0 4 = .tuple #[.int .u64 0, .bool false]) := Lib.hid (getR_out f 0 4 (by omega))
    go_enter Try.func11, Try.ntmps11
    go_wp2_with (first
      | (go_at_call 22; refine (get_any _ _ _ hsz.out _).mono ?_; rintro e w1 ⟨he, rfl⟩; (first | rw [h1.out] at he | rw [h2.out] at he); subst he))
    go_ret3
    exact ⟨rfl, rfl⟩
  · have h1 : Hid (getR f 0 4 = .tuple #[.int .u64 (ShiftP.getN ((f.data.toList.drop 0).take 4) : Nat), .bool true]) := Lib.hid (getR_in f 0 4 (by omega) (by omega))
    go_enter Try.func11, Try.ntmps11
    go_wp2_with (first
      | (go_at_call 22; refine (get_any _ _ _ hsz.out _).mono ?_; rintro e w1 ⟨he, rfl⟩; (first | rw [h1.out] at he | rw [h2.out] at he); subst he))
    go_ret3
    exact ⟨rfl, rfl⟩
set_option maxHeartbeats 800000 in
theorem next_off (f : ByteArray) (hs : f.size ≤ 9223372036854775807) (n m : Nat) (E : Int) (hf : 8 ≤ f.size) (hR1 : getR f 0 4 = .tuple #[.int .u64 (n : Nat), .bool true]) (hR2 : getR f 4 4 = .tuple #[.int .u64 (m : Nat), .bool true]) (hn : n < 4294967296)
    (h : 65536 < n ∧ E = 2 ∨ n ≤ 65536 ∧ f.size - 8 < n ∧ E = 10) (w : World) :
    Calls Try.prog 11 #[.string f] w fun e w' => e = .returned (.tuple #[.string ⟨#[]⟩, .int .i64 0, .int .i64 E]) ∧ w = w' := by
  have hsz := Lib.hid hs
  have h1 := Lib.hid hR1
  have h2 := Lib.hid hR2
  have hw : IntKind.i64.wrap (n : Int) = (n : Int) := IntWalk.i64_in _ (by omega)
  have hn' : (n : Int) < 4294967296 := by omega
  clear hR1 hR2 hn
  rcases h with ⟨h, rfl⟩ | ⟨h, h', rfl⟩
  · have d1 : decide (65536 < (n : Int)) = true := decide_eq_true (by omega)
    clear h hw
    go_enter Try.func11, Try.ntmps11
    go_wp2_with (first
      | (go_at_call 22; refine (get_any _ _ _ hsz.out _).mono ?_; rintro e w1 ⟨he, rfl⟩; (first | rw [h1.out] at he | rw [h2.out] at he); subst he))
    go_ret3
    exact ⟨rfl, rfl⟩
  · have d1 : decide (65536 < (n : Int)) = false := decide_eq_false (by omega)
    have d2 : decide ((f.size : Int) - 8 < (n : Int)) = true := decide_eq_true (by omega)
    clear h hw
    go_enter Try.func11, Try.ntmps11
    go_wp2_with (first
      | (go_at_call 22; refine (get_any _ _ _ hsz.out _).mono ?_; rintro e w1 ⟨he, rfl⟩; (first | rw [h1.out] at he | rw [h2.out] at he); subst he))
    go_ret3
    exact ⟨rfl, rfl⟩
set_option maxHeartbeats 800000 in
theorem next_sum (f : ByteArray) (hs : f.size ≤ 9223372036854775807) (n m : Nat) (hf : 8 + n ≤ f.size) (hR1 : getR f 0 4 = .tuple #[.int .u64 (n : Nat), .bool true]) (hR2 : getR f 4 4 = .tuple #[.int .u64 (m : Nat), .bool true]) (hn : n ≤ 65536) (hm : m < 4294967296)
    (X : CrcP.W) (hX : CrcP.more (CrcP.sum (f.data.toList.take 4)) (f.extract 8 (8 + n)).data.toList = X) (B : Bool) (hB : (u X != (m : Int)) = B) (w : World) :
    Calls Try.prog 11 #[.string f] w fun e w' => e = .returned (if B then .tuple #[.string ⟨#[]⟩, .int .i64 0, .int .i64 12] else .tuple #[.string (f.extract 8 (8 + n)), .int .i64 ((8 + n : Nat) : Int), .int .i64 0]) ∧ w = w' := by
  have hsz := Lib.hid hs
  have h1 := Lib.hid hR1
  have h2 := Lib.hid hR2
  have hw : IntKind.i64.wrap (n : Int) = (n : Int) := IntWalk.i64_in _ (by omega)
  have hw2 : (m : Int) % 4294967296 = (m : Int) := by omega
  have hn' : (n : Int) ≤ 65536 := by omega
  have d1 : decide (65536 < (n : Int)) = false := decide_eq_false (by omega)
  have d2 : decide ((f.size : Int) - 8 < (n : Int)) = false := decide_eq_false (by omega)
  have HX := Lib.hid hX
  have hsz1 : (f.extract 0 4).size ≤ 9223372036854775807 := by simp; omega
  have hsz2 : (f.extract 8 (8 + n)).size ≤ 9223372036854775807 := by simp; omega
  have HZ1 := Lib.hid hsz1
  have HZ2 := Lib.hid hsz2
  clear hR1 hR2 hX hsz1 hsz2
  go_enter Try.func11, Try.ntmps11
  cases B with
  | true =>
    go_wp2_with (first
      | (go_at_call 22; refine (get_any _ _ _ hsz.out _).mono ?_; rintro e w1 ⟨he, rfl⟩; (first | rw [h1.out] at he | rw [h2.out] at he); subst he)
      | (go_at_call 18; refine (sum_any _ _ HZ1.out).mono ?_; rintro e w2 ⟨rfl, rfl⟩)
      | (go_at_call 17; refine (more_any _ _ _ HZ2.out).mono ?_; rintro e w3 ⟨he, rfl⟩; rw [HX.out] at he; subst he))
    go_ret3
    exact ⟨rfl, rfl⟩
  | false =>
    go_wp2_with (first
      | (go_at_call 22; refine (get_any _ _ _ hsz.out _).mono ?_; rintro e w1 ⟨he, rfl⟩; (first | rw [h1.out] at he | rw [h2.out] at he); subst he)
      | (go_at_call 18; refine (sum_any _ _ HZ1.out).mono ?_; rintro e w2 ⟨rfl, rfl⟩)
      | (go_at_call 17; refine (more_any _ _ _ HZ2.out).mono ?_; rintro e w3 ⟨he, rfl⟩; rw [HX.out] at he; subst he))
    go_ret3
    exact ⟨rfl, rfl⟩
theorem next_any (f : ByteArray) (hs : f.size ≤ 9223372036854775807) (w : World) :
    Calls Try.prog 11 #[.string f] w fun e w' => e = .returned (nextV f.data.toList) ∧ w = w' := by
  have hlen : f.data.toList.length = f.size := by simp
  by_cases h8 : f.size < 8
  · have hR : nextR f.data.toList = ([], 0, 10) := by rw [nextR, if_pos (by omega)]
    rw [nextV, hR]; exact next_short f h8 w
  · have hR1 := getR_in f 0 4 (by omega) (by omega)
    have hR2 := getR_in f 4 4 (by omega) (by omega)
    rw [List.drop_zero] at hR1
    have hn := get4_lt f.data.toList
    have hm := get4_lt (f.data.toList.drop 4)
    generalize hnn : ShiftP.getN (f.data.toList.take 4) = n at *
    generalize hmm : ShiftP.getN ((f.data.toList.drop 4).take 4) = m at *
    by_cases h1 : 65536 < n
    · have hR : nextR f.data.toList = ([], 0, 2) := by rw [nextR, if_neg (by omega), hnn, if_pos h1]
      rw [nextV, hR]; exact next_off f hs n m 2 (by omega) hR1 hR2 hn (.inl ⟨h1, rfl⟩) w
    · by_cases h2 : f.size - 8 < n
      · have hR : nextR f.data.toList = ([], 0, 10) := by rw [nextR, if_neg (by omega), hnn, if_neg h1, if_pos (by omega)]
        rw [nextV, hR]; exact next_off f hs n m 10 (by omega) hR1 hR2 hn (.inr ⟨by omega, h2, rfl⟩) w
      · have hx : (f.extract 8 (8 + n)).data.toList = (f.data.toList.drop 8).take n := by
          rw [ByteArray.data_extract, Array.toList_extract, List.extract_eq_take_drop]; congr 1; omega
        have hxs : f.extract 8 (8 + n) = ⟨((f.data.toList.drop 8).take n).toArray⟩ := by
          apply ByteArray.ext; apply Array.toList_inj.1; rw [hx]
        have hX : CrcP.more (CrcP.sum (f.data.toList.take 4)) (f.extract 8 (8 + n)).data.toList = CrcP.sum (f.data.toList.take 4 ++ (f.data.toList.drop 8).take n) := by
          rw [hx, CrcP.sum, CrcP.sum, CrcP.more_append]
        refine (next_sum f hs n m (by omega) hR1 hR2 (by omega) hm _ hX _ rfl w).mono fun e w' ⟨he, hw⟩ => ⟨he.trans ?_, hw⟩
        by_cases hq : (CrcP.sum (f.data.toList.take 4 ++ (f.data.toList.drop 8).take n)).toNat = m
        · have hR : nextR f.data.toList = ((f.data.toList.drop 8).take n, 8 + n, 0) := by rw [nextR, if_neg (by omega), hnn, if_neg h1, if_neg (by omega), hmm, if_pos hq]
          have hb : (u (CrcP.sum (f.data.toList.take 4 ++ (f.data.toList.drop 8).take n)) != (m : Int)) = false := by rw [bne_eq_false_iff_eq]; unfold u; rw [hq]
          rw [hb, nextV, hR, hxs]; rfl
        · have hR : nextR f.data.toList = ([], 0, 12) := by rw [nextR, if_neg (by omega), hnn, if_neg h1, if_neg (by omega), hmm, if_neg hq]
          have hb : (u (CrcP.sum (f.data.toList.take 4 ++ (f.data.toList.drop 8).take n)) != (m : Int)) = true := by rw [bne_iff_ne]; unfold u; omega
          rw [hb, nextV, hR]; rfl
/-- what Open answers -/
def openR (f : List UInt8) : List UInt8 × Nat :=
  if (nextR f).2.2 ≠ 0 then ([], (nextR f).2.2) else if (nextR f).2.1 < f.length then ([], 11) else ((nextR f).1, 0)
theorem nextR_le (f : List UInt8) : (nextR f).2.1 ≤ f.length := by
  unfold nextR
  split
  · simp
  · split
    · simp
    · split
      · simp
      · split
        · show 8 + _ ≤ _; omega
        · simp
set_option maxHeartbeats 400000 in
theorem open_any (f : ByteArray) (hs : f.size ≤ 9223372036854775807) (w : World) :
    Calls Try.prog 13 #[.string f] w fun e w' => e = .returned (.tuple #[.string ⟨(openR f.data.toList).1.toArray⟩, .int .i64 ((openR f.data.toList).2 : Nat)]) ∧ w = w' := by
  have hlen : f.data.toList.length = f.size := by simp
  obtain ⟨s, n, e, hR⟩ : ∃ s n e, nextR f.data.toList = (s, n, e) := ⟨_, _, _, rfl⟩
  have HN : Hid (nextV f.data.toList = .tuple #[.string ⟨s.toArray⟩, .int .i64 (n : Nat), .int .i64 (e : Nat)]) := Lib.hid (by rw [nextV, hR])
  have HS := Lib.hid hs
  by_cases h0 : e = 0
  · by_cases h1 : n < f.size
    · have HO : Hid (openR f.data.toList = ([], 11)) := Lib.hid (by rw [openR, hR, if_neg (by simp [h0]), if_pos (by rw [hlen]; exact h1)])
      subst h0
      clear hR hlen hs
      go_enter Try.func13, Try.ntmps13
      go_wp2_with (go_at_call 11; refine (next_any f HS.out _).mono ?_; rintro e w1 ⟨he, rfl⟩; rw [HN.out] at he; subst he)
      go_ret2
      exact ⟨by rw [HO.out]; rfl, rfl⟩
    · have HO : Hid (openR f.data.toList = (s, 0)) := Lib.hid (by rw [openR, hR, if_neg (by simp [h0]), if_neg (by rw [hlen]; exact h1)])
      subst h0
      have d : decide ((n : Int) < (f.size : Int)) = false := decide_eq_false (by omega)
      clear hR hlen hs
      go_enter Try.func13, Try.ntmps13
      go_wp2_with (go_at_call 11; refine (next_any f HS.out _).mono ?_; rintro e w1 ⟨he, rfl⟩; rw [HN.out] at he; subst he)
      go_ret2
      exact ⟨by rw [HO.out]; rfl, rfl⟩
  · have HO : Hid (openR f.data.toList = ([], e)) := Lib.hid (by rw [openR, hR, if_pos (by simpa using h0)])
    have hb : ((e : Int) != 0) = true := by rw [bne_iff_ne]; omega
    clear hR hlen hs h0
    go_enter Try.func13, Try.ntmps13
    go_wp2_with (go_at_call 11; refine (next_any f HS.out _).mono ?_; rintro e w1 ⟨he, rfl⟩; rw [HN.out] at he; subst he)
    go_ret2
    exact ⟨by rw [HO.out]; rfl, rfl⟩
end Go.Proofs.Ytlmbllboemgcpaa.FrameW
