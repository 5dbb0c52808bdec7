/- The program's Unpacker: Num, Text, Left and End, over what is left. -/
import Derived.Test.YtonckbnmamlilaaPackUNum
namespace Go.Proofs.Ytonckbnmamlilaa.PackW
open Go.RowKit
open ShiftW (getOK getV getR get_any)
def numA (l : List UInt8) (sp : Bool) (n : Int) : Int := match unumV l sp n with | some v => (v : Int) | none => 0
def numG (l : List UInt8) (sp : Bool) (n : Int) : Bool := (unumV l sp n).isNone
theorem unum_any (b : Nat) (l : List UInt8) (sp : Bool) (n : Int) (w : World) (hp : UIs b l sp w) :
    Calls Try.prog 21 #[.pointer (some ⟨b, 0, none⟩), .int .i64 n] w fun e w' => e = .returned (.int .i64 (numA l sp n)) ∧ UIs b (l.drop n.toNat) (numG l sp n) w' ∧ Only b w w' ∧ w'.heap.size = w.heap.size := by
  obtain ⟨s, hu, hsz, hl⟩ := hp
  have hlen : s.data.toList.length = s.size := by simp
  by_cases hs : Sized n
  · obtain ⟨m, rfl⟩ := Int.eq_ofNat_of_zero_le (show 0 ≤ n by unfold Sized at hs; omega)
    by_cases hc : sp = true ∨ s.size < m
    · have hnone : unumV l sp m = none := by
        rw [unumV, if_neg]
        rintro ⟨h1, h2, h3, h4⟩
        rcases hc with hc | hc
        · rw [h1] at hc; cases hc
        · rw [← hl h1, Int.toNat_natCast] at h3; omega
      refine (unum_short b s sp m hs hc w hu).mono ?_
      rintro e w' ⟨rfl, h1, h2, h3⟩
      exact ⟨by rw [numA, hnone], ⟨s, by rw [numG, hnone]; exact h1, hsz, by rw [numG, hnone]; intro h; cases h⟩, h2, h3⟩
    · obtain rfl : sp = false := by cases sp <;> simp_all
      have hm : m ≤ s.size := Nat.le_of_not_lt fun h => hc (.inr h)
      obtain rfl := hl rfl
      by_cases hv : ShiftP.getN (s.data.toList.take m) < 9223372036854775808
      · have hsome : unumV s.data.toList false m = some (ShiftP.getN (s.data.toList.take m)) := by
          rw [unumV, if_pos ⟨rfl, hs, by rw [Int.toNat_natCast]; omega, by rw [Int.toNat_natCast]; exact hv⟩, Int.toNat_natCast]
        refine (unum_yes b s m hs hm hv w hu).mono ?_
        rintro e w' ⟨rfl, h1, h2, h3⟩
        refine ⟨by rw [numA, hsome], ⟨_, by rw [numG, hsome]; exact h1, by simp; omega, fun _ => ?_⟩, h2, h3⟩
        rw [Int.toNat_natCast, ByteArray.data_extract, Array.toList_extract, List.extract_eq_take_drop, List.take_of_length_le (by simp)]
      · have hnone : unumV s.data.toList false m = none := by
          rw [unumV, if_neg]
          rintro ⟨h1, h2, h3, h4⟩
          rw [Int.toNat_natCast] at h4; exact hv h4
        refine (unum_big b s m hs hm hv w hu).mono ?_
        rintro e w' ⟨rfl, ⟨t, ht, h1⟩, h2, h3⟩
        exact ⟨by rw [numA, hnone], ⟨t, by rw [numG, hnone]; exact h1, by omega, by rw [numG, hnone]; intro h; cases h⟩, h2, h3⟩
  · have hnone : unumV l sp n = none := by
      rw [unumV, if_neg]
      rintro ⟨h1, h2, h3, h4⟩
      exact hs h2
    refine (unum_unsized b s sp n hs w hu).mono ?_
    rintro e w' ⟨rfl, h1, h2, h3⟩
    exact ⟨by rw [numA, hnone], ⟨s, by rw [numG, hnone]; exact h1, hsz, by rw [numG, hnone]; intro h; cases h⟩, h2, h3⟩
/-- the text that Text answers -/
def utextV (l : List UInt8) (sp : Bool) (most : Int) : Option (List UInt8) :=
  if sp = false ∧ 2 ≤ l.length ∧ (ShiftP.getN (l.take 2) : Int) ≤ most ∧ ShiftP.getN (l.take 2) ≤ l.length - 2 then some ((l.drop 2).take (ShiftP.getN (l.take 2))) else none
def textA (l : List UInt8) (sp : Bool) (most : Int) : ByteArray := match utextV l sp most with | some t => ⟨t.toArray⟩ | none => ⟨#[]⟩
def textG (l : List UInt8) (sp : Bool) (most : Int) : Bool := (utextV l sp most).isNone
theorem takeI_yes (b : Nat) (l : List UInt8) (n : Nat) (h : n ≤ l.length) (w : World) (hp : UIs b l false w) :
    Calls Try.prog 36 #[.pointer (some ⟨b, 0, none⟩), .int .i64 n] w fun e w' => e = .returned (.tuple #[.string ⟨(l.take n).toArray⟩, .bool true]) ∧
      UIs b (l.drop n) false w' ∧ Only b w w' ∧ w'.heap.size = w.heap.size := by
  obtain ⟨s, hu, hsz, hl⟩ := hp
  have hlen : s.data.toList.length = s.size := by simp
  obtain rfl := hl rfl
  refine (take_yes b s n (by omega) w hu).mono ?_
  rintro e w' ⟨rfl, h1, h2, h3⟩
  refine ⟨?_, ⟨_, h1, by simp; omega, fun _ => ?_⟩, h2, h3⟩
  · have : s.extract 0 n = ⟨(s.data.toList.take n).toArray⟩ := by
      apply ByteArray.ext
      rw [ByteArray.data_extract]
      apply Array.toList_inj.1
      rw [Array.toList_extract, List.extract_eq_take_drop]
      simp
    rw [this]
  · rw [ByteArray.data_extract, Array.toList_extract, List.extract_eq_take_drop, List.take_of_length_le (by simp)]
theorem takeI_no (b : Nat) (l : List UInt8) (sp : Bool) (n : Nat) (h : sp = true ∨ l.length < n) (w : World) (hp : UIs b l sp w) :
    Calls Try.prog 36 #[.pointer (some ⟨b, 0, none⟩), .int .i64 n] w fun e w' => e = .returned (.tuple #[.string ⟨#[]⟩, .bool false]) ∧
      UIs b [] true w' ∧ Only b w w' ∧ w'.heap.size = w.heap.size := by
  obtain ⟨s, hu, hsz, hl⟩ := hp
  have hlen : s.data.toList.length = s.size := by simp
  refine (take_no b s sp n ?_ w hu).mono ?_
  · rcases h with h | h
    · exact .inl h
    · cases sp with
      | true => exact .inl rfl
      | false => right; obtain rfl := hl rfl; omega
  · rintro e w' ⟨rfl, h1, h2, h3⟩
    exact ⟨rfl, ⟨s, h1, hsz, by intro h; cases h⟩, h2, h3⟩
theorem ispoil_any (b : Nat) (l : List UInt8) (sp : Bool) (w : World) (hp : UIs b l sp w) :
    Calls Try.prog 35 #[.pointer (some ⟨b, 0, none⟩)] w fun e w' => e = .returned (.tuple #[]) ∧ UIs b l true w' ∧ Only b w w' ∧ w'.heap.size = w.heap.size := by
  obtain ⟨s, hu, hsz, hl⟩ := hp
  refine (spoil_any b s sp w hu).mono ?_
  rintro e w' ⟨rfl, h1, h2, h3⟩
  exact ⟨rfl, ⟨s, h1, hsz, by intro h; cases h⟩, h2, h3⟩
set_option maxHeartbeats 400000 in
theorem utext_any (b : Nat) (l : List UInt8) (sp : Bool) (most : Int) (w : World) (hp : UIs b l sp w) :
    Calls Try.prog 19 #[.pointer (some ⟨b, 0, none⟩), .int .i64 most] w fun e w' => e = .returned (.string (textA l sp most)) ∧ (∃ l', UIs b l' (textG l sp most) w' ∧ (textG l sp most = false → l' = (l.drop 2).drop (ShiftP.getN (l.take 2)))) ∧ Only b w w' ∧ w'.heap.size = w.heap.size := by
  have HP := Lib.hid hp
  clear hp
  have h2 : unumV l sp 2 = if sp = false ∧ 2 ≤ l.length then some (ShiftP.getN (l.take 2)) else none := by
    have hb : ShiftP.getN (l.take 2) < 65536 := by
      have h1 := ShiftP.getN_lt (l.take 2)
      have h2 : (l.take 2).length ≤ 2 := by simp; omega
      have h3 : 256 ^ (l.take 2).length ≤ 256 ^ 2 := Nat.pow_le_pow_right (by omega) h2
      omega
    by_cases hc : sp = false ∧ 2 ≤ l.length
    · rw [unumV, if_pos ⟨hc.1, .inr (.inl rfl), hc.2, by simpa using (by omega : ShiftP.getN (l.take 2) < 9223372036854775808)⟩, if_pos hc]; rfl
    · rw [unumV, if_neg (fun h => hc ⟨h.1, h.2.2.1⟩), if_neg hc]
  by_cases hc : sp = false ∧ 2 ≤ l.length
  · obtain ⟨rfl, hlen⟩ := hc
    rw [if_pos ⟨rfl, hlen⟩] at h2
    have hA : numA l false 2 = (ShiftP.getN (l.take 2) : Nat) := by rw [numA, h2]
    have hG : numG l false 2 = false := by rw [numG, h2]; rfl
    generalize hv : ShiftP.getN (l.take 2) = v at *
    have hdl : (l.drop 2).length = l.length - 2 := by simp
    have hvb : v < 65536 := by
      have h1 := ShiftP.getN_lt (l.take 2)
      have h2 : (l.take 2).length ≤ 2 := by simp; omega
      have h3 : 256 ^ (l.take 2).length ≤ 256 ^ 2 := Nat.pow_le_pow_right (by omega) h2
      omega
    have HA := Lib.hid hA
    have HG := Lib.hid hG
    by_cases hm : (v : Int) ≤ most
    · by_cases hq : v ≤ (l.drop 2).length
      · have HR : Hid (textA l false most = ⟨((l.drop 2).take v).toArray⟩ ∧ textG l false most = false) := by
          apply Lib.hid
          have : utextV l false most = some ((l.drop 2).take v) := by rw [utextV, hv, if_pos ⟨rfl, hlen, hm, by omega⟩]
          rw [textA, textG, this]; exact ⟨rfl, rfl⟩
        have HQ := Lib.hid hq
        clear h2 hA hG hdl hlen hv hq
        go_enter Try.func19, Try.ntmps19
        go_wp2_with (first
          | (go_at_call 21; refine (unum_any b _ _ _ _ HP.out).mono ?_; rintro e w1 ⟨he, hu, hb1, hz1⟩; rw [HA.out] at he; subst he; rw [HG.out] at hu; have HU := Lib.hid hu; clear hu)
          | (go_at_call 36; refine (takeI_yes b _ _ HQ.out _ HU.out).mono ?_; rintro e w2 ⟨rfl, hu2, hb2, hz2⟩))
        go_ret
        refine ⟨?_, ⟨_, ?_, fun _ => rfl⟩, hb1.trans hb2, hz2.trans hz1⟩
        · rw [HR.out.1]; rfl
        · rw [HR.out.2]; exact hu2
      · have HR : Hid (textA l false most = ⟨#[]⟩ ∧ textG l false most = true) := by
          apply Lib.hid
          have : utextV l false most = none := by rw [utextV, hv, if_neg (fun h => hq (by omega))]
          rw [textA, textG, this]; exact ⟨rfl, rfl⟩
        have HQ : Hid (false = true ∨ (l.drop 2).length < v) := Lib.hid (.inr (by omega))
        clear h2 hA hG hdl hlen hv hq
        go_enter Try.func19, Try.ntmps19
        go_wp2_with (first
          | (go_at_call 21; refine (unum_any b _ _ _ _ HP.out).mono ?_; rintro e w1 ⟨he, hu, hb1, hz1⟩; rw [HA.out] at he; subst he; rw [HG.out] at hu; have HU := Lib.hid hu; clear hu)
          | (go_at_call 36; refine (takeI_no b _ _ _ HQ.out _ HU.out).mono ?_; rintro e w2 ⟨rfl, hu2, hb2, hz2⟩))
        go_ret
        refine ⟨?_, ⟨[], ?_, ?_⟩, hb1.trans hb2, hz2.trans hz1⟩
        · rw [HR.out.1]; rfl
        · rw [HR.out.2]; exact hu2
        · rw [HR.out.2]; intro h; cases h
    · have hm' : decide (most < (v : Int)) = true := decide_eq_true (by omega)
      have HR : Hid (textA l false most = ⟨#[]⟩ ∧ textG l false most = true) := by
        apply Lib.hid
        have : utextV l false most = none := by rw [utextV, hv, if_neg (fun h => hm (by omega))]
        rw [textA, textG, this]; exact ⟨rfl, rfl⟩
      clear h2 hA hG hdl hlen hv hm
      go_enter Try.func19, Try.ntmps19
      go_wp2_with (first
        | (go_at_call 21; refine (unum_any b _ _ _ _ HP.out).mono ?_; rintro e w1 ⟨he, hu, hb1, hz1⟩; rw [HA.out] at he; subst he; rw [HG.out] at hu; have HU := Lib.hid hu; clear hu)
        | (go_at_call 35; refine (ispoil_any b _ _ _ HU.out).mono ?_; rintro e w2 ⟨rfl, hu2, hb2, hz2⟩; have HV := Lib.hid hu2; clear hu2)
        | (go_at_call 36; refine (takeI_no b _ _ _ (.inl rfl) _ HV.out).mono ?_; rintro e w3 ⟨rfl, hu3, hb3, hz3⟩))
      go_ret
      refine ⟨?_, ⟨[], ?_, ?_⟩, (hb1.trans hb2).trans hb3, hz3.trans (hz2.trans hz1)⟩
      · rw [HR.out.1]; rfl
      · rw [HR.out.2]; exact hu3
      · rw [HR.out.2]; intro h; cases h
  · rw [if_neg hc] at h2
    have HA : Hid (numA l sp 2 = ((0 : Nat) : Int)) := Lib.hid (by rw [numA, h2]; rfl)
    have HG : Hid (numG l sp 2 = true) := Lib.hid (by rw [numG, h2]; rfl)
    have HR : Hid (textA l sp most = ⟨#[]⟩ ∧ textG l sp most = true) := by
      apply Lib.hid
      have : utextV l sp most = none := by rw [utextV, if_neg (fun h => hc ⟨h.1, h.2.1⟩)]
      rw [textA, textG, this]; exact ⟨rfl, rfl⟩
    clear h2 hc
    by_cases hm : most < 0
    all_goals
      go_enter Try.func19, Try.ntmps19
      go_wp2_with (first
        | (go_at_call 21; refine (unum_any b _ _ _ _ HP.out).mono ?_; rintro e w1 ⟨he, hu, hb1, hz1⟩; rw [HA.out] at he; subst he; rw [HG.out] at hu; have HU := Lib.hid hu; clear hu)
        | (go_at_call 35; refine (ispoil_any b _ _ _ HU.out).mono ?_; rintro e w2 ⟨rfl, hu2, hb2, hz2⟩; have HV := Lib.hid hu2; clear hu2)
        | (go_at_call 36; refine (takeI_no b _ _ 0 (.inl rfl) _ HV.out).mono ?_; rintro e w3 ⟨rfl, hu3, hb3, hz3⟩)
        | (go_at_call 36; refine (takeI_no b _ _ 0 (.inl rfl) _ HU.out).mono ?_; rintro e w3 ⟨rfl, hu3, hb3, hz3⟩))
      go_ret
    · refine ⟨?_, ⟨[], ?_, ?_⟩, (hb1.trans hb2).trans hb3, hz3.trans (hz2.trans hz1)⟩
      · rw [HR.out.1]; rfl
      · rw [HR.out.2]; exact hu3
      · rw [HR.out.2]; intro h; cases h
    · refine ⟨?_, ⟨[], ?_, ?_⟩, hb1.trans hb3, hz3.trans hz1⟩
      · rw [HR.out.1]; rfl
      · rw [HR.out.2]; exact hu3
      · rw [HR.out.2]; intro h; cases h
def leftA (l : List UInt8) (sp : Bool) : Int := if sp = true then 0 else (l.length : Int)
def endA (l : List UInt8) (sp : Bool) : Int := if sp = true ∨ l ≠ [] then 11 else 0
set_option maxHeartbeats 400000 in
theorem uleft_any (b : Nat) (l : List UInt8) (sp : Bool) (w : World) (hp : UIs b l sp w) :
    Calls Try.prog 23 #[.pointer (some ⟨b, 0, none⟩)] w fun e w' => e = .returned (.int .i64 (leftA l sp)) ∧ w = w' := by
  obtain ⟨s, hu, hsz, hl⟩ := hp
  have c0 := hu.cell0
  have c1 := hu.cell1
  have hlen : s.data.toList.length = s.size := by simp
  cases sp with
  | true =>
    have H := Lib.hid (show leftA l true = 0 by simp [leftA])
    clear hu hl hlen
    go_enter Try.func23, Try.ntmps23
    go_wp2
    go_ret
    exact ⟨ret_int H.out.symm, rfl⟩
  | false =>
    obtain rfl := hl rfl
    have H := Lib.hid (show leftA s.data.toList false = (s.size : Int) by simp [leftA])
    clear hu hl hlen
    go_enter Try.func23, Try.ntmps23
    go_wp2
    go_ret
    exact ⟨ret_int H.out.symm, rfl⟩
set_option maxHeartbeats 400000 in
theorem uend_any (b : Nat) (l : List UInt8) (sp : Bool) (w : World) (hp : UIs b l sp w) :
    Calls Try.prog 25 #[.pointer (some ⟨b, 0, none⟩)] w fun e w' => e = .returned (.int .i64 (endA l sp)) ∧ w = w' := by
  obtain ⟨s, hu, hsz, hl⟩ := hp
  have c0 := hu.cell0
  have c1 := hu.cell1
  have hlen : s.data.toList.length = s.size := by simp
  cases sp with
  | true =>
    have H := Lib.hid (show endA l true = 11 by simp [endA])
    clear hu hl hlen
    go_enter Try.func25, Try.ntmps25
    go_wp2
    go_ret
    exact ⟨ret_int H.out.symm, rfl⟩
  | false =>
    obtain rfl := hl rfl
    by_cases h0 : s.size = 0
    · have H := Lib.hid (show endA s.data.toList false = 0 by rw [endA, if_neg]; simp only [reduceCtorEq, false_or, Decidable.not_not]; exact List.eq_nil_of_length_eq_zero (by omega))
      have hd : decide (0 < s.size) = false := decide_eq_false (by omega)
      clear hu hl hlen h0
      go_enter Try.func25, Try.ntmps25
      go_wp2
      go_ret
      exact ⟨ret_int H.out.symm, rfl⟩
    · have H := Lib.hid (show endA s.data.toList false = 11 by rw [endA, if_pos]; right; intro h; rw [h] at hlen; simp at hlen; omega)
      have hd : decide (0 < s.size) = true := decide_eq_true (by omega)
      clear hu hl hlen h0
      go_enter Try.func25, Try.ntmps25
      go_wp2
      go_ret
      exact ⟨ret_int H.out.symm, rfl⟩
end Go.Proofs.Ytonckbnmamlilaa.PackW
