/- Lines and their words, as plain data: blanks, numerals, hexadecimal digits. -/
import Derived.Test.YtiffmigihhcgcaaGreatDoorOpPlain
import Derived.Lib.AtoiAll
import Derived.Lib.Atoi
import Derived.Lib.ItoaMem
import Derived.Lib.Join
namespace Go.Proofs.YtiffmigihhcgcaaGreatDoor.ConP
set_option maxRecDepth 100000
open OpP
abbrev Bs := List UInt8
/-- a text cut at its blanks -/
def wds : Bs → List Bs
  | [] => [[]]
  | c :: l => if c = 32 then [] :: wds l else match wds l with
    | s :: r => (c :: s) :: r
    | [] => [[c]]
theorem wds_ne (l : Bs) : wds l ≠ [] := by
  cases l with
  | nil => simp [wds]
  | cons c l =>
    unfold wds
    split
    · simp
    · split <;> simp
theorem wds_blank (l : Bs) : wds (32 :: l) = [] :: wds l := by rw [wds, if_pos rfl]
theorem wds_cons (c : UInt8) (l : Bs) (h : c ≠ 32) : ∃ s r, wds l = s :: r ∧ wds (c :: l) = (c :: s) :: r := by
  obtain ⟨s, r, e⟩ := List.exists_cons_of_ne_nil (wds_ne l)
  exact ⟨s, r, e, by rw [wds, if_neg h, e]⟩
/-- cut where a blank stands: what is ahead of it has none -/
theorem wds_app (a l : Bs) (ha : 32 ∉ a) : wds (a ++ 32 :: l) = a :: wds l := by
  induction a with
  | nil => exact wds_blank l
  | cons c a ih =>
    simp only [List.mem_cons, not_or] at ha
    obtain ⟨s, r, h1, h2⟩ := wds_cons c (a ++ 32 :: l) (fun e => ha.1 e.symm)
    rw [List.cons_append, h2]
    rw [ih ha.2] at h1
    injection h1 with e1 e2
    rw [← e1, ← e2]
theorem wds_one (a : Bs) (ha : 32 ∉ a) : wds a = [a] := by
  induction a with
  | nil => rfl
  | cons c a ih =>
    simp only [List.mem_cons, not_or] at ha
    obtain ⟨s, r, h1, h2⟩ := wds_cons c a (fun e => ha.1 e.symm)
    rw [ih ha.2] at h1
    injection h1 with e1 e2
    rw [h2, ← e1, ← e2]
def joinW : List Bs → Bs
  | [] => []
  | [a] => a
  | a :: b :: r => a ++ 32 :: joinW (b :: r)
theorem join_is : ∀ l : List Bs, Lib.join l [32] = joinW l
  | [] => rfl
  | [a] => Lib.join_one a _
  | a :: b :: r => by
    have ih := join_is (b :: r)
    rw [Lib.join_cons] at ih ⊢
    rw [joinW, ← ih]
    simp [Lib.joinTail]
theorem wds_join : ∀ l : List Bs, l ≠ [] → (∀ a ∈ l, 32 ∉ a) → wds (joinW l) = l
  | [], h, _ => absurd rfl h
  | [a], _, h => wds_one a (h a (by simp))
  | a :: b :: r, _, h => by
    rw [joinW, wds_app a _ (h a (by simp)), wds_join (b :: r) (by simp) fun x hx => h x (by simp [hx])]
theorem join_wds (l : Bs) : joinW (wds l) = l := by
  induction l with
  | nil => rfl
  | cons c l ih =>
    by_cases hc : c = 32
    · subst hc
      rw [wds_blank]
      obtain ⟨s, r, e⟩ := List.exists_cons_of_ne_nil (wds_ne l)
      rw [e] at ih ⊢
      rw [joinW, ih]; rfl
    · obtain ⟨s, r, h1, h2⟩ := wds_cons c l hc
      rw [h2]
      rw [h1] at ih
      cases r with
      | nil => simp [joinW] at ih ⊢; exact ih
      | cons b r => simp [joinW] at ih ⊢; exact ih
theorem wds_free (l : Bs) : ∀ a ∈ wds l, 32 ∉ a := by
  induction l with
  | nil => intro a ha; simp [wds] at ha; subst ha; simp
  | cons c l ih =>
    by_cases hc : c = 32
    · subst hc
      rw [wds_blank]
      intro a ha
      rcases List.mem_cons.1 ha with rfl | ha
      · simp
      · exact ih a ha
    · obtain ⟨s, r, h1, h2⟩ := wds_cons c l hc
      rw [h2]
      rw [h1] at ih
      intro a ha
      rcases List.mem_cons.1 ha with rfl | ha
      · simp only [List.mem_cons, not_or]; exact ⟨fun e => hc e.symm, ih s (by simp)⟩
      · exact ih a (by simp [ha])
/-- a number's word -/
def numW (w : Bs) : Option Nat := if w.length ≤ 9 ∧ (w.length ≤ 1 ∨ w.head? ≠ some 48) then Lib.decNat w else none
open Lib in
theorem decFrom_snoc : ∀ (l : Bs) (acc : Nat) (b : UInt8), decFrom acc (l ++ [b]) = (decFrom acc l).bind fun n => (digitVal b).map fun d => n * 10 + d
  | [], acc, b => by
    simp only [List.nil_append, decFrom]
    cases digitVal b <;> rfl
  | c :: l, acc, b => by
    simp only [List.cons_append, decFrom]
    cases digitVal c with
    | none => rfl
    | some d => exact decFrom_snoc l _ b
open Lib in
theorem digit_byte {b : UInt8} {d : Nat} (h : digitVal b = some d) : d < 10 ∧ UInt8.ofNat (48 + d) = b := by
  obtain ⟨h1, h2, h3⟩ := digitVal_eq h
  refine ⟨by omega, ?_⟩
  apply UInt8.toNat_inj.1
  rw [UInt8.toNat_ofNat']
  omega
open Lib in
theorem digit_of {d : Nat} (h : d < 10) : digitVal (UInt8.ofNat (48 + d)) = some d := by
  unfold digitVal
  rw [UInt8.toNat_ofNat']
  rw [if_pos (by omega)]
  congr 1; omega
open Lib in
theorem dec_step {u : Nat} (h : ¬ u < 10) : decDigits u = decDigits (u / 10) ++ [UInt8.ofNat (48 + u % 10)] := by rw [decDigits, dif_neg h]
open Lib in
theorem dec_back (u : Nat) : decFrom 0 (decDigits u) = some u := by
  induction u using Nat.strongRecOn with
  | _ u ih =>
    by_cases h : u < 10
    · rw [decDigits_one h]
      simp only [decFrom]
      rw [digit_of h]; simp
    · rw [dec_step h, decFrom_snoc, ih (u / 10) (by omega), digit_of (by omega)]
      simp; omega
open Lib in
theorem dec_ne (u : Nat) : decDigits u ≠ [] := by
  intro e
  have := decDigits_length u
  have := nDigits_pos u
  rw [e] at *; simp at *; omega
open Lib in
theorem dec_nat (u : Nat) : decNat (decDigits u) = some u := by
  unfold decNat
  rw [if_neg, dec_back]
  have := dec_ne u
  cases h : decDigits u with
  | nil => exact absurd h this
  | cons a r => simp
open Lib in
theorem dec_head (u : Nat) (h : 1 ≤ u) : (decDigits u).head? ≠ some 48 := by
  induction u using Nat.strongRecOn with
  | _ u ih =>
    by_cases h1 : u < 10
    · rw [decDigits_one h1]
      simp only [List.head?_cons, ne_eq, Option.some.injEq]
      intro e
      have := congrArg UInt8.toNat e
      rw [UInt8.toNat_ofNat'] at this
      simp at this; omega
    · rw [dec_step h1]
      have := ih (u / 10) (by omega) (by omega)
      have hne := dec_ne (u / 10)
      cases hd : decDigits (u / 10) with
      | nil => exact absurd hd hne
      | cons a r => rw [hd] at this; simpa using this
open Lib in
theorem dec_head_ok (u : Nat) : (decDigits u).length ≤ 1 ∨ (decDigits u).head? ≠ some 48 := by
  by_cases h : 1 ≤ u
  · exact .inr (dec_head u h)
  · left
    have : u = 0 := by omega
    subst this
    rw [decDigits_one (by omega)]; simp
open Lib in
theorem dec_uniq (w : Bs) : ∀ {u : Nat}, w ≠ [] → (w.length ≤ 1 ∨ w.head? ≠ some 48) → decFrom 0 w = some u → decDigits u = w := by
  generalize hn : w.length = n
  induction n using Nat.strongRecOn generalizing w with
  | _ n ih =>
    intro u hne hh hd
    rcases List.eq_nil_or_concat w with rfl | ⟨l, b, rfl⟩
    · exact absurd rfl hne
    rw [List.concat_eq_append] at *
    rw [decFrom_snoc] at hd
    cases hl : decFrom 0 l with
    | none => rw [hl] at hd; simp at hd
    | some m =>
      rw [hl] at hd
      cases hb : digitVal b with
      | none => rw [hb] at hd; simp at hd
      | some d =>
        rw [hb] at hd
        simp at hd
        obtain ⟨hd10, hby⟩ := digit_byte hb
        subst hd
        cases l with
        | nil =>
          simp [decFrom] at hl
          subst hl
          rw [show 0 * 10 + d = d by omega, decDigits_one hd10, hby]; rfl
        | cons c l =>
          have hc : (c :: l).length ≤ 1 ∨ (c :: l).head? ≠ some 48 := by
            rcases hh with hh | hh
            · simp at hn; omega
            · right; simpa using hh
          have hm := ih (c :: l).length (by simp at hn ⊢; omega) (c :: l) rfl (by simp) hc hl
          have hm1 : 1 ≤ m := by
            rcases Nat.eq_zero_or_pos m with rfl | h
            · rw [decDigits_one (by omega)] at hm
              injection hm with e1 e2
              exfalso
              rcases hh with hh | hh
              · simp at hn; omega
              · apply hh; rw [← e1]; rfl
            · exact h
          rw [dec_step (by omega), show (m * 10 + d) / 10 = m by omega, show (m * 10 + d) % 10 = d by omega, hm, hby]
open Lib in
theorem numW_dec {w : Bs} {u : Nat} (h : numW w = some u) : decDigits u = w := by
  unfold numW at h
  by_cases hc : w.length ≤ 9 ∧ (w.length ≤ 1 ∨ w.head? ≠ some 48)
  · rw [if_pos hc] at h
    obtain ⟨h1, h2⟩ := decNat_some h
    exact dec_uniq w h1 hc.2 h2
  · rw [if_neg hc] at h; cases h
open Lib in
theorem numW_lt {w : Bs} {u : Nat} (h : numW w = some u) : u < 1000000000 := by
  have hd := numW_dec h
  unfold numW at h
  by_cases hc : w.length ≤ 9 ∧ (w.length ≤ 1 ∨ w.head? ≠ some 48)
  · have h1 := lt_pow_nDigits u
    have h2 := decDigits_length u
    rw [hd] at h2
    have h3 : 10 ^ nDigits u ≤ 10 ^ 9 := Nat.pow_le_pow_right (by decide) (by omega)
    have : (10 : Nat) ^ 9 = 1000000000 := by decide
    omega
  · rw [if_neg hc] at h; cases h
open Lib in
theorem dec_short {u : Nat} (h : u < 1000000000) : (decDigits u).length ≤ 9 := by
  rw [decDigits_length]
  rcases Nat.lt_or_ge 9 (nDigits u) with h9 | h9
  · exfalso
    have key : ∀ k v : Nat, k < nDigits v → 10 ^ k ≤ v ∨ k = 0 := by
      intro k
      induction k with
      | zero => intro v _; exact .inr rfl
      | succ k ih =>
        intro v hv
        left
        by_cases h10 : v < 10
        · rw [nDigits_small h10] at hv; omega
        · rw [nDigits_big h10] at hv
          rcases ih (v / 10) (by omega) with h | h
          · rw [Nat.pow_succ]; omega
          · subst h; simp; omega
    rcases key 9 u h9 with h1 | h1
    · have : (10 : Nat) ^ 9 = 1000000000 := by decide
      omega
    · omega
  · exact h9
open Lib in
theorem numW_of {u : Nat} (h : u < 1000000000) : numW (decDigits u) = some u := by
  unfold numW
  rw [if_pos ⟨dec_short h, dec_head_ok u⟩, dec_nat]
open Lib in
theorem itoa_nat (u : Nat) : itoa (u : Int) = decDigits u := itoa_nonneg u
open Lib in
/-- what is no number of at most nine digits has no such numeral -/
theorem numW_itoa (v : Int) : numW (itoa v) = if 0 ≤ v ∧ v < 1000000000 then some v.toNat else none := by
  by_cases h : 0 ≤ v
  · obtain ⟨u, rfl⟩ := Int.eq_ofNat_of_zero_le h
    rw [itoa_nat]
    by_cases h1 : u < 1000000000
    · rw [numW_of h1, if_pos (by omega)]; simp
    · rw [if_neg (by omega)]
      cases hn : numW (decDigits u) with
      | none => rfl
      | some k =>
        have h2 := numW_lt hn
        have h3 := numW_dec hn
        have h4 := dec_back k
        rw [h3, dec_back] at h4
        injection h4 with h4
        omega
  · rw [if_neg (by omega)]
    have e : itoa v = 45 :: decDigits v.natAbs := by unfold itoa; rw [if_pos (by omega)]
    rw [e]
    unfold numW
    split
    · have : digitVal 45 = none := by decide
      simp [decNat, decFrom, this]
    · rfl
open Lib in
theorem parse_dec : ∀ (l : Bs) (acc : Nat), acc * 10 ^ l.length + 10 ^ l.length ≤ 10000000000 → parseUint10 acc l = match decFrom acc l with | some n => .ok n | none => .syntax
  | [], acc, _ => rfl
  | c :: l, acc, h => by
    have hp : 1 ≤ 10 ^ l.length := Nat.one_le_pow _ _ (by decide)
    simp only [List.length_cons, Nat.pow_succ] at h
    have h1 : acc * (10 ^ l.length * 10) = (acc * 10) * 10 ^ l.length := by
      rw [Nat.mul_comm (10 ^ l.length) 10, Nat.mul_assoc]
    rw [h1] at h
    have h2 : acc * 10 ≤ (acc * 10) * 10 ^ l.length := Nat.le_mul_of_pos_right _ (by omega)
    simp only [parseUint10, decFrom, digitVal]
    by_cases hc : 48 ≤ c.toNat ∧ c.toNat ≤ 57
    · rw [if_pos hc, if_pos hc, if_neg (by omega), if_neg (by omega)]
      apply parse_dec l
      have h3 : (acc * 10 + (c.toNat - 48)) * 10 ^ l.length ≤ (acc * 10) * 10 ^ l.length + 9 * 10 ^ l.length := by
        rw [← Nat.add_mul]; exact Nat.mul_le_mul_right _ (by omega)
      omega
    · rw [if_neg hc, if_neg hc]
open Lib in
/-- what the program asks of a number's word -/
theorem atoi_num (w : Bs) : (match atoiAll w with | .ok v => if 0 ≤ v ∧ w.length ≤ 9 ∧ itoa v = w then some v.toNat else none | _ => none) = numW w := by
  by_cases h9 : w.length ≤ 9
  · cases w with
    | nil => rfl
    | cons c r =>
      by_cases hs : c.toNat = 43 ∨ c.toNat = 45
      · have hn : numW (c :: r) = none := by
          have hd : digitVal c = none := by unfold digitVal; rw [if_neg (by omega)]
          unfold numW
          split
          · simp [decNat, decFrom, hd]
          · rfl
        rw [hn]
        cases ha : atoiAll (c :: r) with
        | «syntax» => rfl
        | range => rfl
        | ok v =>
          simp only
          by_cases hv : 0 ≤ v ∧ (c :: r).length ≤ 9 ∧ itoa v = c :: r
          · exfalso
            obtain ⟨u, rfl⟩ := Int.eq_ofNat_of_zero_le hv.1
            have h3 := hv.2.2
            rw [itoa_nat] at h3
            have h4 := dec_back u
            rw [h3] at h4
            have hd : digitVal c = none := by unfold digitVal; rw [if_neg (by omega)]
            simp [decFrom, hd] at h4
          · rw [if_neg hv]
      · have hl : (10 : Nat) ^ (c :: r).length ≤ 10 ^ 9 := Nat.pow_le_pow_right (by decide) h9
        have h9e : (10 : Nat) ^ 9 = 1000000000 := by decide
        have hp := parse_dec (c :: r) 0 (by omega)
        have hm : parseMag (c :: r) = match decFrom 0 (c :: r) with | some n => .ok n | none => .syntax := by
          unfold parseMag; rw [if_neg (by simp), hp]
        have hneg : ¬ c.toNat = 45 := fun e => hs (.inr e)
        have ha : atoiAll (c :: r) = match decFrom 0 (c :: r) with | some n => .ok (n : Int) | none => .syntax := by
          unfold atoiAll
          simp only
          rw [if_neg hs, hm]
          cases hd : decFrom 0 (c :: r) with
          | none => rfl
          | some n =>
            have hlt := decFrom_lt _ _ _ hd
            simp only
            rw [if_neg (by omega), if_neg (by omega), if_neg hneg]
        rw [ha]
        unfold numW
        cases hd : decFrom 0 (c :: r) with
        | none =>
          simp only
          split
          · simp [decNat, hd]
          · rfl
        | some n =>
          simp only [itoa_nat]
          by_cases hh : (c :: r).length ≤ 1 ∨ (c :: r).head? ≠ some 48
          · rw [if_pos ⟨by omega, h9, dec_uniq _ (by simp) hh hd⟩, if_pos ⟨h9, hh⟩]
            simp [decNat, hd]
          · have hno : ¬ (0 ≤ (n : Int) ∧ (c :: r).length ≤ 9 ∧ decDigits n = c :: r) := by
              rintro ⟨_, _, h3⟩
              apply hh
              rw [← h3]
              exact dec_head_ok n
            rw [if_neg hno, if_neg (fun h => hh h.2)]
  · unfold numW
    rw [if_neg (fun h => h9 h.1)]
    cases ha : atoiAll w with
    | «syntax» => rfl
    | range => rfl
    | ok v => simp only; rw [if_neg (fun h => h9 h.2.1)]
/-- a hexadecimal digit -/
def hexD (n : Nat) : UInt8 := if n < 10 then UInt8.ofNat (48 + n) else UInt8.ofNat (87 + n)
def hexV (c : UInt8) : Option Nat := if 48 ≤ c.toNat ∧ c.toNat ≤ 57 then some (c.toNat - 48) else if 97 ≤ c.toNat ∧ c.toNat ≤ 102 then some (c.toNat - 87) else none
def hexB (s : Bs) : Bs := s.flatMap fun b => [hexD (b.toNat / 16), hexD (b.toNat % 16)]
def hexS (s : Bs) : Bs := if s = [] then [45] else hexB s
def hexP : Bs → Option Bs
  | [] => some []
  | [_] => none
  | a :: b :: r => match hexV a, hexV b, hexP r with
    | some x, some y, some l => some (UInt8.ofNat (16 * x + y) :: l)
    | _, _, _ => none
def hexW (w : Bs) : Option Bs := if w = [45] then some [] else if w = [] then none else hexP w
theorem hexV_D_fin : ∀ n : Fin 16, hexV (hexD n.val) = some n.val := by decide
theorem hexV_D {n : Nat} (h : n < 16) : hexV (hexD n) = some n := hexV_D_fin ⟨n, h⟩
theorem hexD_V {c : UInt8} {n : Nat} (h : hexV c = some n) : n < 16 ∧ hexD n = c := by
  unfold hexV at h
  by_cases h1 : 48 ≤ c.toNat ∧ c.toNat ≤ 57
  · rw [if_pos h1] at h
    injection h with h
    refine ⟨by omega, ?_⟩
    unfold hexD
    rw [if_pos (by omega)]
    apply UInt8.toNat_inj.1
    rw [UInt8.toNat_ofNat']; omega
  · rw [if_neg h1] at h
    by_cases h2 : 97 ≤ c.toNat ∧ c.toNat ≤ 102
    · rw [if_pos h2] at h
      injection h with h
      refine ⟨by omega, ?_⟩
      unfold hexD
      rw [if_neg (by omega)]
      apply UInt8.toNat_inj.1
      rw [UInt8.toNat_ofNat']; omega
    · rw [if_neg h2] at h; cases h
theorem hexP_B (s : Bs) : hexP (hexB s) = some s := by
  induction s with
  | nil => rfl
  | cons b s ih =>
    have hb := b.toNat_lt
    show hexP (hexD (b.toNat / 16) :: hexD (b.toNat % 16) :: hexB s) = _
    rw [hexP, hexV_D (by omega), hexV_D (by omega), ih]
    simp only [Option.some.injEq, List.cons.injEq, and_true]
    apply UInt8.toNat_inj.1
    rw [UInt8.toNat_ofNat']; omega
theorem hexB_P : ∀ {w s : Bs}, hexP w = some s → hexB s = w
  | [], s, h => by simp [hexP] at h; subst h; rfl
  | [_], s, h => by simp [hexP] at h
  | a :: b :: r, s, h => by
    rw [hexP] at h
    cases ha : hexV a with
    | none => simp [ha] at h
    | some x =>
      cases hb : hexV b with
      | none => simp [ha, hb] at h
      | some y =>
        cases hr : hexP r with
        | none => simp [ha, hb, hr] at h
        | some l =>
          simp only [ha, hb, hr, Option.some.injEq] at h
          subst h
          obtain ⟨h1, h2⟩ := hexD_V ha
          obtain ⟨h3, h4⟩ := hexD_V hb
          have e : (UInt8.ofNat (16 * x + y)).toNat = 16 * x + y := by rw [UInt8.toNat_ofNat']; omega
          show hexD ((UInt8.ofNat (16 * x + y)).toNat / 16) :: hexD ((UInt8.ofNat (16 * x + y)).toNat % 16) :: hexB l = _
          rw [e, show (16 * x + y) / 16 = x by omega, show (16 * x + y) % 16 = y by omega, h2, h4, hexB_P hr]
theorem hexW_S (s : Bs) : hexW (hexS s) = some s := by
  unfold hexS
  by_cases hs : s = []
  · rw [if_pos hs, hs]; rfl
  · rw [if_neg hs]
    obtain ⟨b, r, rfl⟩ := List.exists_cons_of_ne_nil hs
    unfold hexW
    rw [if_neg, if_neg, hexP_B]
    · show hexD _ :: hexD _ :: hexB r ≠ []
      simp
    · show hexD _ :: hexD _ :: hexB r ≠ [45]
      simp
theorem hexS_W {w s : Bs} (h : hexW w = some s) : hexS s = w := by
  unfold hexW at h
  by_cases h1 : w = [45]
  · rw [if_pos h1] at h; injection h with h; subst h; rw [h1]; rfl
  · rw [if_neg h1] at h
    by_cases h2 : w = []
    · rw [if_pos h2] at h; cases h
    · rw [if_neg h2] at h
      have hb := hexB_P h
      unfold hexS
      rw [if_neg, hb]
      rintro rfl
      exact h2 hb.symm
end Go.Proofs.YtiffmigihhcgcaaGreatDoor.ConP
