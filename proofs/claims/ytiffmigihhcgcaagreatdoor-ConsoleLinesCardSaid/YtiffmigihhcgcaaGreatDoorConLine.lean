/- The document's line of a step is the program's; lines that are none. -/
import Derived.Test.YtiffmigihhcgcaaGreatDoorConForm
namespace Go.Proofs.YtiffmigihhcgcaaGreatDoor.ConP
set_option maxRecDepth 100000
set_option linter.constructorNameAsVariable false
open OpP
def tailW (l : List Bs) : Bs := l.flatMap (32 :: ·)
theorem join_tail : ∀ (a : Bs) (l : List Bs), joinW (a :: l) = a ++ tailW l
  | a, [] => by simp [joinW, tailW]
  | a, b :: l => by
    rw [joinW, join_tail b l]
    simp [tailW]
def fits (a : Cal) (f : Fr) : Bool := f.c == a.k && (f.o == a.o.k || f.c != 1)
def rcall (s : Stp) : Bs := match rforms.find? (fits s.a) with | some f => f.w ++ tailW (f.ps.map (getW s)) | none => []
def rtext (s : Stp) : Bs :=
  if s.k = 1 then 99 :: 32 :: (Lib.itoa s.c ++ 32 :: rcall s) else if s.k = 2 then 103 :: 32 :: (Lib.itoa s.c ++ 32 :: Lib.itoa s.f) else if s.k = 3 then 104 :: 32 :: Lib.itoa s.n
  else if s.k = 4 then 100 :: 32 :: Lib.itoa s.n else if s.k = 5 then 116 :: 32 :: Lib.itoa s.n else if s.k = 6 then 120 :: 32 :: Lib.itoa s.c else if s.k = 7 then 117 :: 32 :: Lib.itoa s.n
  else if s.k = 8 then [111] else if s.k = 10 then 109 :: 32 :: Lib.itoa s.f else []
def rline (s : Stp) (z : Bool) : Option Bs := if saysB (rtext s) s z then some (rtext s) else none
theorem rcall_is : ∀ x ∈ calls, ∀ s : Stp, x.key = s.key → rcall s = x.w ++ tailW (x.ps.map (getW s)) := by
  intro x hx s hk
  obtain ⟨k, c, n, f, ⟨ak, ⟨a1, a2, ok, a4, a5, a6, a7, a8, a9, a10, a11, a12⟩, p, h, g, z, d⟩⟩ := s
  simp only [Fm.key, Stp.key, Prod.mk.injEq] at hk
  obtain ⟨rfl, rfl, rfl⟩ := hk
  unfold calls at hx
  simp only [List.mem_cons, List.not_mem_nil, or_false] at hx
  rcases hx with rfl | rfl | rfl | rfl | rfl | rfl | rfl | rfl | rfl | rfl | rfl | rfl | rfl | rfl | rfl | rfl | rfl | rfl | rfl <;> rfl
theorem text_is : ∀ x ∈ forms, ∀ s : Stp, x.key = s.key → joinW (lineL x s) = rtext s := by
  intro x hx s hk
  rcases List.mem_append.1 hx with hx | hx
  · have h1 := calls_one x hx
    have hc := rcall_is x hx s hk
    simp only [Fm.key, Stp.key, Prod.mk.injEq] at hk
    unfold lineL rtext
    rw [if_pos h1, if_pos (by rw [← hk.1, h1]), hc, join_tail]
    simp [tailW]
  · simp only [Fm.key, Stp.key, Prod.mk.injEq] at hk
    unfold rest at hx
    simp only [List.mem_cons, List.not_mem_nil, or_false] at hx
    rcases hx with rfl | rfl | rfl | rfl | rfl | rfl | rfl | rfl
    all_goals
      obtain ⟨h1, _, _⟩ := hk
      unfold rtext
      rw [← h1]
      simp [lineL, Fm.ps, place, getW, getN, joinW]
theorem line_is (s : Stp) (z : Bool) : lineP s z = rline s z := by
  by_cases h : ∃ x ∈ forms, x.key = s.key
  · obtain ⟨x, hx, hk⟩ := h
    unfold lineP
    rw [find_key (tryF s z) forms s.key x keys_nodup hx hk]
    unfold tryF rline
    rw [text_is x hx s hk]
  · unfold lineP
    rw [find_nokey (tryF s z) forms s.key fun x hx e => h ⟨x, hx, e⟩]
    unfold rline
    rw [if_neg]
    intro hs
    unfold saysB at hs
    cases hp : parseP (wds (rtext s)) with
    | none => rw [hp] at hs; cases hs
    | some q =>
      rw [hp] at hs
      simp only [Bool.and_eq_true, sameS_iff] at hs
      obtain ⟨x, hx, hf⟩ := parseP_some hp
      exact h ⟨x, hx, by rw [← hs.1]; exact (parseF_key hf).symm⟩
def tick (n : Int) : Stp := ⟨5, 0, n, 0, cal0 0 0⟩
open Lib in
theorem dec_free (u : Nat) : 32 ∉ decDigits u := by
  intro h
  have hs := dec_back u
  have : ∀ (l : Bs) (acc n : Nat), decFrom acc l = some n → 32 ∉ l := by
    intro l
    induction l with
    | nil => intro _ _ _ hm; simp at hm
    | cons c l ih =>
      intro acc n hd hm
      simp only [decFrom] at hd
      cases hc : digitVal c with
      | none => rw [hc] at hd; cases hd
      | some d =>
        rw [hc] at hd
        rcases List.mem_cons.1 hm with rfl | hm
        · have := (digitVal_eq hc).1
          simp at this
        · exact ih _ _ hd hm
  exact this _ _ _ hs h
theorem tick_line (n : Nat) (h : n < 65536) : parseP (wds (116 :: 32 :: Lib.decDigits n)) = some (tick n) := by
  rw [rparse_is]
  have e : wds (116 :: 32 :: Lib.decDigits n) = [[116], Lib.decDigits n] := by
    have := wds_app [116] (Lib.decDigits n) (by decide)
    rw [wds_one _ (dec_free n)] at this
    exact this
  rw [e, rparse, numW_of (by omega)]
  rfl
theorem tick_back (n : Nat) (h : n < 65536) : lineP (tick n) true = some (116 :: 32 :: Lib.decDigits n) := line_back (tick_line n h)
/-- a line that is spoilt -/
def bad (d : Bs) : List Bs := [116 :: 32 :: 32 :: d, 32 :: 116 :: 32 :: d, (116 :: 32 :: d) ++ [32], 116 :: 32 :: 48 :: d, 116 :: 32 :: 43 :: d, 116 :: 32 :: 45 :: d, 84 :: 32 :: d, 116 :: d, (116 :: 32 :: d) ++ [32, 49], [116], [116, 32],
  [116, 32, 49, 50, 51, 52, 53, 54, 55, 56, 57, 48]]
open Lib in
theorem bad_none (n : Nat) : ∀ l ∈ bad (decDigits n), parseP (wds l) = none := by
  have hf := dec_free n
  have h1 := wds_one _ hf
  have hne := dec_ne n
  have two : ∀ a w : Bs, 32 ∉ a → 32 ∉ w → wds (a ++ 32 :: w) = [a, w] := fun a w ha hw => by rw [wds_app a w ha, wds_one w hw]
  intro l hl
  rw [rparse_is]
  unfold bad at hl
  simp only [List.mem_cons, List.not_mem_nil, or_false] at hl
  rcases hl with rfl | rfl | rfl | rfl | rfl | rfl | rfl | rfl | rfl | rfl | rfl | rfl
  · have e : wds (116 :: 32 :: 32 :: decDigits n) = [[116], [], decDigits n] := by
      have := wds_app [116] (32 :: decDigits n) (by decide)
      rw [wds_blank, h1] at this; exact this
    rw [e]; rfl
  · have e : wds (32 :: 116 :: 32 :: decDigits n) = [[], [116], decDigits n] := by
      have := two [116] (decDigits n) (by decide) hf
      rw [wds_blank]; exact congrArg _ this
    rw [e]; rfl
  · have e : wds ((116 :: 32 :: decDigits n) ++ [32]) = [[116], decDigits n, []] := by
      have h2 := wds_app (decDigits n) [] hf
      have := wds_app [116] (decDigits n ++ [32]) (by decide)
      rw [h2] at this; exact this
    rw [e]; rfl
  · have e := two [116] (48 :: decDigits n) (by decide) (by simp only [List.mem_cons, not_or]; exact ⟨by decide, hf⟩)
    have hz : numW (48 :: decDigits n) = none := by
      unfold numW
      rw [if_neg]
      rintro ⟨_, h | h⟩
      · apply hne; simpa using h
      · exact h rfl
    show rparse (wds ([116] ++ 32 :: (48 :: decDigits n))) = none
    rw [e, rparse, hz]; rfl
  · have e := two [116] (43 :: decDigits n) (by decide) (by simp only [List.mem_cons, not_or]; exact ⟨by decide, hf⟩)
    have hz : numW (43 :: decDigits n) = none := by
      unfold numW
      have hd : digitVal 43 = none := by decide
      split
      · simp [decNat, decFrom, hd]
      · rfl
    show rparse (wds ([116] ++ 32 :: (43 :: decDigits n))) = none
    rw [e, rparse, hz]; rfl
  · have e := two [116] (45 :: decDigits n) (by decide) (by simp only [List.mem_cons, not_or]; exact ⟨by decide, hf⟩)
    have hz : numW (45 :: decDigits n) = none := by
      unfold numW
      have hd : digitVal 45 = none := by decide
      split
      · simp [decNat, decFrom, hd]
      · rfl
    show rparse (wds ([116] ++ 32 :: (45 :: decDigits n))) = none
    rw [e, rparse, hz]; rfl
  · have e := two [84] (decDigits n) (by decide) hf
    show rparse (wds ([84] ++ 32 :: decDigits n)) = none
    rw [e, rparse]
    cases numW (decDigits n) <;> rfl
  · have e : wds (116 :: decDigits n) = [116 :: decDigits n] := wds_one _ (by simp only [List.mem_cons, not_or]; exact ⟨by decide, hf⟩)
    rw [e, rparse, if_neg]
    intro h; injection h with h; cases h
  · have e : wds ((116 :: 32 :: decDigits n) ++ [32, 49]) = [[116], decDigits n, [49]] := by
      have h2 := wds_app (decDigits n) [49] hf
      have := wds_app [116] (decDigits n ++ [32, 49]) (by decide)
      rw [h2] at this; exact this
    rw [e]; rfl
  · rfl
  · rfl
  · decide
end Go.Proofs.YtiffmigihhcgcaaGreatDoor.ConP
