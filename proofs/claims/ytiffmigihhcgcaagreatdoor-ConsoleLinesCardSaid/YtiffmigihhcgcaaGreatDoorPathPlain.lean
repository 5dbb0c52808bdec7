/- Plain mathematics of paths. -/
import Derived.Test.YtiffmigihhcgcaaGreatDoorPathName
import Derived.Lib.Join
namespace Go.Proofs.YtiffmigihhcgcaaGreatDoor.PathW
/-- a text cut at its slashes -/
def segs : List UInt8 → List (List UInt8)
  | [] => [[]]
  | c :: l => if c = 47 then [] :: segs l else match segs l with
    | s :: r => (c :: s) :: r
    | [] => [[c]]
theorem segs_ne (l : List UInt8) : segs l ≠ [] := by
  cases l with
  | nil => simp [segs]
  | cons c l =>
    unfold segs
    split
    · simp
    · split <;> simp
theorem segs_pos (l : List UInt8) : 1 ≤ (segs l).length := by
  have := segs_ne l
  cases h : segs l with
  | nil => exact absurd h this
  | cons a r => simp
/-- where the first slash stands, or the end -/
def endI : List UInt8 → Nat
  | [] => 0
  | c :: l => if c = 47 then 0 else endI l + 1
theorem endI_le (l : List UInt8) : endI l ≤ l.length := by
  induction l with
  | nil => simp [endI]
  | cons c l ih => unfold endI; split <;> simp; omega
theorem endI_slash (l : List UInt8) : endI (47 :: l) = 0 := by rw [endI, if_pos rfl]
theorem endI_other (c : UInt8) (l : List UInt8) (h : c ≠ 47) : endI (c :: l) = endI l + 1 := by rw [endI, if_neg h]
theorem segs_slash (l : List UInt8) : segs (47 :: l) = [] :: segs l := by rw [segs, if_pos rfl]
theorem segs_other (c : UInt8) (l s : List UInt8) (r : List (List UInt8)) (h : c ≠ 47) (e : segs l = s :: r) : segs (c :: l) = (c :: s) :: r := by rw [segs, if_neg h, e]
theorem index_end (l : List UInt8) : Lib.indexByte l 47 = if endI l < l.length then (endI l : Int) else -1 := by
  induction l with
  | nil => simp [endI, Lib.indexByte]
  | cons c l ih =>
    by_cases hc : c = 47
    · subst hc; rw [Lib.indexByte, endI_slash]; simp
    · have hb : (c == 47) = false := by simpa using hc
      rw [Lib.indexByte, hb, endI_other c l hc, ih]
      by_cases h : endI l < l.length
      · rw [if_pos h]
        have h1 : ((endI l : Int) == -1) = false := by rw [beq_eq_false_iff_ne]; omega
        have h2 : endI l + 1 < (c :: l).length := by simpa using h
        rw [if_pos h2, h1]; simp
      · rw [if_neg h]
        have h2 : ¬ endI l + 1 < (c :: l).length := by simpa using h
        rw [if_neg h2]; simp
theorem end_slash (l : List UInt8) (h : endI l < l.length) : ∃ r, l.drop (endI l) = 47 :: r ∧ r = l.drop (endI l + 1) := by
  induction l with
  | nil => simp at h
  | cons c l ih =>
    unfold endI at h ⊢
    by_cases hc : c = 47
    · subst hc; exact ⟨l, by simp, by simp⟩
    · rw [if_neg hc] at h ⊢
      obtain ⟨r, h1, h2⟩ := ih (by simpa using h)
      exact ⟨r, by simpa using h1, by simpa using h2⟩
theorem segs_cut (l : List UInt8) : segs l = l.take (endI l) :: (if endI l < l.length then segs (l.drop (endI l + 1)) else []) := by
  induction l with
  | nil => simp [segs, endI]
  | cons c l ih =>
    by_cases hc : c = 47
    · subst hc; rw [segs_slash, endI_slash, if_pos (by simp)]; simp
    · rw [segs_other c l _ _ hc ih, endI_other c l hc]
      by_cases h : endI l < l.length
      · rw [if_pos h, if_pos (by simpa using h)]; simp
      · rw [if_neg h, if_neg (by simpa using h)]; simp
def namesR (p : List UInt8) : Option (List (List UInt8)) :=
  if p = [47] then some []
  else match p with
    | c :: q => if c = 47 ∧ (segs q).length ≤ 8 ∧ (segs q).all nameB = true then some (segs q) else none
    | [] => none
/-- what is still to come, behind so many names -/
def cont (acc : List (List UInt8)) (p : List UInt8) : Option (List (List UInt8)) :=
  match p with
  | c :: q => if c = 47 ∧ acc.length + (segs q).length ≤ 8 ∧ (segs q).all nameB = true then some (acc ++ segs q) else none
  | [] => none
theorem cont_start (p : List UInt8) (h : p ≠ [47]) : cont [] p = namesR p := by
  unfold namesR cont
  rw [if_neg h]
  cases p with
  | nil => rfl
  | cons c q => simp
theorem cont_nil (acc : List (List UInt8)) : cont acc [] = none := rfl
theorem cont_noslash (acc : List (List UInt8)) (c : UInt8) (q : List UInt8) (h : c ≠ 47) : cont acc (c :: q) = none := by
  unfold cont; simp [h]
theorem cont_full (acc : List (List UInt8)) (q : List UInt8) (h : 8 ≤ acc.length) : cont acc (47 :: q) = none := by
  have := segs_pos q
  unfold cont
  simp only
  rw [if_neg (by omega)]
theorem cont_noname (acc : List (List UInt8)) (q : List UInt8) (h : nameB (q.take (endI q)) = false) : cont acc (47 :: q) = none := by
  unfold cont
  simp only
  rw [if_neg]
  rintro ⟨_, _, h2⟩
  rw [segs_cut q, List.all_cons, h] at h2
  simp at h2
theorem cont_last (acc : List (List UInt8)) (q : List UInt8) (ha : acc.length < 8) (h : nameB (q.take (endI q)) = true) (he : q.drop (endI q) = []) : cont acc (47 :: q) = some (acc ++ [q.take (endI q)]) := by
  have hl : ¬ endI q < q.length := by
    intro hlt
    obtain ⟨r, h1, _⟩ := end_slash q hlt
    rw [h1] at he; cases he
  have hs : segs q = [q.take (endI q)] := by rw [segs_cut q, if_neg hl]
  unfold cont
  simp only
  rw [hs, if_pos ⟨trivial, by simp; omega, by simp [h]⟩]
theorem cont_more (acc : List (List UInt8)) (q : List UInt8) (h : nameB (q.take (endI q)) = true) (he : q.drop (endI q) ≠ []) : cont acc (47 :: q) = cont (acc ++ [q.take (endI q)]) (q.drop (endI q)) := by
  have hl : endI q < q.length := by
    refine Nat.lt_of_not_le fun hle => he (List.drop_eq_nil_of_le hle)
  obtain ⟨r, h1, h2⟩ := end_slash q hl
  have hs : segs q = q.take (endI q) :: segs r := by rw [segs_cut q, if_pos hl, ← h2]
  rw [h1]
  unfold cont
  simp only
  rw [hs]
  simp only [List.length_cons, List.all_cons, h, Bool.true_and, List.length_append, List.length_nil, List.append_assoc, List.singleton_append, true_and]
  have e : acc.length + ((segs r).length + 1) = acc.length + (0 + 1) + (segs r).length := by omega
  rw [e]
/-- names behind slashes -/
def joinT (l : List (List UInt8)) : List UInt8 := (l.map (47 :: ·)).flatten
def joinP (l : List (List UInt8)) : List UInt8 := if l = [] then [47] else joinT l
theorem join_slash (l : List (List UInt8)) : 47 :: Lib.join l [47] = joinP l := by
  cases l with
  | nil => rfl
  | cons x r =>
    rw [Lib.join_cons, joinP, if_neg (by simp), joinT, List.map_cons, List.flatten_cons]
    rfl
theorem join_segs (q : List UInt8) : joinT (segs q) = 47 :: q := by
  induction q with
  | nil => rfl
  | cons c q ih =>
    by_cases hc : c = 47
    · subst hc
      rw [segs_slash]
      show (47 :: []) ++ joinT (segs q) = _
      rw [ih]; rfl
    · cases h : segs q with
      | nil => exact absurd h (segs_ne q)
      | cons s r =>
        rw [segs_other c q s r hc h]
        rw [h] at ih
        have ih' : (47 :: s) ++ joinT r = 47 :: q := ih
        have : s ++ joinT r = q := by simpa using ih'
        show (47 :: c :: s) ++ joinT r = _
        rw [← this]; rfl
theorem nameB_clean (s : List UInt8) (h : nameB s = true) : ∀ c ∈ s, c ≠ 47 := by
  unfold nameB at h
  simp only [Bool.and_eq_true, List.all_eq_true] at h
  intro c hc e
  have := h.2 c hc
  subst e
  revert this
  decide
theorem segs_name (x : List UInt8) (hx : ∀ c ∈ x, c ≠ 47) (r : List UInt8) : segs (x ++ 47 :: r) = x :: segs r := by
  induction x with
  | nil => simp [segs]
  | cons c x ih =>
    have hc : c ≠ 47 := hx c (by simp)
    show segs (c :: (x ++ 47 :: r)) = _
    rw [segs, if_neg hc, ih (fun d hd => hx d (by simp [hd]))]
theorem segs_name1 (x : List UInt8) (hx : ∀ c ∈ x, c ≠ 47) : segs x = [x] := by
  induction x with
  | nil => rfl
  | cons c x ih =>
    have hc : c ≠ 47 := hx c (by simp)
    rw [segs, if_neg hc, ih (fun d hd => hx d (by simp [hd]))]
theorem segs_join (l : List (List UInt8)) (hl : ∀ x ∈ l, ∀ c ∈ x, c ≠ 47) (h : l ≠ []) : ∃ q, joinT l = 47 :: q ∧ segs q = l := by
  induction l with
  | nil => exact absurd rfl h
  | cons x r ih =>
    refine ⟨x ++ joinT r, rfl, ?_⟩
    cases r with
    | nil => simp [joinT]; exact segs_name1 x (hl x (by simp))
    | cons y r =>
      obtain ⟨q, h1, h2⟩ := ih (fun z hz => hl z (by simp [hz])) (by simp)
      rw [h1, segs_name x (hl x (by simp)), h2]
/-- the path of names -/
def joinR (l : List (List UInt8)) : Option (List UInt8) := if l.length ≤ 8 ∧ l.all nameB = true then some (joinP l) else none
theorem names_join (l : List (List UInt8)) (h : l.length ≤ 8) (ha : l.all nameB = true) : namesR (joinP l) = some l := by
  by_cases h0 : l = []
  · subst h0; rfl
  · rw [joinP, if_neg h0]
    obtain ⟨q, h1, h2⟩ := segs_join l (fun x hx => nameB_clean x (List.all_eq_true.1 ha x hx)) h0
    have hq : q ≠ [] := by
      rintro rfl
      rw [show segs [] = [[]] from rfl] at h2
      rw [← h2] at ha; revert ha; decide
    rw [h1, namesR, if_neg (by simpa using hq), h2]
    simp only
    rw [if_pos ⟨trivial, h, ha⟩]
theorem join_names (p : List UInt8) (l : List (List UInt8)) (h : namesR p = some l) : joinP l = p ∧ l.length ≤ 8 ∧ l.all nameB = true := by
  unfold namesR at h
  split at h
  · rename_i hp; injection h with h; subst h; subst hp; exact ⟨rfl, by simp, rfl⟩
  · cases p with
    | nil => cases h
    | cons c q =>
      simp only at h
      split at h
      · rename_i hc
        injection h with h
        subst h
        obtain ⟨rfl, h1, h2⟩ := hc
        exact ⟨by rw [joinP, if_neg (segs_ne q), join_segs], h1, h2⟩
      · cases h
end Go.Proofs.YtiffmigihhcgcaaGreatDoor.PathW
