/- Lists that rise by a key: plain laws. -/
import Derived.Test.YtappgelpigoknaaBase
namespace Go.Proofs.Ytappgelpigoknaa.Sl
variable {κ α β : Type} {key : α → κ} {val : α → β} {mk : κ → β → α} {kl : κ → κ → Prop}
/-- a strict order of all keys -/
structure Lin (kl : κ → κ → Prop) : Prop where
  irr : ∀ x, ¬ kl x x
  trans : ∀ x y z, kl x y → kl y z → kl x z
  or : ∀ x y, kl x y ∨ x = y ∨ kl y x
theorem Lin.asymm (H : Lin kl) {x y : κ} (h : kl x y) : ¬ kl y x := fun h' => H.irr _ (H.trans _ _ _ h h')
/-- an element is its key and its value -/
structure KV (key : α → κ) (val : α → β) (mk : κ → β → α) : Prop where
  kk : ∀ x y, key (mk x y) = x
  vv : ∀ x y, val (mk x y) = y
  pair : ∀ a, mk (key a) (val a) = a
def Rises (key : α → κ) (kl : κ → κ → Prop) (L : List α) : Prop := L.Pairwise fun a b => kl (key a) (key b)
/-- the value at a key -/
def look [DecidableEq κ] (key : α → κ) (val : α → β) (L : List α) (x : κ) : Option β := (L.find? fun a => decide (key a = x)).map val
theorem key_inj (H : Lin kl) {L : List α} (h : Rises key kl L) {a b : α} (ha : a ∈ L) (hb : b ∈ L) (e : key a = key b) : a = b := by
  induction L with
  | nil => simp at ha
  | cons x L ih =>
    obtain ⟨h1, h2⟩ := List.pairwise_cons.1 h
    rcases List.mem_cons.1 ha with ha1 | ha1
    · rcases List.mem_cons.1 hb with hb1 | hb1
      · rw [ha1, hb1]
      · have := h1 b hb1; rw [← ha1, e] at this; exact absurd this (H.irr _)
    · rcases List.mem_cons.1 hb with hb1 | hb1
      · have := h1 a ha1; rw [← hb1, e] at this; exact absurd this (H.irr _)
      · exact ih h2 ha1 hb1
theorem look_iff [DecidableEq κ] (H : Lin kl) (V : KV key val mk) {L : List α} (h : Rises key kl L) (x : κ) (i : β) : look key val L x = some i ↔ mk x i ∈ L := by
  unfold look
  constructor
  · intro e
    obtain ⟨a, ha, rfl⟩ := Option.map_eq_some_iff.1 e
    have h1 := List.mem_of_find?_eq_some ha
    have h2 := List.find?_some ha
    simp only [decide_eq_true_eq] at h2
    subst h2
    rw [V.pair]; exact h1
  · intro hm
    cases hf : L.find? (fun a => decide (key a = x)) with
    | none =>
      have := List.find?_eq_none.1 hf _ hm
      simp [V.kk] at this
    | some a =>
      have h1 := List.mem_of_find?_eq_some hf
      have h2 := List.find?_some hf
      simp only [decide_eq_true_eq] at h2
      have := key_inj H h h1 hm (by rw [h2, V.kk])
      rw [this]; simp [V.vv]
theorem look_none [DecidableEq κ] {L : List α} (x : κ) : look key val L x = none ↔ ∀ a ∈ L, key a ≠ x := by
  unfold look
  rw [Option.map_eq_none_iff, List.find?_eq_none]
  simp
theorem look_mem [DecidableEq κ] (H : Lin kl) (V : KV key val mk) {L : List α} (h : Rises key kl L) {a : α} (ha : a ∈ L) : look key val L (key a) = some (val a) := by
  rw [look_iff H V h, V.pair]; exact ha
/-- two such lists of the same elements are one -/
theorem rises_ext (H : Lin kl) {L L' : List α} (h : Rises key kl L) (h' : Rises key kl L') (e : ∀ a, a ∈ L ↔ a ∈ L') : L = L' := by
  induction L generalizing L' with
  | nil =>
    cases L' with
    | nil => rfl
    | cons b L' => exact absurd ((e b).2 (by simp)) (by simp)
  | cons a L ih =>
    cases L' with
    | nil => exact absurd ((e a).1 (by simp)) (by simp)
    | cons b L' =>
      obtain ⟨h1, h2⟩ := List.pairwise_cons.1 h
      obtain ⟨h3, h4⟩ := List.pairwise_cons.1 h'
      have hab : a = b := by
        rcases List.mem_cons.1 ((e a).1 (by simp)) with rfl | ha
        · rfl
        · rcases List.mem_cons.1 ((e b).2 (by simp)) with rfl | hb
          · rfl
          · exact absurd (h3 a ha) (H.asymm (h1 b hb))
      subst hab
      congr 1
      refine ih h2 h4 fun x => ⟨fun hx => ?_, fun hx => ?_⟩
      · rcases List.mem_cons.1 ((e x).1 (by simp [hx])) with rfl | hx'
        · exact absurd (h1 x hx) (H.irr _)
        · exact hx'
      · rcases List.mem_cons.1 ((e x).2 (by simp [hx])) with rfl | hx'
        · exact absurd (h3 x hx) (H.irr _)
        · exact hx'
section
variable [∀ x y, Decidable (kl x y)]
/-- what stands ahead of a key; what does not -/
def low (key : α → κ) (kl : κ → κ → Prop) [∀ x y, Decidable (kl x y)] (L : List α) (x : κ) : List α := L.takeWhile fun a => decide (kl (key a) x)
def high (key : α → κ) (kl : κ → κ → Prop) [∀ x y, Decidable (kl x y)] (L : List α) (x : κ) : List α := L.dropWhile fun a => decide (kl (key a) x)
def ins (key : α → κ) (kl : κ → κ → Prop) [∀ x y, Decidable (kl x y)] (L : List α) (a : α) : List α := low key kl L (key a) ++ a :: high key kl L (key a)
theorem low_high (L : List α) (x : κ) : low key kl L x ++ high key kl L x = L := List.takeWhile_append_dropWhile
theorem mem_ins (L : List α) (a x : α) : x ∈ ins key kl L a ↔ x = a ∨ x ∈ L := by
  have h := low_high (key := key) (kl := kl) L (key a)
  have : x ∈ L ↔ x ∈ low key kl L (key a) ∨ x ∈ high key kl L (key a) := by
    conv => lhs; rw [← h]
    exact List.mem_append
  unfold ins
  rw [List.mem_append, List.mem_cons, this]
  constructor
  · rintro (h | h | h)
    · exact .inr (.inl h)
    · exact .inl h
    · exact .inr (.inr h)
  · rintro (h | h | h)
    · exact .inr (.inl h)
    · exact .inl h
    · exact .inr (.inr h)
theorem mem_low {L : List α} {x : κ} {a : α} (h : a ∈ low key kl L x) : kl (key a) x := by
  unfold low at h
  induction L with
  | nil => simp at h
  | cons b L ih =>
    rw [List.takeWhile_cons] at h
    split at h
    · rename_i hb
      rcases List.mem_cons.1 h with rfl | h
      · simpa using hb
      · exact ih h
    · simp at h
theorem mem_high (H : Lin kl) {L : List α} (hL : Rises key kl L) {x : κ} {a : α} (h : a ∈ high key kl L x) : ¬ kl (key a) x := by
  unfold high at h
  induction L with
  | nil => simp at h
  | cons b L ih =>
    obtain ⟨h1, h2⟩ := List.pairwise_cons.1 hL
    rw [List.dropWhile_cons] at h
    split at h
    · exact ih h2 h
    · rename_i hb
      simp only [decide_eq_true_eq] at hb
      rcases List.mem_cons.1 h with rfl | h
      · exact hb
      · exact fun hk => hb (H.trans _ _ _ (h1 a h) hk)
theorem rises_ins (H : Lin kl) {L : List α} (h : Rises key kl L) {a : α} (hn : ∀ b ∈ L, key b ≠ key a) : Rises key kl (ins key kl L a) := by
  have hlh := low_high (key := key) (kl := kl) L (key a)
  have hp : (low key kl L (key a) ++ high key kl L (key a)).Pairwise fun a b => kl (key a) (key b) := by rw [hlh]; exact h
  obtain ⟨h1, h2, h3⟩ := List.pairwise_append.1 hp
  have hhi : ∀ b ∈ high key kl L (key a), kl (key a) (key b) := fun b hb => by
    have hbL : b ∈ L := by rw [← hlh]; exact List.mem_append_right _ hb
    rcases H.or (key a) (key b) with h | h | h
    · exact h
    · exact absurd h.symm (hn b hbL)
    · exact absurd h (mem_high H ‹Rises key kl L› hb)
  refine List.pairwise_append.2 ⟨h1, List.pairwise_cons.2 ⟨hhi, h2⟩, fun b hb c hc => ?_⟩
  rcases List.mem_cons.1 hc with rfl | hc
  · exact mem_low hb
  · exact h3 b hb c hc
theorem ins_length (L : List α) (a : α) : (ins key kl L a).length = L.length + 1 := by
  have h := congrArg List.length (low_high (key := key) (kl := kl) L (key a))
  unfold ins
  rw [List.length_append] at h
  rw [List.length_append, List.length_cons]; omega
theorem low_length (L : List α) (x : κ) : (low key kl L x).length ≤ L.length := by
  have h := congrArg List.length (low_high (key := key) (kl := kl) L x)
  rw [List.length_append] at h; omega
theorem ins_take (L : List α) (a : α) : ins key kl L a = L.take (low key kl L (key a)).length ++ a :: L.drop (low key kl L (key a)).length := by
  have h := low_high (key := key) (kl := kl) L (key a)
  unfold ins
  generalize low key kl L (key a) = A at h ⊢
  generalize high key kl L (key a) = B at h ⊢
  subst h
  rw [List.take_left, List.drop_left]
/-- how far a search for the place comes -/
theorem low_step {L : List α} {x : κ} {k : Nat} (hk : k ≤ (low key kl L x).length) {a : α} (ha : L[k]? = some a) : (kl (key a) x ↔ k < (low key kl L x).length) := by
  unfold low at hk ⊢
  induction L generalizing k with
  | nil => simp at ha
  | cons b L ih =>
    rw [List.takeWhile_cons] at hk ⊢
    by_cases hb : kl (key b) x
    · rw [if_pos (decide_eq_true hb)] at hk ⊢
      cases k with
      | zero =>
        have : b = a := by simpa using ha
        subst this
        simp [hb]
      | succ k =>
        have := ih (k := k) (by simpa using hk) (by simpa using ha)
        rw [this]; simp
    · rw [if_neg (by simpa using hb)] at hk ⊢
      have : k = 0 := by simpa using hk
      subst this
      have : b = a := by simpa using ha
      subst this
      simp [hb]
end
theorem opt_ext {o o' : Option β} (h : ∀ i, o = some i ↔ o' = some i) : o = o' := by
  cases o with
  | none => cases o' with
    | none => rfl
    | some j => exact absurd ((h j).2 rfl) (by simp)
  | some i => exact ((h i).1 rfl).symm
theorem look_ins [DecidableEq κ] [∀ x y, Decidable (kl x y)] (H : Lin kl) (V : KV key val mk) {L : List α} (h : Rises key kl L) {a : α} (hn : ∀ b ∈ L, key b ≠ key a) : look key val (ins key kl L a) = fun z => if z = key a then some (val a) else look key val L z := by
  funext z
  refine opt_ext fun i => ?_
  rw [look_iff H V (rises_ins H h hn), mem_ins]
  by_cases hz : z = key a
  · subst hz
    rw [if_pos rfl]
    constructor
    · rintro (e | e)
      · rw [← e, V.vv]
      · exact absurd (V.kk _ _) (hn _ e)
    · intro e
      injection e with e
      subst e
      exact .inl (V.pair a)
  · rw [if_neg hz, look_iff H V h]
    constructor
    · rintro (e | e)
      · exact absurd (by rw [← e, V.kk]) hz
      · exact e
    · exact .inr
/-- without one -/
def del [DecidableEq κ] (key : α → κ) (L : List α) (x : κ) : List α := L.filter fun a => !decide (key a = x)
theorem rises_filter {L : List α} (h : Rises key kl L) (p : α → Bool) : Rises key kl (L.filter p) := h.sublist List.filter_sublist
theorem look_filter [DecidableEq κ] (H : Lin kl) (V : KV key val mk) {L : List α} (h : Rises key kl L) (p : α → Bool) (z : κ) : look key val (L.filter p) z = (look key val L z).filter fun i => p (mk z i) := by
  refine opt_ext fun i => ?_
  rw [look_iff H V (rises_filter h p), List.mem_filter, Option.filter_eq_some_iff, look_iff H V h]
theorem look_del [DecidableEq κ] (H : Lin kl) (V : KV key val mk) {L : List α} (h : Rises key kl L) (x : κ) : look key val (del key L x) = fun z => if z = x then none else look key val L z := by
  funext z
  refine opt_ext fun i => ?_
  unfold del
  rw [look_iff H V (rises_filter h _), List.mem_filter, V.kk]
  by_cases hz : z = x
  · rw [if_pos hz]
    simp [hz]
  · rw [if_neg hz, look_iff H V h]
    simp [hz]
/-- without one, by its place -/
theorem del_place [DecidableEq κ] (H : Lin kl) {L : List α} (h : Rises key kl L) {k : Nat} {a : α} (hk : L[k]? = some a) : del key L (key a) = L.take k ++ L.drop (k + 1) := by
  induction L generalizing k with
  | nil => simp at hk
  | cons b L ih =>
    obtain ⟨h1, h2⟩ := List.pairwise_cons.1 h
    unfold del
    cases k with
    | zero =>
      have : b = a := by simpa using hk
      subst this
      simp only [List.take_zero, List.nil_append, List.drop_succ_cons, List.drop_zero, Nat.zero_add]
      rw [List.filter_cons_of_neg (by simp), List.filter_eq_self.2]
      intro c hc
      have : key c ≠ key b := fun e => H.irr (key b) (by have := h1 c hc; rwa [e] at this)
      simp [this]
    | succ k =>
      have hk' : L[k]? = some a := by simpa using hk
      have hne : key b ≠ key a := fun e => H.irr (key b) (by have := h1 a (List.mem_of_getElem? hk'); rwa [← e] at this)
      rw [List.filter_cons_of_pos (by simp [hne])]
      have := ih h2 hk'
      unfold del at this
      rw [this]; rfl
theorem nodup_len [DecidableEq α] : ∀ {J L : List α}, J.Nodup → (∀ a ∈ J, a ∈ L) → J.length ≤ L.length
  | [], _, _, _ => by simp
  | a :: J, L, h, hm => by
    obtain ⟨h1, h2⟩ := List.nodup_cons.1 h
    have ha := hm a (by simp)
    have h3 := nodup_len (J := J) (L := L.erase a) h2 fun b hb => (List.mem_erase_of_ne (fun e => h1 (by rw [← e]; exact hb))).2 (hm b (by simp [hb]))
    rw [List.length_erase_of_mem ha] at h3
    have : 0 < L.length := List.length_pos_of_mem ha
    simp only [List.length_cons]; omega
theorem rises_nodup (H : Lin kl) {L : List α} (h : Rises key kl L) : L.Nodup := by
  unfold List.Nodup
  refine List.Pairwise.imp (fun {a b} hk => ?_) h
  intro e
  exact H.irr (key b) (by rw [e] at hk; exact hk)
/-- a list of all that rise, none twice, sorted, is the one that rises -/
theorem sorted_eq (H : Lin kl) {L J : List α} (h : Rises key kl L) (hn : J.Nodup) (hm : ∀ a, a ∈ J ↔ a ∈ L) (hs : J.Pairwise fun a b => ¬ kl (key b) (key a)) : J = L := by
  refine rises_ext H ?_ h hm
  unfold Rises
  have hnd : J.Pairwise (· ≠ ·) := hn
  have h2 := List.pairwise_and_iff.2 ⟨hs, hnd⟩
  refine List.Pairwise.imp_of_mem ?_ h2
  rintro a b ha hb ⟨h3, h4⟩
  rcases H.or (key a) (key b) with e | e | e
  · exact e
  · exact absurd (key_inj H h ((hm a).1 ha) ((hm b).1 hb) e) h4
  · exact absurd e h3
/-- the place of a key -/
def place [DecidableEq κ] (key : α → κ) (L : List α) (x : κ) : Option Nat := L.findIdx? fun a => decide (key a = x)
end Go.Proofs.Ytappgelpigoknaa.Sl
