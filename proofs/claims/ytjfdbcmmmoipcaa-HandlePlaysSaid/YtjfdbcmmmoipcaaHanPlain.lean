/- Handles as a list, sorted by client and number: plain laws. -/
import Derived.Test.YtjfdbcmmmoipcaaLaw
namespace Go.Proofs.Ytjfdbcmmmoipcaa.HanP
/-- a handle: client, number, inode -/
structure Ha where
  c : Int
  n : Int
  i : Int
deriving DecidableEq
def Ha.key (a : Ha) : Int × Int := (a.c, a.n)
def kl (x y : Int × Int) : Prop := x.1 < y.1 ∨ (x.1 = y.1 ∧ x.2 < y.2)
instance (x y : Int × Int) : Decidable (kl x y) := by unfold kl; infer_instance
theorem kl_irr (x : Int × Int) : ¬ kl x x := by unfold kl; omega
theorem kl_asymm {x y : Int × Int} (h : kl x y) : ¬ kl y x := by unfold kl at *; omega
theorem kl_trans {x y z : Int × Int} (h : kl x y) (h' : kl y z) : kl x z := by unfold kl at *; omega
theorem kl_or (x y : Int × Int) : kl x y ∨ x = y ∨ kl y x := by
  obtain ⟨a, b⟩ := x; obtain ⟨c, d⟩ := y
  unfold kl
  simp only [Prod.mk.injEq]
  omega
def Rises (L : List Ha) : Prop := L.Pairwise fun a b => kl a.key b.key
/-- the inode of a handle -/
def look (L : List Ha) (x : Int × Int) : Option Int := (L.find? fun a => decide (a.key = x)).map (·.i)
theorem key_inj {L : List Ha} (h : Rises L) {a b : Ha} (ha : a ∈ L) (hb : b ∈ L) (e : a.key = b.key) : a = b := by
  induction L with
  | nil => simp at ha
  | cons x L ih =>
    obtain ⟨h1, h2⟩ := List.pairwise_cons.1 h
    rcases List.mem_cons.1 ha with ha1 | ha1
    · rcases List.mem_cons.1 hb with hb1 | hb1
      · rw [ha1, hb1]
      · have := h1 b hb1; rw [← ha1, e] at this; exact absurd this (kl_irr _)
    · rcases List.mem_cons.1 hb with hb1 | hb1
      · have := h1 a ha1; rw [← hb1, e] at this; exact absurd this (kl_irr _)
      · exact ih h2 ha1 hb1
theorem look_iff {L : List Ha} (h : Rises L) (x : Int × Int) (i : Int) : look L x = some i ↔ (⟨x.1, x.2, i⟩ : Ha) ∈ L := by
  unfold look
  constructor
  · intro e
    obtain ⟨a, ha, rfl⟩ := Option.map_eq_some_iff.1 e
    have h1 := List.mem_of_find?_eq_some ha
    have h2 := List.find?_some ha
    simp only [decide_eq_true_eq] at h2
    subst h2
    exact h1
  · intro hm
    cases hf : L.find? (fun a => decide (a.key = x)) with
    | none =>
      have := List.find?_eq_none.1 hf _ hm
      simp [Ha.key] at this
    | some a =>
      have h1 := List.mem_of_find?_eq_some hf
      have h2 := List.find?_some hf
      simp only [decide_eq_true_eq] at h2
      have := key_inj h h1 hm (by rw [h2]; rfl)
      rw [this]; rfl
theorem look_none {L : List Ha} (x : Int × Int) : look L x = none ↔ ∀ a ∈ L, a.key ≠ x := by
  unfold look
  rw [Option.map_eq_none_iff, List.find?_eq_none]
  simp
/-- two such lists of the same handles are one -/
theorem rises_ext {L L' : List Ha} (h : Rises L) (h' : Rises L') (e : ∀ a, a ∈ L ↔ a ∈ L') : L = L' := by
  induction L generalizing L' with
  | nil =>
    cases L' with
    | nil => rfl
    | cons b L' => exact absurd ((e b).2 (by simp)) (by simp)
  | cons a L ih =>
    cases L' with
    | nil => exact absurd ((e a).1 (by simp)) (by simp)
    | cons b L' =>
      obtain ⟨h1, h2⟩ := List.pairwise_cons.1 h
      obtain ⟨h3, h4⟩ := List.pairwise_cons.1 h'
      have hab : a = b := by
        rcases List.mem_cons.1 ((e a).1 (by simp)) with rfl | ha
        · rfl
        · rcases List.mem_cons.1 ((e b).2 (by simp)) with rfl | hb
          · rfl
          · exact absurd (h3 a ha) (kl_asymm (h1 b hb))
      subst hab
      congr 1
      refine ih h2 h4 fun x => ⟨fun hx => ?_, fun hx => ?_⟩
      · rcases List.mem_cons.1 ((e x).1 (by simp [hx])) with rfl | hx'
        · exact absurd (h1 x hx) (kl_irr _)
        · exact hx'
      · rcases List.mem_cons.1 ((e x).2 (by simp [hx])) with rfl | hx'
        · exact absurd (h3 x hx) (kl_irr _)
        · exact hx'
/-- what stands ahead of a key; what does not -/
def low (L : List Ha) (x : Int × Int) : List Ha := L.takeWhile fun a => decide (kl a.key x)
def high (L : List Ha) (x : Int × Int) : List Ha := L.dropWhile fun a => decide (kl a.key x)
def ins (L : List Ha) (a : Ha) : List Ha := low L a.key ++ a :: high L a.key
theorem low_high (L : List Ha) (x : Int × Int) : low L x ++ high L x = L := List.takeWhile_append_dropWhile
theorem mem_ins (L : List Ha) (a x : Ha) : x ∈ ins L a ↔ x = a ∨ x ∈ L := by
  have h := low_high L a.key
  have : x ∈ L ↔ x ∈ low L a.key ∨ x ∈ high L a.key := by
    conv => lhs; rw [← h]
    exact List.mem_append
  unfold ins
  rw [List.mem_append, List.mem_cons, this]
  constructor
  · rintro (h | h | h)
    · exact .inr (.inl h)
    · exact .inl h
    · exact .inr (.inr h)
  · rintro (h | h | h)
    · exact .inr (.inl h)
    · exact .inl h
    · exact .inr (.inr h)
theorem mem_low {L : List Ha} {x : Int × Int} {a : Ha} (h : a ∈ low L x) : kl a.key x := by
  unfold low at h
  induction L with
  | nil => simp at h
  | cons b L ih =>
    rw [List.takeWhile_cons] at h
    split at h
    · rename_i hb
      rcases List.mem_cons.1 h with rfl | h
      · simpa using hb
      · exact ih h
    · simp at h
theorem mem_high {L : List Ha} (hL : Rises L) {x : Int × Int} {a : Ha} (h : a ∈ high L x) : ¬ kl a.key x := by
  unfold high at h
  induction L with
  | nil => simp at h
  | cons b L ih =>
    obtain ⟨h1, h2⟩ := List.pairwise_cons.1 hL
    rw [List.dropWhile_cons] at h
    split at h
    · exact ih h2 h
    · rename_i hb
      simp only [decide_eq_true_eq] at hb
      rcases List.mem_cons.1 h with rfl | h
      · exact hb
      · exact fun hk => hb (kl_trans (h1 a h) hk)
theorem rises_ins {L : List Ha} (h : Rises L) {a : Ha} (hn : look L a.key = none) : Rises (ins L a) := by
  have hlh := low_high L a.key
  have hp : (low L a.key ++ high L a.key).Pairwise fun a b => kl a.key b.key := by rw [hlh]; exact h
  obtain ⟨h1, h2, h3⟩ := List.pairwise_append.1 hp
  have hhi : ∀ b ∈ high L a.key, kl a.key b.key := fun b hb => by
    have hbL : b ∈ L := by rw [← hlh]; exact List.mem_append_right _ hb
    rcases kl_or a.key b.key with h | h | h
    · exact h
    · exact absurd h.symm ((look_none _).1 hn b hbL)
    · exact absurd h (mem_high ‹Rises L› hb)
  refine List.pairwise_append.2 ⟨h1, List.pairwise_cons.2 ⟨hhi, h2⟩, fun b hb c hc => ?_⟩
  rcases List.mem_cons.1 hc with rfl | hc
  · exact mem_low hb
  · exact h3 b hb c hc
theorem opt_ext {o o' : Option Int} (h : ∀ i, o = some i ↔ o' = some i) : o = o' := by
  cases o with
  | none => cases o' with
    | none => rfl
    | some j => exact absurd ((h j).2 rfl) (by simp)
  | some i => exact ((h i).1 rfl).symm
theorem look_ins {L : List Ha} (h : Rises L) {a : Ha} (hn : look L a.key = none) : look (ins L a) = fun z => if z = a.key then some a.i else look L z := by
  funext z
  refine opt_ext fun i => ?_
  rw [look_iff (rises_ins h hn), mem_ins]
  by_cases hz : z = a.key
  · subst hz
    rw [if_pos rfl]
    constructor
    · rintro (e | e)
      · rw [← e]
      · exact absurd rfl ((look_none _).1 hn ⟨a.c, a.n, i⟩ e)
    · intro e
      injection e with e
      subst e
      exact .inl rfl
  · rw [if_neg hz, look_iff h]
    constructor
    · rintro (e | e)
      · exact absurd (by rw [← e]; rfl) hz
      · exact e
    · exact .inr
/-- without one -/
def del (L : List Ha) (x : Int × Int) : List Ha := L.filter fun a => !decide (a.key = x)
theorem rises_filter {L : List Ha} (h : Rises L) (p : Ha → Bool) : Rises (L.filter p) := h.sublist List.filter_sublist
theorem look_filter {L : List Ha} (h : Rises L) (p : Ha → Bool) (z : Int × Int) : look (L.filter p) z = (look L z).filter fun i => p ⟨z.1, z.2, i⟩ := by
  refine opt_ext fun i => ?_
  rw [look_iff (rises_filter h p), List.mem_filter, Option.filter_eq_some_iff, look_iff h]
theorem look_del {L : List Ha} (h : Rises L) (x : Int × Int) : look (del L x) = fun z => if z = x then none else look L z := by
  funext z
  refine opt_ext fun i => ?_
  unfold del
  rw [look_iff (rises_filter h _), List.mem_filter]
  have hk : (⟨z.1, z.2, i⟩ : Ha).key = z := rfl
  rw [hk]
  by_cases hz : z = x
  · rw [if_pos hz]
    simp [hz]
  · rw [if_neg hz, look_iff h]
    simp [hz]
/-- how many a client has -/
def count (L : List Ha) (c : Int) : Nat := L.countP fun a => decide (a.c = c)
theorem low_length (L : List Ha) (x : Int × Int) : (low L x).length ≤ L.length := by
  conv => rhs; rw [← low_high L x]
  simp
end Go.Proofs.Ytjfdbcmmmoipcaa.HanP
