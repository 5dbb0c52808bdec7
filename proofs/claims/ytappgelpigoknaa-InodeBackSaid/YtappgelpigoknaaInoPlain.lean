/- Inodes as a list that rises by number: plain laws. -/
import Derived.Test.YtappgelpigoknaaSl
import Derived.Test.YtappgelpigoknaaExtPlan
namespace Go.Proofs.Ytappgelpigoknaa.InoP
open ExtW (Pt endL)
/-- an inode -/
structure Ino where
  i : Int
  k : Int
  l : Int
  o : Int
  s : Int
  p : List Pt
deriving DecidableEq
def Rises (L : List Ino) : Prop := L.Pairwise fun a b => a.i < b.i
def find (L : List Ino) (i : Int) : Option Ino := L.find? fun a => decide (a.i = i)
def upd (L : List Ino) (x : Ino) : List Ino := L.map fun a => if a.i = x.i then x else a
def del (L : List Ino) (i : Int) : List Ino := L.filter fun a => !decide (a.i = i)
theorem find_mem {L : List Ino} {i : Int} {x : Ino} (h : find L i = some x) : x ∈ L ∧ x.i = i :=
  ⟨List.mem_of_find?_eq_some h, by simpa using List.find?_some h⟩
theorem find_none {L : List Ino} {i : Int} : find L i = none ↔ ∀ a ∈ L, a.i ≠ i := by
  unfold find; rw [List.find?_eq_none]; simp
theorem find_of_mem : ∀ {L : List Ino}, Rises L → ∀ {x : Ino}, x ∈ L → find L x.i = some x
  | [], _, x, hx => by simp at hx
  | a :: L, h, x, hx => by
    obtain ⟨h1, h2⟩ := List.pairwise_cons.1 h
    unfold find
    rw [List.find?_cons]
    rcases List.mem_cons.1 hx with rfl | hx
    · simp
    · have := h1 x hx
      rw [show decide (a.i = x.i) = false from decide_eq_false (by omega)]
      exact find_of_mem h2 hx
theorem find_iff {L : List Ino} (h : Rises L) {i : Int} {x : Ino} : find L i = some x ↔ x ∈ L ∧ x.i = i :=
  ⟨find_mem, fun ⟨h1, h2⟩ => by rw [← h2]; exact find_of_mem h h1⟩
theorem find_snoc (L : List Ino) (x : Ino) (h : find L x.i = none) : find (L ++ [x]) = fun z => if z = x.i then some x else find L z := by
  funext z
  unfold find at *
  rw [List.find?_append]
  by_cases hz : z = x.i
  · subst hz
    rw [h, if_pos rfl]; simp
  · rw [if_neg hz]
    have : List.find? (fun a => decide (a.i = z)) [x] = none := by simp [Ne.symm hz]
    rw [this]; simp
theorem find_upd (L : List Ino) (x y : Ino) (h : find L x.i = some y) : find (upd L x) = fun z => if z = x.i then some x else find L z := by
  funext z
  unfold find upd at *
  induction L with
  | nil => simp at h
  | cons a L ih =>
    rw [List.map_cons, List.find?_cons]
    rw [List.find?_cons] at h
    by_cases ha : a.i = x.i
    · rw [if_pos ha]
      by_cases hz : z = x.i
      · rw [if_pos hz, show decide (x.i = z) = true from decide_eq_true hz.symm]
      · rw [if_neg hz, show decide (x.i = z) = false from decide_eq_false (fun e => hz e.symm)]
        rw [List.find?_cons, show decide (a.i = z) = false from decide_eq_false (fun e => hz (by rw [← e, ha]))]
        clear ih h
        induction L with
        | nil => rfl
        | cons b L ih =>
          rw [List.map_cons, List.find?_cons, List.find?_cons]
          by_cases hb : b.i = x.i
          · rw [if_pos hb, show decide (x.i = z) = false from decide_eq_false (fun e => hz e.symm), show decide (b.i = z) = false from decide_eq_false (fun e => hz (by rw [← e, hb]))]
            exact ih
          · rw [if_neg hb]
            cases decide (b.i = z) with
            | true => rfl
            | false => exact ih
    · rw [show decide (a.i = x.i) = false from decide_eq_false ha] at h
      rw [if_neg ha, List.find?_cons]
      by_cases hz : a.i = z
      · rw [show decide (a.i = z) = true from decide_eq_true hz, if_neg (by rw [← hz]; exact ha)]
      · rw [show decide (a.i = z) = false from decide_eq_false hz]
        exact ih h
theorem find_del (L : List Ino) (i : Int) : find (del L i) = fun z => if z = i then none else find L z := by
  funext z
  unfold find del
  induction L with
  | nil => simp
  | cons a L ih =>
    by_cases ha : a.i = i
    · rw [List.filter_cons_of_neg (by simp [ha]), ih, List.find?_cons]
      by_cases hz : z = i
      · rw [if_pos hz, if_pos hz]
      · rw [if_neg hz, if_neg hz, show decide (a.i = z) = false from decide_eq_false (fun e => hz (by rw [← e, ha]))]
    · rw [List.filter_cons_of_pos (by simp [ha]), List.find?_cons, List.find?_cons, ih]
      by_cases hz : z = i
      · rw [show decide (a.i = z) = false from decide_eq_false (by rw [hz]; exact ha)]
      · simp only [if_neg hz]
theorem upd_keys (L : List Ino) (x : Ino) : (upd L x).map (·.i) = L.map (·.i) := by
  unfold upd
  rw [List.map_map]
  refine List.map_congr_left fun a _ => ?_
  simp only [Function.comp]
  split
  · rename_i h; exact h.symm
  · rfl
theorem rises_keys (L : List Ino) : Rises L ↔ (L.map (·.i)).Pairwise (· < ·) := by unfold Rises; rw [List.pairwise_map]
theorem upd_rises {L : List Ino} (h : Rises L) (x : Ino) : Rises (upd L x) := by rw [rises_keys, upd_keys, ← rises_keys]; exact h
theorem del_rises {L : List Ino} (h : Rises L) (i : Int) : Rises (del L i) := h.sublist List.filter_sublist
theorem upd_len (L : List Ino) (x : Ino) : (upd L x).length = L.length := by unfold upd; simp
theorem del_len (L : List Ino) (i : Int) : (del L i).length ≤ L.length := List.length_filter_le _ _
theorem upd_mem {L : List Ino} {x a : Ino} (h : a ∈ upd L x) : a = x ∨ a ∈ L := by
  unfold upd at h
  obtain ⟨b, hb, e⟩ := List.mem_map.1 h
  split at e
  · exact .inl e.symm
  · exact .inr (e ▸ hb)
theorem del_mem {L : List Ino} {i : Int} {a : Ino} (h : a ∈ del L i) : a ∈ L ∧ a.i ≠ i := by
  unfold del at h
  have := List.mem_filter.1 h
  exact ⟨this.1, by simpa using this.2⟩
/-- an inode may be so -/
structure IGood (x : Ino) : Prop where
  kind : x.k = 1 ∨ x.k = 2
  l : 0 ≤ x.l ∧ x.l ≤ 8
  o : 0 ≤ x.o ∧ x.o ≤ 128
  s : 0 ≤ x.s ∧ x.s ≤ 8192
  p : ExtW.Good x.p
  e : endL x.p ≤ x.s
  dir : x.k = 1 → x.o = 0 ∧ x.s = 0 ∧ x.p = []
/-- .. a table -/
structure TGood (L : List Ino) (next : Int) : Prop where
  rises : Rises L
  all : ∀ x ∈ L, IGood x
  num : ∀ x ∈ L, 1 ≤ x.i ∧ x.i < next
  len : L.length ≤ 64
  next : 2 ≤ next ∧ next ≤ 2147483647
theorem TGood.upd {L : List Ino} {next : Int} (h : TGood L next) {x y : Ino} (hf : find L x.i = some y) (hx : IGood x) : TGood (upd L x) next where
  rises := upd_rises h.rises x
  all a ha := by
    rcases upd_mem ha with rfl | ha
    · exact hx
    · exact h.all a ha
  num a ha := by
    rcases upd_mem ha with rfl | ha
    · obtain ⟨h1, h2⟩ := find_mem hf
      rw [← h2]; exact h.num _ h1
    · exact h.num a ha
  len := by rw [upd_len]; exact h.len
  next := h.next
theorem TGood.del {L : List Ino} {next : Int} (h : TGood L next) (i : Int) : TGood (del L i) next where
  rises := del_rises h.rises i
  all a ha := h.all a (del_mem ha).1
  num a ha := h.num a (del_mem ha).1
  len := Nat.le_trans (del_len L i) h.len
  next := h.next
theorem TGood.find_next {L : List Ino} {next : Int} (h : TGood L next) : find L next = none :=
  find_none.2 fun a ha => by have := h.num a ha; omega
theorem fresh_good (i k : Int) (hk : k = 1 ∨ k = 2) : IGood ⟨i, k, 0, 0, 0, []⟩ :=
  ⟨hk, by simp, by simp, by simp, (by decide : ExtW.Good []), (by decide : endL [] ≤ 0), fun _ => ⟨rfl, rfl, rfl⟩⟩
theorem TGood.snoc {L : List Ino} {next : Int} (h : TGood L next) {k : Int} (hk : k = 1 ∨ k = 2) (hl : L.length < 64) (hn : next < 2147483647) : TGood (L ++ [⟨next, k, 0, 0, 0, []⟩]) (next + 1) where
  rises := by
    unfold Rises
    rw [List.pairwise_append]
    refine ⟨h.rises, by simp, fun a ha b hb => ?_⟩
    simp only [List.mem_singleton] at hb
    subst hb
    exact (h.num a ha).2
  all a ha := by
    rcases List.mem_append.1 ha with ha | ha
    · exact h.all a ha
    · simp only [List.mem_singleton] at ha
      subst ha; exact fresh_good _ _ hk
  num a ha := by
    rcases List.mem_append.1 ha with ha | ha
    · have := h.num a ha; omega
    · simp only [List.mem_singleton] at ha
      have := h.next
      subst ha
      show 1 ≤ next ∧ next < next + 1
      omega
  len := by simp; omega
  next := by have := h.next; omega
def root : Ino := ⟨1, 1, 1, 0, 0, []⟩
theorem root_good : TGood [root] 2 where
  rises := List.pairwise_singleton _ _
  all a ha := by
    simp only [List.mem_singleton] at ha
    subst ha
    exact ⟨.inl rfl, by decide, by decide, by decide, by decide, by decide, fun _ => ⟨rfl, rfl, rfl⟩⟩
  num a ha := by
    simp only [List.mem_singleton] at ha
    subst ha
    decide
  len := by simp
  next := by decide
/-- by place -/
theorem upd_place {L : List Ino} (h : Rises L) {k : Nat} {y x : Ino} (hk : L[k]? = some y) (e : x.i = y.i) : upd L x = L.set k x := by
  apply List.ext_getElem?
  intro j
  unfold upd
  rw [List.getElem?_map, List.getElem?_set]
  obtain ⟨hkl, hky⟩ := List.getElem?_eq_some_iff.1 hk
  by_cases hj : k = j
  · subst hj
    rw [if_pos rfl, if_pos hkl, hk]
    simp [e]
  · rw [if_neg hj]
    cases hc : L[j]? with
    | none => rfl
    | some a =>
      obtain ⟨hjl, hja⟩ := List.getElem?_eq_some_iff.1 hc
      have hne : a.i ≠ x.i := by
        rw [e, ← hja, ← hky]
        rcases Nat.lt_or_gt_of_ne hj with hlt | hgt
        · have := List.pairwise_iff_getElem.1 h k j hkl hjl hlt; omega
        · have := List.pairwise_iff_getElem.1 h j k hjl hkl hgt; omega
      simp [hne]
theorem del_place {L : List Ino} (h : Rises L) {k : Nat} {y : Ino} (hk : L[k]? = some y) : del L y.i = L.take k ++ L.drop (k + 1) := by
  obtain ⟨hkl, hky⟩ := List.getElem?_eq_some_iff.1 hk
  have e : L = L.take k ++ y :: L.drop (k + 1) := by rw [← hky, List.getElem_cons_drop, List.take_append_drop]
  have hp : Rises (L.take k ++ y :: L.drop (k + 1)) := e ▸ h
  unfold Rises at hp
  rw [List.pairwise_append, List.pairwise_cons] at hp
  obtain ⟨_, ⟨h2, _⟩, h3⟩ := hp
  have h4 : del L y.i = del (L.take k ++ y :: L.drop (k + 1)) y.i := congrArg (fun l => del l y.i) e
  rw [h4]
  unfold del
  rw [List.filter_append, List.filter_cons_of_neg (by simp)]
  rw [List.filter_eq_self.2 fun a ha => ?_, List.filter_eq_self.2 fun a ha => ?_]
  · have := h2 a ha; simp; omega
  · have := h3 a ha y (by simp); simp; omega
end Go.Proofs.Ytappgelpigoknaa.InoP
