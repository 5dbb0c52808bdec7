/- Rows of structs of k cells of the call's own, by a list; what a sort makes of one. -/
import Derived.Test.YtappgelpigoknaaFrame
import Derived.Shelf.GgSortFunc.InsertionK
namespace Go.Proofs.Ytappgelpigoknaa
open Go.RowKit Go.Sort Go.Shelf
section
variable {α : Type} {enc : α → List Value} {k : Nat} {T : TypeId}
theorem flat_len (hk : ∀ x, (enc x).length = k) : ∀ l : List α, (l.flatMap enc).length = l.length * k
  | [] => by simp
  | x :: l => by rw [List.flatMap_cons, List.length_append, flat_len hk l, hk, List.length_cons, Nat.add_mul]; omega
theorem flat_get (hk : ∀ x, (enc x).length = k) (k0 : 0 < k) : ∀ (l : List α) (t : Nat), (l.flatMap enc)[t]? = (l[t / k]?).bind fun x => (enc x)[t % k]?
  | [], t => by simp
  | x :: l, t => by
    rw [List.flatMap_cons]
    by_cases h : t < k
    · rw [List.getElem?_append_left (by rw [hk]; exact h), Nat.div_eq_of_lt h, Nat.mod_eq_of_lt h]
      simp
    · rw [List.getElem?_append_right (by rw [hk]; omega), hk, flat_get hk k0 l (t - k)]
      have h1 : t / k = (t - k) / k + 1 := by
        conv => lhs; rw [show t = (t - k) + k by omega]
        rw [Nat.add_div_right _ k0]
      have h2 : t % k = (t - k) % k := by
        conv => lhs; rw [show t = (t - k) + k by omega]
        rw [Nat.add_mod_right]
      rw [h1, h2]
      simp
/-- a row of such structs, from block B on -/
def RowK (T : TypeId) (enc : α → List Value) (k B : Nat) (w : World) (v : Value) (l : List α) : Prop := w.ownsRow B T k v l.length (l.flatMap enc)
variable {B : Nat} {w : World} {v : Value} {l : List α}
theorem RowK.nil (B : Nat) (w : World) : RowK T enc k B w (.slice none 0 0) ([] : List α) := World.ownsRow_nil _ _ _ _
theorem RowK.form (h : RowK T enc k B w v l) : ∃ oa cap, v = .slice oa l.length cap ∧ l.length ≤ cap ∧ cap ≤ maxLen ∧ (oa = none → l.length = 0 ∧ cap = 0) := by
  rcases h.2 with ⟨rfl, h0⟩ | ⟨g, cap, cur, rfl, _, _, h1, h2, _⟩
  · exact ⟨none, 0, by rw [h0], by omega, by simp, fun _ => ⟨h0, rfl⟩⟩
  · exact ⟨_, _, rfl, h1, h2, fun e => by cases e⟩
theorem RowK.grow {w' : World} (h : RowK T enc k B w v l) (hb : Below w.heap.size w w') : RowK T enc k B w' v l :=
  World.ownsRow.kept h (row := none) ⟨hb.os, hb.tape, hb.output, hb.size, fun k hk _ => hb.block k hk⟩ (by
    cases hv : v.ownBlock with
    | none => exact .inl rfl
    | some k => exact .inr (by simp))
theorem RowK.mono {C : Nat} (h : RowK T enc k B w v l) (hb : C ≤ B) : RowK T enc k C w v l := by
  refine ⟨h.1, ?_⟩
  rcases h.2 with h2 | ⟨g, cap, cur, h1, h2, h3⟩
  · exact .inl h2
  · exact .inr ⟨g, cap, cur, h1, Nat.le_trans hb h2, h3⟩
theorem RowK.snoc {oa : Option Addr} {n cap : Nat} {cs : Array Value} (x : α) (hx : cs.toList = enc x) (hn : n = l.length) (h : w.ownsRow B T k (.slice oa (n + 1) cap) (n + 1) (l.flatMap enc ++ cs.toList)) : RowK T enc k B w (.slice oa (n + 1) cap) (l ++ [x]) := by
  subst hn
  unfold RowK
  rw [List.length_append, List.flatMap_append, List.flatMap_singleton, ← hx]
  exact h
/-- one element's cells -/
theorem RowK.at {oa : Option Addr} {n cap : Nat} (hk : ∀ x, (enc x).length = k) (k0 : 0 < k) (h : RowK T enc k B w (.slice oa n cap) l) {i : Nat} {x : α} (hx : l[i]? = some x) :
    ∃ g, oa = some ⟨g, 0, none⟩ ∧ B ≤ g ∧ g < w.heap.size ∧ ∀ (j : Nat) (u : Value), (enc x)[j]? = some u → w.cell? ⟨g, i * k + j, none⟩ = some u := by
  have hi : i < l.length := (List.getElem?_eq_some_iff.1 hx).1
  rcases h.2 with ⟨e, h0⟩ | ⟨g, cap', cur, e, h1, h2, h3, h4, h5, h6⟩
  · omega
  · simp only [Value.slice.injEq] at e
    obtain ⟨rfl, rfl, rfl⟩ := e
    refine ⟨g, rfl, h1, lt_of_block h2, fun j u hj => ?_⟩
    have hjk : j < k := by have := (List.getElem?_eq_some_iff.1 hj).1; rwa [hk] at this
    have hlt : i * k + j < l.length * k := Nat.lt_of_lt_of_le (Nat.add_lt_add_left hjk _) (by rw [← Nat.succ_mul]; exact Nat.mul_le_mul_right _ hi)
    have e1 : (l.flatMap enc)[i * k + j]? = some u := by
      rw [flat_get hk k0, Nat.mul_comm i k, Nat.mul_add_div k0, Nat.div_eq_of_lt hjk, Nat.add_zero, Nat.mul_add_mod, Nat.mod_eq_of_lt hjk, hx]
      exact hj
    rw [← h6, List.getElem?_take, if_pos hlt] at e1
    rw [Lib.cell_of_heap h2]
    simpa using e1
variable [Inhabited α]
theorem flatK_list (hk : ∀ x, (enc x).length = k) (k0 : 0 < k) (d : Array α) : (flatK enc k d).toList = d.toList.flatMap enc := by
  apply List.ext_getElem?
  intro t
  rw [flat_get hk k0]
  by_cases h : t < d.size * k
  · have hd : t / k < d.size := Nat.div_lt_of_lt_mul (by rwa [Nat.mul_comm])
    have hm : t % k < k := Nat.mod_lt _ k0
    have h1 : (flatK enc k d).toList[t]? = some (flatK enc k d)[t]! := by
      rw [Array.getElem?_toList, getElem!_pos _ t (by rw [size_flatK]; exact h), Array.getElem?_eq_getElem (by rw [size_flatK]; exact h)]
    rw [h1, get_flatK enc k d t h, Array.getElem?_toList, Array.getElem?_eq_getElem hd, getElem!_pos d _ hd]
    simp only [Option.bind_some]
    rw [List.getElem?_eq_getElem (by rw [hk]; exact hm), getElem!_pos _ _ (by rw [hk]; exact hm)]
  · rw [List.getElem?_eq_none (by simp only [Array.length_toList, size_flatK]; omega), List.getElem?_eq_none (by
      simp only [Array.length_toList]
      exact (Nat.le_div_iff_mul_le k0).2 (by omega))]
    rfl
/-- the row as the sort wants it -/
theorem RowK.holds {g n cap : Nat} (hk : ∀ x, (enc x).length = k) (k0 : 0 < k) (h : RowK T enc k B w (.slice (some ⟨g, 0, none⟩) n cap) l) : HoldsK enc k w g 0 l.toArray := by
  intro j hj
  rw [size_flatK] at hj
  have hj' : j < l.length * k := by simpa using hj
  rcases h.2 with ⟨e, h0⟩ | ⟨g', cap', cur, e, h1, h2, h3, h4, h5, h6⟩
  · cases e
  · simp only [Value.slice.injEq, Option.some.injEq, Addr.mk.injEq, and_true] at e
    obtain ⟨rfl, hn, rfl⟩ := e
    have hq : (flatK enc k l.toArray).toList = l.flatMap enc := by simpa using flatK_list hk k0 l.toArray
    have e1 : (l.flatMap enc)[j]? = some (flatK enc k l.toArray)[j]! := by
      rw [← hq, Array.getElem?_toList, getElem!_pos _ j (by rw [size_flatK]; simpa using hj'), Array.getElem?_eq_getElem (by rw [size_flatK]; simpa using hj')]
    rw [← h6, List.getElem?_take, if_pos hj'] at e1
    refine ⟨?_, Lib.frozen_of_heap h2 _⟩
    rw [Lib.cell_of_heap h2, Nat.zero_add]
    simpa using e1
/-- .. and behind it -/
theorem RowK.sorted {g n cap m : Nat} {os : Array Obj} {d : Array α} (hk : ∀ x, (enc x).length = k) (k0 : 0 < k) (h : RowK T enc k B w (.slice (some ⟨g, 0, none⟩) n cap) l) (hd : d.size = l.length) :
    RowK T enc k B (sortWorldK enc k w g 0 m d os) (.slice (some ⟨g, 0, none⟩) n cap) d.toList ∧ Only g w (sortWorldK enc k w g 0 m d os) := by
  rcases h.2 with ⟨e, h0⟩ | ⟨g', cap', cur, e, h1, h2, h3, h4, h5, h6⟩
  · cases e
  · simp only [Value.slice.injEq, Option.some.injEq, Addr.mk.injEq, and_true] at e
    obtain ⟨rfl, hn, rfl⟩ := e
    have hlt := lt_of_block h2
    have hq := flatK_list hk k0 d
    refine ⟨⟨by rw [flat_len hk], .inr ⟨g, cap, putCells id 0 (flatK enc k d) cur, by rw [hn, Array.length_toList]; simp [hd], h1, ?_, by rw [Array.length_toList, hd]; exact h3, h4, by simp [putCells, h5], ?_⟩⟩, ?_⟩
    · unfold sortWorldK putRowK Sort.grow
      show ((putRow id (Sort.ahead w m) g 0 (flatK enc k d)).heap ++ os)[g]? = _
      rw [Array.getElem?_append_left (by simpa using hlt)]
      simp [putRow, mapBlock, onCells, Sort.ahead, Array.getElem?_modify, h2]
    · rw [← hq]
      have hs : (flatK enc k d).size ≤ cur.size := by
        rw [size_flatK, h5, hd]; exact Nat.mul_le_mul_right _ h3
      apply List.ext_getElem?
      intro j
      by_cases hj : j < d.toList.length * k
      · rw [List.getElem?_take, if_pos hj, Array.getElem?_toList, Array.getElem?_toList]
        have hj2 : j < (flatK enc k d).size := by rw [size_flatK]; simpa using hj
        have hjd : j < d.size * k := by simpa using hj
        simp [putCells, hjd, show j < cur.size by omega]
      · rw [List.getElem?_take, if_neg hj, List.getElem?_eq_none]
        simp only [Array.length_toList, size_flatK]
        simpa using hj
    · refine ⟨rfl, rfl, rfl, ?_, fun i hi hne => ?_⟩
      · simp [sortWorldK, putRowK]
      · have : g ≠ i := fun e => hne (by rw [e])
        unfold sortWorldK putRowK Sort.grow
        show ((putRow id (Sort.ahead w m) g 0 (flatK enc k d)).heap ++ os)[i]? = _
        rw [Array.getElem?_append_left (by simpa using hi)]
        simp [putRow, mapBlock, Sort.ahead, Array.getElem?_modify, this]
end
end Go.Proofs.Ytappgelpigoknaa
