/- Rows of parts in memory: what is read, what is put in place, what is appended. -/
import Derived.Test.YtappgelpigoknaaExtGood
import Derived.Test.YtappgelpigoknaaExtPlan
import Derived.Test.YtappgelpigoknaaAppend
import Derived.Test.YtappgelpigoknaaOpen
namespace Go.Proofs.Ytappgelpigoknaa.ExtW
open Go.RowKit
def cellsOf (l : List Pt) : List Value := l.flatMap fun x => [.int .i64 x.o, .int .i64 x.n, .int .i64 x.a, .int .i64 x.f]
theorem cells_len : ∀ l : List Pt, (cellsOf l).length = l.length * 4
  | [] => rfl
  | x :: l => by
    have := cells_len l
    unfold cellsOf at this ⊢
    rw [List.flatMap_cons, List.length_append, this, List.length_cons]
    simp; omega
theorem cells_app (l l' : List Pt) : cellsOf (l ++ l') = cellsOf l ++ cellsOf l' := by unfold cellsOf; simp
theorem cells_one (x : Pt) : cellsOf [x] = [.int .i64 x.o, .int .i64 x.n, .int .i64 x.a, .int .i64 x.f] := rfl
theorem cells_at {l : List Pt} {i : Nat} {x : Pt} (h : l[i]? = some x) : (cellsOf l)[i * 4]? = some (.int .i64 x.o) ∧ (cellsOf l)[i * 4 + 1]? = some (.int .i64 x.n) ∧ (cellsOf l)[i * 4 + 2]? = some (.int .i64 x.a) ∧ (cellsOf l)[i * 4 + 3]? = some (.int .i64 x.f) := by
  obtain ⟨hi, rfl⟩ := List.getElem?_eq_some_iff.1 h
  have e : l = l.take i ++ [l[i]] ++ l.drop (i + 1) := by
    rw [List.take_append_getElem]
    exact (List.take_append_drop (i + 1) l).symm
  have hlen : (cellsOf (l.take i)).length = i * 4 := by
    rw [cells_len, List.length_take, Nat.min_eq_left (by omega)]
  have key : ∀ j, j < 4 → (cellsOf l)[i * 4 + j]? = ([.int .i64 l[i].o, .int .i64 l[i].n, .int .i64 l[i].a, .int .i64 l[i].f] : List Value)[j]? := by
    intro j hj
    have e2 : cellsOf l = cellsOf (l.take i) ++ ([.int .i64 l[i].o, .int .i64 l[i].n, .int .i64 l[i].a, .int .i64 l[i].f] ++ cellsOf (l.drop (i + 1))) := by
      conv => lhs; rw [e]
      rw [cells_app, cells_app, cells_one, List.append_assoc]
    rw [e2, List.getElem?_append_right (by omega), hlen, Nat.add_sub_cancel_left, List.getElem?_append_left (by simpa using hj)]
  exact ⟨key 0 (by omega), key 1 (by omega), key 2 (by omega), key 3 (by omega)⟩
/-- a row of parts of the call's own, from block B on -/
def Row (B : Nat) (w : World) (v : Value) (l : List Pt) : Prop := w.ownsRow B 40 4 v l.length (cellsOf l)
theorem Row.nil (B : Nat) (w : World) : Row B w (.slice none 0 0) [] := World.ownsRow_nil _ _ _ _
theorem Row.form {B : Nat} {w : World} {v : Value} {l : List Pt} (h : Row B w v l) : ∃ oa cap, v = .slice oa l.length cap ∧ l.length ≤ cap ∧ cap ≤ maxLen ∧ (oa = none → l.length = 0 ∧ cap = 0) := by
  rcases h.2 with ⟨rfl, h0⟩ | ⟨g, cap, cur, rfl, _, _, h1, h2, _⟩
  · exact ⟨none, 0, by rw [h0], by omega, by simp, fun _ => ⟨h0, rfl⟩⟩
  · exact ⟨_, _, rfl, h1, h2, fun e => by cases e⟩
theorem Row.grow {B : Nat} {w w' : World} {v : Value} {l : List Pt} (h : Row B w v l) (hb : Below w.heap.size w w') : Row B w' v l :=
  World.ownsRow.kept h (row := none) ⟨hb.os, hb.tape, hb.output, hb.size, fun k hk _ => hb.block k hk⟩ (by
    cases hv : v.ownBlock with
    | none => exact .inl rfl
    | some k => exact .inr (by simp))
theorem Row.mono {B C : Nat} {w : World} {v : Value} {l : List Pt} (h : Row B w v l) (hb : C ≤ B) : Row C w v l := by
  refine ⟨h.1, ?_⟩
  rcases h.2 with h2 | ⟨g, cap, cur, h1, h2, h3⟩
  · exact .inl h2
  · exact .inr ⟨g, cap, cur, h1, Nat.le_trans hb h2, h3⟩
theorem add_at (g i : Nat) : (⟨g, 0, none⟩ : Addr).add i = ⟨g, i, none⟩ := by
  unfold Addr.add; split
  · rename_i h; rw [h]
  · simp
theorem row_cell {B : Nat} {w : World} {oa : Option Addr} {n cap : Nat} {l : List Pt} (h : Row B w (.slice oa n cap) l) {i : Nat} {x : Pt} (hx : l[i]? = some x) :
    ∃ g cur, oa = some ⟨g, 0, none⟩ ∧ B ≤ g ∧ g < w.heap.size ∧ w.heap[g]? = some (.cells cur 40 (0, 0)) ∧ n = l.length ∧ cur.size = cap * 4 ∧ n ≤ cap ∧ cap ≤ maxLen ∧ cur.toList.take (n * 4) = cellsOf l ∧ i < l.length ∧
      cur[i * 4]? = some (.int .i64 x.o) ∧ cur[i * 4 + 1]? = some (.int .i64 x.n) ∧ cur[i * 4 + 2]? = some (.int .i64 x.a) ∧ cur[i * 4 + 3]? = some (.int .i64 x.f) := by
  have hi : i < l.length := (List.getElem?_eq_some_iff.1 hx).1
  rcases h.2 with ⟨e, h0⟩ | ⟨g, cap', cur, e, h1, h2, h3, h4, h5, h6⟩
  · omega
  · simp only [Value.slice.injEq] at e
    obtain ⟨rfl, rfl, rfl⟩ := e
    obtain ⟨c0, c1, c2, c3⟩ := cells_at hx
    have key : ∀ (j : Nat) (v : Value), (cellsOf l)[j]? = some v → cur[j]? = some v := by
      intro j v hv
      have hj : j < (cellsOf l).length := (List.getElem?_eq_some_iff.1 hv).1
      rw [cells_len] at hj
      rw [← h6, List.getElem?_take, if_pos (by omega)] at hv
      simpa using hv
    exact ⟨g, cur, rfl, h1, lt_of_block h2, h2, rfl, h5, h3, h4, h6, hi, key _ _ c0, key _ _ c1, key _ _ c2, key _ _ c3⟩
theorem Row.pts {B : Nat} {w : World} {oa : Option Addr} {n cap : Nat} {l : List Pt} (h : Row B w (.slice oa n cap) l) : PtsAt w.heap.size oa l w := by
  intro i x hx
  obtain ⟨g, cur, rfl, _, hg, hb, _, _, _, _, _, _, c0, c1, c2, c3⟩ := row_cell h hx
  refine ⟨_, rfl, hg, ?_, ?_, ?_, ?_⟩
  all_goals
    rw [add_at, Lib.cell_of_heap hb]
    assumption
theorem Row.free {B : Nat} {w : World} {oa : Option Addr} {n cap : Nat} {l : List Pt} (h : Row B w (.slice oa n cap) l) {i : Nat} {x : Pt} (hx : l[i]? = some x) : ∃ a, oa = some a ∧ B ≤ a.block ∧ a.block < w.heap.size ∧ ∀ j, w.frozen? ⟨(a.add (i * 4)).block, (a.add (i * 4)).off + j, none⟩ = false := by
  obtain ⟨g, cur, rfl, h1, hg, hb, _⟩ := row_cell h hx
  refine ⟨_, rfl, h1, hg, fun j => ?_⟩
  rw [add_at]
  exact Lib.frozen_of_heap hb _
/-- the last part's length set anew -/
theorem Row.put {B : Nat} {w : World} {a : Addr} {n cap : Nat} {l : List Pt} {p : Pt} (h : Row B w (.slice (some a) n cap) (l ++ [p])) (k : Int) :
    Row B (w.setCell ⟨(a.add (l.length * 4)).block, (a.add (l.length * 4)).off + 1, none⟩ (.int .i64 k)) (.slice (some a) n cap) (l ++ [⟨p.o, k, p.a, p.f⟩]) := by
  obtain ⟨g, cur, e, h1, hg, hb, hn, h5, h3, h4, h6, hi, c0, c1, c2, c3⟩ := row_cell h (i := l.length) (x := p) (by simp)
  obtain rfl : a = ⟨g, 0, none⟩ := by simpa using e
  rw [add_at]
  refine ⟨by rw [cells_len], .inr ⟨g, cap, cur.setIfInBounds (l.length * 4 + 1) (.int .i64 k), by rw [hn]; simp, h1, ?_, ?_, h4, by simpa using h5, ?_⟩⟩
  · simp [World.setCell, Array.getElem?_modify, hb]
  · simp at hn ⊢; omega
  · rw [Array.toList_setIfInBounds]
    have hn' : n = l.length + 1 := by simpa using hn
    rw [hn'] at h6
    simp only [List.length_append, List.length_cons, List.length_nil]
    rw [List.take_set, h6, cells_app, cells_app, cells_one, cells_one]
    have hlen : (cellsOf l).length = l.length * 4 := cells_len l
    rw [List.set_append_right _ _ (by omega), hlen]
    simp
theorem Row.snoc {B : Nat} {w : World} {oa : Option Addr} {cap : Nat} {l : List Pt} (x : Pt)
    (h : w.ownsRow B 40 4 (.slice oa (l.length + 1) cap) (l.length + 1) (cellsOf l ++ (#[Value.int .i64 x.o, .int .i64 x.n, .int .i64 x.a, .int .i64 x.f] : Array Value).toList)) : Row B w (.slice oa (l.length + 1) cap) (l ++ [x]) := by
  unfold Row
  rw [List.length_append, cells_app, cells_one]
  exact h
theorem cells_onecell (l : List Pt) : ∀ u ∈ cellsOf l, u.oneCell' = true := by
  intro u hu
  unfold cellsOf at hu
  obtain ⟨x, _, hx⟩ := List.mem_flatMap.1 hu
  simp only [List.mem_cons, List.not_mem_nil, or_false] at hx
  rcases hx with rfl | rfl | rfl | rfl <;> rfl
theorem partinfo : (Try.prog.info? 40).map (fun i => (i.zero, i.size, i.bytes)) = some (some (.agg #[.int .i64 0, .int .i64 0, .int .i64 0, .int .i64 0]), 4, 32) := by kernel_rfl
/-- the cells of parts, at an address -/
theorem pts_news {B : Nat} {oa : Option Addr} {l : List Pt} {w : World} (h : PtsAt B oa l w) : ∀ ad, oa = some ad → ∀ j u, (cellsOf l)[j]? = some u → w.cell? (ad.add j) = some u := by
  intro ad e j u hu
  have hj : j < (cellsOf l).length := (List.getElem?_eq_some_iff.1 hu).1
  rw [cells_len] at hj
  obtain ⟨x, hx⟩ : ∃ x, l[j / 4]? = some x := ⟨_, List.getElem?_eq_getElem (by omega)⟩
  obtain ⟨a, e', _, d0, d1, d2, d3⟩ := h _ _ hx
  obtain rfl : ad = a := by rw [e] at e'; simpa using e'
  obtain ⟨c0, c1, c2, c3⟩ := cells_at hx
  have hm : j % 4 = 0 ∨ j % 4 = 1 ∨ j % 4 = 2 ∨ j % 4 = 3 := by omega
  rcases hm with m | m | m | m
  · have ej : j = j / 4 * 4 := by omega
    rw [ej] at hu ⊢
    rw [c0] at hu; injection hu with hu; rw [← hu]; exact d0
  · have ej : j = j / 4 * 4 + (0 + 1) := by omega
    rw [ej] at hu ⊢
    rw [show j / 4 * 4 + (0 + 1) = j / 4 * 4 + 1 from rfl] at hu
    rw [c1] at hu; injection hu with hu; rw [← hu, add_field]; exact d1
  · have ej : j = j / 4 * 4 + (1 + 1) := by omega
    rw [ej] at hu ⊢
    rw [show j / 4 * 4 + (1 + 1) = j / 4 * 4 + 2 from rfl] at hu
    rw [c2] at hu; injection hu with hu; rw [← hu, add_field]; exact d2
  · have ej : j = j / 4 * 4 + (2 + 1) := by omega
    rw [ej] at hu ⊢
    rw [show j / 4 * 4 + (2 + 1) = j / 4 * 4 + 3 from rfl] at hu
    rw [c3] at hu; injection hu with hu; rw [← hu, add_field]; exact d3
end Go.Proofs.Ytappgelpigoknaa.ExtW
