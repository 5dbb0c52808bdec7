/- The laws None and Plays of handle. -/
import Derived.Test.YtjfdbcmmmoipcaaHanWakes
import Derived.Test.YtjfdbcmmmoipcaaOpenN
namespace Go.Proofs.Ytjfdbcmmmoipcaa.HanW
open Go.RowKit Go.ChangeShapes Go.WideShapes Go.Deep
open HanP (Ha)
set_option maxHeartbeats 1600000 in
theorem none_walk (s : Stp) (W : World) : Calls Try.prog 6 #[.agg (stCells s)] W fun e w' => e = .returned (.bool true) ∧ Below W.heap.size W w' := by
  unfold stCells
  have HB := Lib.hid (below_alloc W (.cells (stCells s) 27))
  unfold stCells at HB
  go_enter Try.func6, Try.ntmps6
  go_wp2_with (first
    | (go_at_call 15; refine (nclose _ _ _).mono ?_; rintro e w2 ⟨rfl, rfl⟩)
    | (go_at_call 13; refine (nof _ _ _).mono ?_; rintro e w2 ⟨rfl, rfl⟩)
    | (go_at_call 10; refine (nopen _ _ _ _).mono ?_; rintro e w2 ⟨rfl, rfl⟩)
    | (go_at_call 16; refine (ncount _ _).mono ?_; rintro e w2 ⟨rfl, rfl⟩)
    | (go_at_call 9; refine (nrenew _ _ _).mono ?_; rintro e w2 ⟨rfl, rfl⟩)
    | (go_at_call 8; refine (nlease _ _).mono ?_; rintro e w2 ⟨rfl, rfl⟩)
    | (go_at_call 12; refine (nexpire _ _).mono ?_; rintro e w2 ⟨rfl, rfl⟩)
    | (go_at_call 11; refine (nall _).mono ?_; rintro e w2 ⟨rfl, rfl⟩)
    | (go_at_call 14; refine (wakes_any _).mono ?_; rintro e w2 ⟨rfl, hb2⟩; have HB2 := Lib.hid (bstep HB.out hb2); clear hb2))
  go_ret
  exact ⟨rfl, HB2.out⟩
section
variable {H : Type} {enc : TypeId × Value → H} {w : World} {base b0 : Nat} {spare : Nat → Bool} {held : Bool} {r : Reach} {v : Value} {d : DataW H} {p : List MemPlace}
theorem ints_five {cs : Array Value} {fs : Array Field} (f0 f1 f2 f3 f4 : Field) (he : fs = #[f0, f1, f2, f3, f4]) (h0 : Try.prog.underlying f0.type = some (.int .i64)) (h1 : Try.prog.underlying f1.type = some (.int .i64)) (h2 : Try.prog.underlying f2.type = some (.int .i64)) (h3 : Try.prog.underlying f3.type = some (.int .i64)) (h4 : Try.prog.underlying f4.type = some (.int .i64))
    (hf : ∀ (j : Nat) (f : Field), fs[j]? = some f → ∃ (u : Value) (n : Nat) (y : DataW H × List MemPlace), cs[j]? = some u ∧ DataW.trod enc Try.prog w base spare held n f.type [u] = some y) :
    ∃ s : Stp, cs[0]? = some (.int .i64 s.k) ∧ cs[1]? = some (.int .i64 s.c) ∧ cs[2]? = some (.int .i64 s.n) ∧ cs[3]? = some (.int .i64 s.i) ∧ cs[4]? = some (.int .i64 s.t) ∧ haOk (s.c, s.n) := by
  subst he
  obtain ⟨v0, n0, y0, c0, t0⟩ := hf 0 f0 rfl
  obtain ⟨v1, n1, y1, c1, t1⟩ := hf 1 f1 rfl
  obtain ⟨v2, n2, y2, c2, t2⟩ := hf 2 f2 rfl
  obtain ⟨v3, n3, y3, c3, t3⟩ := hf 3 f3 rfl
  obtain ⟨v4, n4, y4, c4, t4⟩ := hf 4 f4 rfl
  obtain ⟨z0, e0, _, w0⟩ := DataW.trod_int h0 t0
  obtain ⟨z1, e1, _, w1⟩ := DataW.trod_int h1 t1
  obtain ⟨z2, e2, _, w2⟩ := DataW.trod_int h2 t2
  obtain ⟨z3, e3, _, w3⟩ := DataW.trod_int h3 t3
  obtain ⟨z4, e4, _, w4⟩ := DataW.trod_int h4 t4
  obtain rfl : v0 = .int .i64 z0 := by simpa using e0
  obtain rfl : v1 = .int .i64 z1 := by simpa using e1
  obtain rfl : v2 = .int .i64 z2 := by simpa using e2
  obtain rfl : v3 = .int .i64 z3 := by simpa using e3
  obtain rfl : v4 = .int .i64 z4 := by simpa using e4
  exact ⟨⟨z0, z1, z2, z3, z4⟩, c0, c1, c2, c3, c4, w1, w2⟩
theorem open_step (hv : Value.okWide Try.prog w r b0 27 v) (h : DataW.Trod enc Try.prog w base spare held 27 v d p) : ∃ s : Stp, v = .agg (stCells s) ∧ haOk (s.c, s.n) := by
  obtain ⟨cs, rfl, hsz, hf⟩ := open_one Try.underlying27 (by kernel_rfl) (by kernel_rfl) hv h
  obtain ⟨s, c0, c1, c2, c3, c4, hk⟩ := ints_five _ _ _ _ _ rfl Try.underlying3 Try.underlying3 Try.underlying3 Try.underlying3 Try.underlying2 hf
  refine ⟨s, ?_, hk⟩
  congr 1
  simp only [List.size_toArray, List.length_cons, List.length_nil] at hsz
  apply Array.ext_getElem?
  intro j
  match j with
  | 0 => exact c0
  | 1 => exact c1
  | 2 => exact c2
  | 3 => exact c3
  | 4 => exact c4
  | j + 5 => rw [Array.getElem?_eq_none (by omega), Array.getElem?_eq_none (by simp [stCells])]
/-- steps that came in -/
structure Steps (w : World) (oa : Option Addr) (l : List Stp) : Prop where
  pts : KAt encSt 5 w.heap.size oa l w
  ok : ∀ s ∈ l, haOk (s.c, s.n)
theorem open_steps (hv : Value.okWide Try.prog w r b0 22 v) (h : DataW.Trod enc Try.prog w base spare held 22 v d p) :
    ∃ (oa : Option Addr) (cap : Nat) (l : List Stp), v = .slice oa l.length cap ∧ Steps w oa l ∧ l.length ≤ maxLen := by
  obtain ⟨oa, len, cap, rfl, hl, hm, hn, hi⟩ := open_rows Try.underlying22 Try.underlying27 (by kernel_rfl) (by kernel_rfl) hv h
  have key : ∀ i, ∃ s : Stp, haOk (s.c, s.n) ∧ (i < len → ∃ a, oa = some a ∧ a.block < w.heap.size ∧ ∀ j u, (encSt s)[j]? = some u → w.cell? (fieldOf (a.add (i * 5)) j) = some u) := by
    intro i
    by_cases hil : i < len
    · obtain ⟨a, n, ha, hf⟩ := hi i hil
      obtain ⟨u0, y0, c0, t0⟩ := hf 0 _ rfl
      obtain ⟨u1, y1, c1, t1⟩ := hf 1 _ rfl
      obtain ⟨u2, y2, c2, t2⟩ := hf 2 _ rfl
      obtain ⟨u3, y3, c3, t3⟩ := hf 3 _ rfl
      obtain ⟨u4, y4, c4, t4⟩ := hf 4 _ rfl
      obtain ⟨z0, e0, _, w0⟩ := DataW.trod_int Try.underlying3 t0
      obtain ⟨z1, e1, _, w1⟩ := DataW.trod_int Try.underlying3 t1
      obtain ⟨z2, e2, _, w2⟩ := DataW.trod_int Try.underlying3 t2
      obtain ⟨z3, e3, _, w3⟩ := DataW.trod_int Try.underlying3 t3
      obtain ⟨z4, e4, _, w4⟩ := DataW.trod_int Try.underlying2 t4
      obtain rfl : u0 = .int .i64 z0 := by simpa using e0
      obtain rfl : u1 = .int .i64 z1 := by simpa using e1
      obtain rfl : u2 = .int .i64 z2 := by simpa using e2
      obtain rfl : u3 = .int .i64 z3 := by simpa using e3
      obtain rfl : u4 = .int .i64 z4 := by simpa using e4
      refine ⟨⟨z0, z1, z2, z3, z4⟩, ⟨w1, w2⟩, fun _ => ⟨a, ha, ?_, ?_⟩⟩
      · have := World.block_lt_of_cell? _ _ c0
        rwa [add_block] at this
      · intro j u hj
        rw [← fieldOf_add]
        match j with
        | 0 => simp only [encSt, List.getElem?_cons_zero, Option.some.injEq] at hj; rw [← hj]; exact c0
        | 1 => simp only [encSt, List.getElem?_cons_succ, List.getElem?_cons_zero, Option.some.injEq] at hj; rw [← hj]; exact c1
        | 2 => simp only [encSt, List.getElem?_cons_succ, List.getElem?_cons_zero, Option.some.injEq] at hj; rw [← hj]; exact c2
        | 3 => simp only [encSt, List.getElem?_cons_succ, List.getElem?_cons_zero, Option.some.injEq] at hj; rw [← hj]; exact c3
        | 4 => simp only [encSt, List.getElem?_cons_succ, List.getElem?_cons_zero, Option.some.injEq] at hj; rw [← hj]; exact c4
        | j + 5 => simp [encSt] at hj
    · exact ⟨⟨0, 0, 0, 0, 0⟩, haOk_of (by decide) (by decide), fun h => absurd h hil⟩
  refine ⟨oa, cap, (List.range len).map (fun i => (key i).choose), by simp, ⟨?_, ?_⟩, by simp; omega⟩
  · intro i x hx
    have hil : i < len := by have := (List.getElem?_eq_some_iff.1 hx).1; simpa using this
    obtain rfl : (key i).choose = x := by simpa [hil] using hx
    exact (key i).choose_spec.2 hil
  · intro s hs
    obtain ⟨i, _, rfl⟩ := List.mem_map.1 hs
    exact (key i).choose_spec.1
end
theorem st_at {B : Nat} {oa : Option Addr} {l : List Stp} {w : World} (h : KAt encSt 5 B oa l w) {i : Nat} {x : Stp} (hx : l[i]? = some x) :
    ∃ a, oa = some a ∧ a.block < B ∧ w.cell? (a.add (i * 5)) = some (.int .i64 x.k) ∧ w.cell? ⟨(a.add (i * 5)).block, (a.add (i * 5)).off + 1, none⟩ = some (.int .i64 x.c) ∧ w.cell? ⟨(a.add (i * 5)).block, (a.add (i * 5)).off + 2, none⟩ = some (.int .i64 x.n) ∧ w.cell? ⟨(a.add (i * 5)).block, (a.add (i * 5)).off + 3, none⟩ = some (.int .i64 x.i) ∧ w.cell? ⟨(a.add (i * 5)).block, (a.add (i * 5)).off + 4, none⟩ = some (.int .i64 x.t) := by
  obtain ⟨a, h1, h2, h3⟩ := h i x hx
  exact ⟨a, h1, h2, h3 0 _ rfl, h3 1 _ rfl, h3 2 _ rfl, h3 3 _ rfl, h3 4 _ rfl⟩
end Go.Proofs.Ytjfdbcmmmoipcaa.HanW
