/- Parts and texts that came in. -/
import Derived.Test.YthnkpoagpjnopaaDoorMovBuild
import Derived.Test.YthnkpoagpjnopaaDoorOpenN
import Derived.Test.YthnkpoagpjnopaaDoorLaw
namespace Go.Proofs.YthnkpoagpjnopaaDoor.MovW
set_option maxRecDepth 100000
open Go.RowKit Go.ChangeShapes Go.WideShapes Go.Deep MovP ExtW
section
variable {H : Type} {enc : TypeId × Value → H} {w : World} {base b0 : Nat} {spare : Nat → Bool} {held : Bool} {r : Reach} {v : Value} {d : DataW H} {p : List MemPlace}
theorem open_pts (hv : Value.okWide Tryd.prog w r b0 23 v) (h : DataW.Trod enc Tryd.prog w base spare held 23 v d p) :
    ∃ (oa : Option Addr) (cap : Nat) (l : List Pt) (_ : ∀ x ∈ l, PtOk x) (_ : oa = none → l.length = 0 ∧ cap = 0), v = .slice oa l.length cap ∧ PtsAt w.heap.size oa l w := by
  obtain ⟨oa, len, cap, rfl, hl, hm, hn, hi⟩ := open_rows Tryd.underlying23 Tryd.underlying64 (by kernel_rfl) (by kernel_rfl) hv h
  have key : ∀ i, ∃ x : Pt, PtOk x ∧ (i < len → ∃ a, oa = some a ∧ a.block < w.heap.size ∧ w.cell? (a.add (i * 4)) = some (.int .i64 x.o) ∧ w.cell? ⟨(a.add (i * 4)).block, (a.add (i * 4)).off + 1, none⟩ = some (.int .i64 x.n) ∧
      w.cell? ⟨(a.add (i * 4)).block, (a.add (i * 4)).off + 2, none⟩ = some (.int .i64 x.a) ∧ w.cell? ⟨(a.add (i * 4)).block, (a.add (i * 4)).off + 3, none⟩ = some (.int .i64 x.f)) := by
    intro i
    by_cases hil : i < len
    · obtain ⟨a, n, ha, hf⟩ := hi i hil
      obtain ⟨u0, y0, c0, t0⟩ := hf 0 _ rfl
      obtain ⟨u1, y1, c1, t1⟩ := hf 1 _ rfl
      obtain ⟨u2, y2, c2, t2⟩ := hf 2 _ rfl
      obtain ⟨u3, y3, c3, t3⟩ := hf 3 _ rfl
      obtain ⟨z0, e0, _, w0⟩ := DataW.trod_int Tryd.underlying3 t0
      obtain ⟨z1, e1, _, w1⟩ := DataW.trod_int Tryd.underlying3 t1
      obtain ⟨z2, e2, _, w2⟩ := DataW.trod_int Tryd.underlying3 t2
      obtain ⟨z3, e3, _, w3⟩ := DataW.trod_int Tryd.underlying3 t3
      obtain rfl : u0 = .int .i64 z0 := by simpa using e0
      obtain rfl : u1 = .int .i64 z1 := by simpa using e1
      obtain rfl : u2 = .int .i64 z2 := by simpa using e2
      obtain rfl : u3 = .int .i64 z3 := by simpa using e3
      refine ⟨⟨z0, z1, z2, z3⟩, ⟨w0, w1, w2, w3⟩, fun _ => ⟨a, ha, ?_, ?_, ?_, ?_, ?_⟩⟩
      · have := World.block_lt_of_cell? _ _ c0
        rwa [add_block] at this
      · exact c0
      · have := c1; rw [fieldOf_add] at this; exact this
      · have := c2; rw [fieldOf_add] at this; exact this
      · have := c3; rw [fieldOf_add] at this; exact this
    · have z : (Lit.int .i64 0).wf = true := by decide
      exact ⟨⟨0, 0, 0, 0⟩, ⟨z, z, z, z⟩, fun h => absurd h hil⟩
  refine ⟨oa, cap, (List.range len).map (fun i => (key i).choose), fun x hx => ?_, fun e => ?_, by simp, fun i x hx => ?_⟩
  · obtain ⟨i, _, rfl⟩ := List.mem_map.1 hx
    exact (key i).choose_spec.1
  · have := hn e
    simpa using this
  · have hil : i < len := by have := (List.getElem?_eq_some_iff.1 hx).1; simpa using this
    obtain rfl : (key i).choose = x := by simpa [hil] using hx
    exact (key i).choose_spec.2 hil
theorem open_txs (hv : Value.okWide Tryd.prog w r b0 24 v) (h : DataW.Trod enc Tryd.prog w base spare held 24 v d p) :
    ∃ (oa : Option Addr) (cap : Nat) (l : List Tx) (_ : ∀ x ∈ l, aOk x.a) (_ : oa = none → l.length = 0 ∧ cap = 0), v = .slice oa l.length cap ∧ KAt encT 2 w.heap.size oa l w := by
  obtain ⟨oa, len, cap, rfl, hl, hm, hn, hi⟩ := open_rows Tryd.underlying24 Tryd.underlying27 (by kernel_rfl) (by kernel_rfl) hv h
  have key : ∀ i, ∃ x : Tx, aOk x.a ∧ (i < len → ∃ a, oa = some a ∧ a.block < w.heap.size ∧ ∀ j u, (encT x)[j]? = some u → w.cell? (fieldOf (a.add (i * 2)) j) = some u) := by
    intro i
    by_cases hil : i < len
    · obtain ⟨a, n, ha, hf⟩ := hi i hil
      obtain ⟨u0, y0, c0, t0⟩ := hf 0 _ rfl
      obtain ⟨u1, y1, c1, t1⟩ := hf 1 _ rfl
      obtain ⟨z0, e0, _, w0⟩ := DataW.trod_int Tryd.underlying3 t0
      obtain ⟨z1, e1, _, _⟩ := DataW.trod_string Tryd.underlying9 t1
      obtain rfl : u0 = .int .i64 z0 := by simpa using e0
      obtain rfl : u1 = .string z1 := by simpa using e1
      refine ⟨⟨z0, z1⟩, w0, fun _ => ⟨a, ha, ?_, fun j u hj => ?_⟩⟩
      · have := World.block_lt_of_cell? _ _ c0
        rwa [add_block] at this
      · rw [← fieldOf_add]
        match j with
        | 0 => simp only [encT, List.getElem?_cons_zero, Option.some.injEq] at hj; rw [← hj]; exact c0
        | 1 => simp only [encT, List.getElem?_cons_succ, List.getElem?_cons_zero, Option.some.injEq] at hj; rw [← hj]; exact c1
        | j + 2 => simp [encT] at hj
    · have z : (Lit.int .i64 0).wf = true := by decide
      exact ⟨⟨0, ⟨#[]⟩⟩, z, fun h => absurd h hil⟩
  refine ⟨oa, cap, (List.range len).map (fun i => (key i).choose), fun x hx => ?_, fun e => ?_, by simp, fun i x hx => ?_⟩
  · obtain ⟨i, _, rfl⟩ := List.mem_map.1 hx
    exact (key i).choose_spec.1
  · have := hn e
    simpa using this
  · have hil : i < len := by have := (List.getElem?_eq_some_iff.1 hx).1; simpa using this
    obtain rfl : (key i).choose = x := by simpa [hil] using hx
    exact (key i).choose_spec.2 hil
end
end Go.Proofs.YthnkpoagpjnopaaDoor.MovW
