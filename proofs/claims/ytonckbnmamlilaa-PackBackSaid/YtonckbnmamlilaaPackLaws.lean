/- The laws' arguments, opened. -/
import Derived.Test.YtonckbnmamlilaaPackBack2
import Derived.Test.YtonckbnmamlilaaOpen
namespace Go.Proofs.Ytonckbnmamlilaa.PackW
open Go.RowKit Go.ChangeShapes Go.WideShapes Go.Deep
theorem open_fields {H : Type} {enc : TypeId × Value → H} {w : World} {base b0 : Nat} {spare : Nat → Bool} {held : Bool} {r : Reach} {v : Value} {d : DataW H} {p : List MemPlace}
    (hv : Value.okWide Try.prog w r b0 22 v) (h : DataW.Trod enc Try.prog w base spare held 22 v d p) :
    ∃ (oa : Option Addr) (n cap : Nat) (f : Nat → Fd), v = .slice oa n cap ∧ n ≤ 9223372036854775807 ∧ (∀ i, (f i).v < 9223372036854775808) ∧ FdAt w.heap.size oa n f w := by
  obtain ⟨oa, len, cap, rfl, hl, hm, hi⟩ := open_rows Try.underlying22 Try.underlying30 (by kernel_rfl) (by kernel_rfl) hv h
  have key : ∀ i, ∃ fd : Fd, fd.v < 9223372036854775808 ∧ (i < len → ∃ a, oa = some a ∧ a.block < w.heap.size ∧ w.cell? (a.add (i * 3)) = some (.int .i64 fd.size) ∧ w.cell? ⟨(a.add (i * 3)).block, (a.add (i * 3)).off + 1, none⟩ = some (.int .i64 fd.v) ∧ w.cell? ⟨(a.add (i * 3)).block, (a.add (i * 3)).off + 2, none⟩ = some (.string fd.s)) := by
    intro i
    by_cases hil : i < len
    · obtain ⟨a, n, ha, hf⟩ := hi i hil
      obtain ⟨u0, y0, c0, t0⟩ := hf 0 _ rfl
      obtain ⟨u1, y1, c1, t1⟩ := hf 1 _ rfl
      obtain ⟨u2, y2, c2, t2⟩ := hf 2 _ rfl
      obtain ⟨x0, e0, _, w0⟩ := DataW.trod_int Try.underlying3 t0
      obtain ⟨x1, e1, _, w1⟩ := DataW.trod_int Try.underlying2 t1
      obtain ⟨x2, e2, _, w2⟩ := DataW.trod_string Try.underlying9 t2
      obtain rfl : u0 = .int .i64 x0 := by simpa using e0
      obtain rfl : u1 = .int .i64 x1 := by simpa using e1
      obtain rfl : u2 = .string x2 := by simpa using e2
      refine ⟨⟨x0, x1, x2⟩, (by have := (i64_bd' w1).2; show x1 < _; omega), fun _ => ⟨a, ha, ?_, ?_, ?_, ?_⟩⟩
      · have := World.block_lt_of_cell? _ _ c0
        rwa [add_block] at this
      · exact c0
      · rw [← add_field a (i * 3) 0]; exact c1
      · rw [← add_field a (i * 3) 1]; exact c2
    · exact ⟨⟨0, 0, ⟨#[]⟩⟩, by simp, fun h => absurd h hil⟩
  exact ⟨oa, len, cap, fun i => (key i).choose, rfl, by unfold maxLen at hm; omega, fun i => (key i).choose_spec.1, fun i hi => (key i).choose_spec.2 hi⟩
theorem open_ints_at {H : Type} {enc : TypeId × Value → H} {w : World} {base b0 : Nat} {spare : Nat → Bool} {held : Bool} {r : Reach} {v : Value} {d : DataW H} {p : List MemPlace}
    (hv : Value.okWide Try.prog w r b0 38 v) (h : DataW.Trod enc Try.prog w base spare held 38 v d p) :
    ∃ (oa : Option Addr) (n cap : Nat) (f : Nat → Int), v = .slice oa n cap ∧ n ≤ 9223372036854775807 ∧ IsAt w.heap.size oa n f w := by
  obtain ⟨oa, len, cap, rfl, hl, hm, hi⟩ := open_row1 Try.underlying38 (by kernel_rfl) hv h
  have key : ∀ i, ∃ x : Int, i < len → ∃ a, oa = some a ∧ a.block < w.heap.size ∧ w.cell? (a.add i) = some (.int .i64 x) := by
    intro i
    by_cases hil : i < len
    · obtain ⟨a, n, ha, u, y, c, t⟩ := hi i hil
      obtain ⟨x, e, _, _⟩ := DataW.trod_int Try.underlying3 t
      obtain rfl : u = .int .i64 x := by simpa using e
      refine ⟨x, fun _ => ⟨a, ha, ?_, c⟩⟩
      have := World.block_lt_of_cell? _ _ c
      rwa [add_block] at this
    · exact ⟨0, fun h => absurd h hil⟩
  exact ⟨oa, len, cap, fun i => (key i).choose, rfl, by unfold maxLen at hm; omega, fun i hi => (key i).choose_spec hi⟩
end Go.Proofs.Ytonckbnmamlilaa.PackW
