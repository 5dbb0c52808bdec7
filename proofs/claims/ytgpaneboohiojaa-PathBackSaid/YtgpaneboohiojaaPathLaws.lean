/- The laws' arguments, opened. -/
import Derived.Test.YtgpaneboohiojaaPathBack
namespace Go.Proofs.Ytgpaneboohiojaa.PathW
open Go.RowKit Go.ChangeShapes Go.WideShapes Go.Deep
theorem open_texts {H : Type} {enc : TypeId × Value → H} {w : World} {base b0 : Nat} {spare : Nat → Bool} {held : Bool} {r : Reach} {v : Value} {d : DataW H} {p : List MemPlace}
    (hv : Value.okWide Try.prog w r b0 22 v) (h : DataW.Trod enc Try.prog w base spare held 22 v d p) :
    ∃ (oa : Option Addr) (cap : Nat) (l : List (List UInt8)), v = .slice oa l.length cap ∧ (∀ x ∈ l, x.length ≤ 9223372036854775807) ∧ Came w oa cap l ∧ l.length ≤ maxLen := by
  obtain ⟨oa, len, cap, rfl, hl, hm, hn, hi⟩ := open_row1 Try.underlying22 (by kernel_rfl) hv h
  have key : ∀ i, ∃ x : List UInt8, x.length ≤ 9223372036854775807 ∧ (i < len → ∃ a, oa = some a ∧ a.block < w.heap.size ∧ w.cell? (a.add i) = some (strV x)) := by
    intro i
    by_cases hil : i < len
    · obtain ⟨a, n, ha, u, y, c, t⟩ := hi i hil
      obtain ⟨s, e, _, hs⟩ := DataW.trod_string Try.underlying9 t
      obtain rfl : u = .string s := by simpa using e
      refine ⟨s.data.toList, by unfold maxLen at hs; simp; omega, fun _ => ⟨a, ha, ?_, c⟩⟩
      have := World.block_lt_of_cell? _ _ c
      rwa [add_block] at this
    · exact ⟨[], by simp, fun h => absurd h hil⟩
  refine ⟨oa, cap, (List.range len).map (fun i => (key i).choose), by simp, ?_, ⟨?_, ?_⟩, by simp; omega⟩
  · intro x hx
    obtain ⟨i, _, rfl⟩ := List.mem_map.1 hx
    exact (key i).choose_spec.1
  · intro i hi2
    have h2 : i < len := by simpa using hi2
    obtain ⟨a, e1, e2, e3⟩ := (key i).choose_spec.2 h2
    exact ⟨a, e1, e2, by rw [e3]; simp⟩
  · intro e
    have := hn e
    simpa using this
end Go.Proofs.Ytgpaneboohiojaa.PathW
