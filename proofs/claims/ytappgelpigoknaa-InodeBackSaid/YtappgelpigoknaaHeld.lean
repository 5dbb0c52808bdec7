/- A region that draws its order and holds calls that make memory: one walk in the text's order, in a class of worlds (over the library's wp_region_quiet). -/
import Derived.Test.YtappgelpigoknaaFrame
import Derived.Deep.Quiet
namespace Go.Proofs.Ytappgelpigoknaa
open Go.RowKit
/-- the library's wpQuiet, shut: else each step's goal is run to its end by whnf -/
@[irreducible] def WQ (P : Program) (ops : Array Oper) (C : World → Prop) (Q : Act → Prop) (l : List Oper) (a : Act) : Prop := wpQuiet P ops C Q l a
section
variable {P : Program} {ops : Array Oper} {C : World → Prop} {Q : Act → Prop} {o : Oper} {rest : List Oper} {a : Act}
theorem held_skip (hw : Region.wanted o (yielded ops a.tmps) = false) (h : WQ P ops C Q rest (a.put o.dst undef)) : WQ P ops C Q (o :: rest) a := by
  unfold WQ at *; unfold wpQuiet; rw [if_neg (by rw [hw]; decide)]; exact h
theorem held_val {v : Value} (hw : Region.wanted o (yielded ops a.tmps) = true) (hv : ∀ w, C w → (execOp a.eval o).run P w = .ok (.value v) w) (h : WQ P ops C Q rest (a.put o.dst v)) : WQ P ops C Q (o :: rest) a := by
  unfold WQ at *; unfold wpQuiet; rw [if_pos hw]
  refine ⟨v, fun w hc => ?_, h⟩
  unfold Oper.quietAt
  rw [hv w hc]
  exact ⟨rfl, rfl⟩
theorem held_call {v : Value} {f : FuncId} {args : Array Value} (hw : Region.wanted o (yielded ops a.tmps) = true) (hv : ∀ w, (execOp a.eval o).run P w = .ok (.enter f args) w)
    (hc : ∀ w, C w → Calls P f args w (fun e w'' => e = .returned v ∧ C w'')) (h : WQ P ops C Q rest (a.put o.dst v)) : WQ P ops C Q (o :: rest) a := by
  unfold WQ at *; unfold wpQuiet; rw [if_pos hw]
  refine ⟨v, fun w hcw => ?_, h⟩
  unfold Oper.quietAt
  rw [hv w]
  exact ⟨rfl, hc w hcw⟩
theorem held_nil (h : Q a) : WQ P ops C Q [] a := by unfold WQ; exact h
end
theorem held_region {P : Program} {l : List Oper} {id : Nat} {Q : Exit → Act → World → Prop} {a : Act} {w : World} (C : World → Prop) (hm : P.follows .mixedOrders = true) (hB : Region.lexB .any l.toArray = true) (hC : C w.drew)
    (h : WQ P l.toArray C (fun a' => ∀ w', C w' → Q .normal a' w') l a) : (Code.region id l.toArray true).wp P Q a w :=
  wp_region_quiet hm hB hC (by unfold WQ at h; simpa using h)
/-- .. in the class of the worlds in which all that is there stands as it does -/
theorem held_below {P : Program} {l : List Oper} {id : Nat} {Q : Exit → Act → World → Prop} {a : Act} {w : World} (hm : P.follows .mixedOrders = true) (hB : Region.lexB .any l.toArray = true)
    (h : WQ P l.toArray (fun w' => Below w.heap.size w w') (fun a' => ∀ w', Below w.heap.size w w' → Q .normal a' w') l a) : (Code.region id l.toArray true).wp P Q a w :=
  held_region (fun w' => Below w.heap.size w w') hm hB (Below.refl _ _).drew h
theorem cell_step {wa wb : World} {p : Addr} {v : Value} (k : Below wa.heap.size wa wb) (h : wa.cell? p = some v) : wb.cell? p = some v :=
  (k.cell (World.block_lt_of_cell? _ _ h)).trans h
theorem alloc_cell (w : World) (cs : Array Value) (t : TypeId) (i : Nat) (v : Value) (h : cs[i]? = some v) : (w.alloc (.cells cs t)).cell? ⟨w.heap.size, i, none⟩ = some v := by
  rw [Lib.cell_of_heap (heap_alloc_new w _)]; simpa using h
theorem alloc_step {w : World} {o : Obj} {p : Addr} {v : Value} (h : w.cell? p = some v) : (w.alloc o).cell? p = some v := cell_step (below_alloc w o) h
end Go.Proofs.Ytappgelpigoknaa
