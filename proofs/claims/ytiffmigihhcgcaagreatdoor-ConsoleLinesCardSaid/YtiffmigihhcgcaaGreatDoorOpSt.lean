/- A record in memory: twelve cells; its moves, as they are read. -/
import Derived.Test.YtiffmigihhcgcaaGreatDoorOpPlain
import Derived.Test.YtiffmigihhcgcaaGreatDoorOpPath
import Derived.Test.YtiffmigihhcgcaaGreatDoorAppend
import Derived.Test.YtiffmigihhcgcaaGreatDoorHeld
import Derived.Laws.ResultCell
import Derived.Laws.Rows
namespace Go.Proofs.YtiffmigihhcgcaaGreatDoor.OpW
set_option maxRecDepth 100000
open Go.RowKit OpP
/-- a record in a block of its own -/
def OBox (w : World) (b : Nat) (r : Rec) (v : Value) : Prop := w.heap[b]? = some (.cells #[.int .i64 r.cl, .int .i64 r.sq, .int .i64 r.k, .string r.p, .string r.t, .int .i64 r.sz, .int .i64 r.h, .int .i64 r.o, .string r.d, .int .i64 r.tk, .int .i64 r.i, v] 24 (0, 0))
theorem OBox.cells {w : World} {b : Nat} {r : Rec} {v : Value} (h : OBox w b r v) : w.cell? ⟨b, 0, none⟩ = some (.int .i64 r.cl) ∧ w.cell? ⟨b, 1, none⟩ = some (.int .i64 r.sq) ∧ w.cell? ⟨b, 2, none⟩ = some (.int .i64 r.k) ∧ w.cell? ⟨b, 3, none⟩ = some (.string r.p) ∧
    w.cell? ⟨b, 4, none⟩ = some (.string r.t) ∧ w.cell? ⟨b, 5, none⟩ = some (.int .i64 r.sz) ∧ w.cell? ⟨b, 6, none⟩ = some (.int .i64 r.h) ∧ w.cell? ⟨b, 7, none⟩ = some (.int .i64 r.o) ∧ w.cell? ⟨b, 8, none⟩ = some (.string r.d) ∧
    w.cell? ⟨b, 9, none⟩ = some (.int .i64 r.tk) ∧ w.cell? ⟨b, 10, none⟩ = some (.int .i64 r.i) ∧ w.cell? ⟨b, 11, none⟩ = some v :=
  ⟨(new_cells h 0 (by simp)).1, (new_cells h 1 (by simp)).1, (new_cells h 2 (by simp)).1, (new_cells h 3 (by simp)).1, (new_cells h 4 (by simp)).1, (new_cells h 5 (by simp)).1, (new_cells h 6 (by simp)).1, (new_cells h 7 (by simp)).1, (new_cells h 8 (by simp)).1, (new_cells h 9 (by simp)).1, (new_cells h 10 (by simp)).1, (new_cells h 11 (by simp)).1⟩
theorem OBox.keep {w w' : World} {b : Nat} {r : Rec} {v : Value} (h : OBox w b r v) (k : Below w.heap.size w w') : OBox w' b r v := (k.block b (lt_of_block h)).trans h
theorem OBox.free {w : World} {b : Nat} {r : Rec} {v : Value} (h : OBox w b r v) (i : Nat) : w.frozen? ⟨b, i, none⟩ = false := Lib.frozen_of_heap h i
theorem opSize : (Tryz.prog.info? 24).map (·.size) = some 12 := by kernel_rfl
theorem mvinfo : (Tryz.prog.info? 96).map (fun i => (i.zero, i.size, i.bytes)) = some (some (.agg #[.int .i64 0, .int .i64 0, .int .i64 0, .int .i64 0]), 4, 32) := by kernel_rfl
/-- the moves of a record, read -/
def MvAt (w : World) (oa : Option Addr) (l : List Mv) : Prop := KAt encM 4 w.heap.size oa l w
theorem MvAt.grow {w w' : World} {oa : Option Addr} {l : List Mv} (h : MvAt w oa l) (k : Below w.heap.size w w') : MvAt w' oa l := KAt.grow h k
theorem MvAt.nil (w : World) (oa : Option Addr) : MvAt w oa [] := KAt.nil _ _ _
theorem mv_cells {w : World} {oa : Option Addr} {l : List Mv} (h : MvAt w oa l) {i : Nat} {x : Mv} (hx : l[i]? = some x) :
    ∃ a, oa = some a ∧ a.block < w.heap.size ∧ w.cell? (a.add (i * 4)) = some (.int .i64 x.a) ∧ w.cell? ⟨(a.add (i * 4)).block, (a.add (i * 4)).off + 1, none⟩ = some (.int .i64 x.f) ∧
      w.cell? ⟨(a.add (i * 4)).block, (a.add (i * 4)).off + 2, none⟩ = some (.int .i64 x.n) ∧ w.cell? ⟨(a.add (i * 4)).block, (a.add (i * 4)).off + 3, none⟩ = some (.int .i64 x.t) := by
  obtain ⟨a, h1, h2, h3⟩ := h i x hx
  exact ⟨a, h1, h2, h3 0 _ rfl, h3 1 _ rfl, h3 2 _ rfl, h3 3 _ rfl⟩
/-- a result that is a struct, of the call's own block -/
theorem ret_row1 {P : Program} {fn : Func} {R : Ending → World → Prop} {a : Act} {w : World} {p : Tmp} {ty : TypeId} {g : Nat} {cs : Array Value} {d : TypeDesc} {t : TypeId} {fr : Nat × Nat} (hres : fn.results = #[.cell p ty])
    (hp : a.tmps.getD p undef = .pointer (some ⟨g, 0, none⟩)) (hd0 : a.defers = []) (hg : w.heap[g]? = some (.cells cs t fr)) (hu : P.underlying ty = some d) (hd : (match d with | .struct _ | .array _ _ => true | _ => false) = true)
    (hi : (P.info? ty).map (·.size) = some cs.size) (hR : R (.returned (.agg cs)) w) : bodyPost P fn R .ret a w :=
  bodyPost_ret (results_cell_row hres a.tmps w g t cs fr d hp hg hu hd hi) hd0 hR
theorem ret_row {P : Program} {fn : Func} {R : Ending → World → Prop} {a : Act} {w : World} {p u : Tmp} {ty : TypeId} {g : Nat} {cs : Array Value} {d : TypeDesc} {t : TypeId} {fr : Nat × Nat} (hres : fn.results = #[.cell p ty, .tmp u])
    (hp : a.tmps.getD p undef = .pointer (some ⟨g, 0, none⟩)) (hd0 : a.defers = []) (hg : w.heap[g]? = some (.cells cs t fr)) (hu : P.underlying ty = some d) (hd : (match d with | .struct _ | .array _ _ => true | _ => false) = true)
    (hi : (P.info? ty).map (·.size) = some cs.size) (hR : R (.returned (.tuple #[.agg cs, a.tmps.getD u undef])) w) : bodyPost P fn R .ret a w :=
  bodyPost_ret (by rw [results_cell_tmp hres, hp]; simp [asAddr, Result.andThen, run_loadVar_row w g t ty cs fr d hg hu hd hi]) hd0 hR
end Go.Proofs.YtiffmigihhcgcaaGreatDoor.OpW
