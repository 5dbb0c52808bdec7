/- The map of handle: keys that are a client and a number, elements that are inode numbers. -/
import Derived.Test.YtjfdbcmmmoipcaaMapDel
namespace Go.Proofs.Ytjfdbcmmmoipcaa.HanW
open Go.RowKit
open Go.Maps (Keyed)
def haV (x : Int × Int) : Value := .agg #[.int .i64 x.1, .int .i64 x.2]
def inV (y : Int) : Value := .int .i64 y
def haOk (x : Int × Int) : Prop := (Lit.int .i64 x.1).wf = true ∧ (Lit.int .i64 x.2).wf = true
theorem haOk_of {x : Int × Int} (h1 : IntKind.i64.min ≤ x.1 ∧ x.1 ≤ IntKind.i64.max) (h2 : IntKind.i64.min ≤ x.2 ∧ x.2 ≤ IntKind.i64.max) : haOk x := by
  unfold haOk
  simp only [Lit.wf, h1.1, h1.2, h2.1, h2.2, decide_true, Bool.and_self, and_self]
theorem hanLaid : laidOutB Try.prog = true := by kernel_rfl
theorem haType : Try.prog.keyType 62 = true := by kernel_rfl
theorem haRow : (62 : TypeId) < Try.prog.types.size := of_decide_eq_true (by kernel_rfl)
theorem haWide : (match Try.prog.underlying 62 with | some (.array _ _) | some (.struct _) => true | _ => false) = true := by rw [Try.underlying62]
theorem haKeyed : Keyed Try.prog 62 := Keyed.of_law (deep_law_laid hanLaid (m := 2) (by omega) haRow (by kernel_rfl) haWide)
theorem haCells : Try.prog.cellsOf 62 = 2 := by kernel_rfl
theorem intCells : Try.prog.cellsOf 3 = 1 := by kernel_rfl
theorem haFormed (x : Int × Int) : (haV x).formed Try.prog 62 = true := by simp [haV, Value.formed, Try.underlying62, haCells]
theorem tsize : ∃ m, Try.prog.types.size = m + 1 := ⟨Try.prog.types.size - 1, by kernel_rfl⟩
theorem haKey (x : Int × Int) (h : haOk x) : ∃ l, keyOf Try.prog 62 (haV x) = some l := by
  obtain ⟨m, hm⟩ := tsize
  unfold keyOf
  rw [Try.underlying62]
  simp only [haType, haFormed, Bool.and_self, if_true]
  unfold Program.keyLits
  rw [Try.underlying62]
  obtain ⟨a, b⟩ := x
  obtain ⟨h1, h2⟩ := h
  have hr : List.range 2 = [0, 1] := rfl
  simp only at h1 h2
  simp [haV, Value.cells, haCells, hm, Program.keyLits, Try.underlying3, h1, h2, intCells, hr]
theorem haMK : MK Try.prog 62 haV haOk := ⟨haKeyed, haKey, fun x y h => by
  obtain ⟨a, b⟩ := x; obtain ⟨c, d⟩ := y
  simpa [haV] using h⟩
theorem inZero (w : World) : (zeroValue 3).run Try.prog w = .ok (inV 0) w := by kernel_rfl
def HaIs (w : World) (b n : Nat) (g : Int × Int → Option Int) : Prop := MapIs haV haOk inV w b n g
end Go.Proofs.Ytjfdbcmmmoipcaa.HanW
