/- The maps of dir: keys that are a directory and a name; numbers of names by directory. -/
import Derived.Test.YtffigodlfmnbpaaMapDel
import Derived.Test.YtffigodlfmnbpaaDirPlain
namespace Go.Proofs.Ytffigodlfmnbpaa.DirW
open Go.RowKit
open Go.Maps (Keyed)
def deV (x : Int × ByteArray) : Value := .agg #[.int .i64 x.1, .string x.2]
def inV (y : Int) : Value := .int .i64 y
def deOk (x : Int × ByteArray) : Prop := (Lit.int .i64 x.1).wf = true ∧ x.2.size ≤ maxLen
def inOk (x : Int) : Prop := (Lit.int .i64 x).wf = true
theorem dirLaid : laidOutB Try.prog = true := by kernel_rfl
theorem deType : Try.prog.keyType 61 = true := by kernel_rfl
theorem deRow : (61 : TypeId) < Try.prog.types.size := of_decide_eq_true (by kernel_rfl)
theorem deWide : (match Try.prog.underlying 61 with | some (.array _ _) | some (.struct _) => true | _ => false) = true := by rw [Try.underlying61]
theorem deKeyed : Keyed Try.prog 61 := Keyed.of_law (deep_law_laid dirLaid (m := 2) (by omega) deRow (by kernel_rfl) deWide)
theorem deCells : Try.prog.cellsOf 61 = 2 := by kernel_rfl
theorem intCells : Try.prog.cellsOf 3 = 1 := by kernel_rfl
theorem strCells1 : Try.prog.cellsOf 9 = 1 := by kernel_rfl
theorem deFormed (x : Int × ByteArray) : (deV x).formed Try.prog 61 = true := by simp [deV, Value.formed, Try.underlying61, deCells]
theorem tsize : ∃ m, Try.prog.types.size = m + 1 := ⟨Try.prog.types.size - 1, by kernel_rfl⟩
theorem deKey (x : Int × ByteArray) (h : deOk x) : ∃ l, keyOf Try.prog 61 (deV x) = some l := by
  obtain ⟨m, hm⟩ := tsize
  unfold keyOf
  rw [Try.underlying61]
  simp only [deType, deFormed, Bool.and_self, if_true]
  unfold Program.keyLits
  rw [Try.underlying61]
  obtain ⟨a, b⟩ := x
  obtain ⟨h1, h2⟩ := h
  simp only at h1 h2
  simp [deV, Value.cells, deCells, hm, Program.keyLits, Try.underlying3, Try.underlying9, h1, h2, intCells, strCells1]
theorem deMK : MK Try.prog 61 deV deOk := ⟨deKeyed, deKey, fun x y h => by
  obtain ⟨a, b⟩ := x; obtain ⟨c, d⟩ := y
  simpa [deV] using h⟩
theorem inKey (x : Int) (h : inOk x) : ∃ l, keyOf Try.prog 3 (inV x) = some l := by
  unfold inOk at h
  unfold keyOf
  rw [Try.underlying3]
  simp [inV, mapKey, Try.underlying3, h]
theorem inMK : MK Try.prog 3 inV inOk := ⟨Go.Maps.int_keyed Try.underlying3, inKey, fun x y h => by simpa [inV] using h⟩
theorem inZero (w : World) : (zeroValue 3).run Try.prog w = .ok (inV 0) w := by kernel_rfl
def DeIs (w : World) (b n : Nat) (g : Int × ByteArray → Option Int) : Prop := MapIs deV deOk inV w b n g
def CoIs (w : World) (b n : Nat) (g : Int → Option Int) : Prop := MapIs inV inOk inV w b n g
end Go.Proofs.Ytffigodlfmnbpaa.DirW
