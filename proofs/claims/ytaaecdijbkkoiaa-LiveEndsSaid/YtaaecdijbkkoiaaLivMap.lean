/- The map of live: keys that are an address or a segment, elements that are numbers of bytes. -/
import Derived.Test.YtaaecdijbkkoiaaMapDel
import Derived.Test.YtaaecdijbkkoiaaMapEntry
import Derived.Test.YtaaecdijbkkoiaaLivPlain
import Derived.Test.YtaaecdijbkkoiaaExtEnd
namespace Go.Proofs.Ytaaecdijbkkoiaa.LivW
set_option maxRecDepth 100000
open Go.RowKit
open Go.Maps (Keyed)
open Go.WideMaps (KeyLaw)
def kyV (i : Int) : Value := .agg #[.int .i64 i]
def inV (y : Int) : Value := .int .i64 y
def kyOk (i : Int) : Prop := (Lit.int .i64 i).wf = true
theorem kyOk_of {i : Int} (h : -9223372036854775808 ≤ i ∧ i ≤ 9223372036854775807) : kyOk i := by
  unfold kyOk; simp [Lit.wf, IntKind.min, IntKind.max, IntKind.signed, IntKind.bits]; omega
theorem livLaid : laidOutB Try.prog = true := by kernel_rfl
theorem kyType : Try.prog.keyType 74 = true := by kernel_rfl
theorem kyRow : (74 : TypeId) < Try.prog.types.size := of_decide_eq_true (by kernel_rfl)
theorem kyWide : (match Try.prog.underlying 74 with | some (.array _ _) | some (.struct _) => true | _ => false) = true := by rw [Try.underlying74]
theorem kyLaw : KeyLaw Try.prog 74 := deep_law_laid livLaid (m := 2) (by omega) kyRow (by kernel_rfl) kyWide
theorem kyKeyed : Keyed Try.prog 74 := Keyed.of_law kyLaw
theorem kyCells : Try.prog.cellsOf 74 = 1 := by kernel_rfl
theorem intCells : Try.prog.cellsOf 3 = 1 := by kernel_rfl
theorem kyFormed (i : Int) : (kyV i).formed Try.prog 74 = true := by simp [kyV, Value.formed, Try.underlying74, kyCells]
theorem tsize : ∃ m, Try.prog.types.size = m + 1 := ⟨Try.prog.types.size - 1, by kernel_rfl⟩
theorem kyKey (i : Int) (h : kyOk i) : ∃ l, keyOf Try.prog 74 (kyV i) = some l := by
  obtain ⟨m, hm⟩ := tsize
  unfold keyOf
  rw [Try.underlying74]
  simp only [kyType, kyFormed, Bool.and_self, if_true]
  unfold Program.keyLits
  rw [Try.underlying74]
  unfold kyOk at h
  simp [kyV, Value.cells, kyCells, hm, Program.keyLits, Try.underlying3, h, intCells]
theorem kyMK : MK Try.prog 74 kyV kyOk := ⟨kyKeyed, kyKey, fun x y h => by simpa [kyV] using h⟩
theorem inZero (w : World) : (zeroValue 3).run Try.prog w = .ok (inV 0) w := by kernel_rfl
def KyIs (w : World) (b n : Nat) (g : Int → Option Int) : Prop := MapIs kyV kyOk inV w b n g
def KyRange (w : World) (b r n : Nat) (g : Int → Option Int) (seen : Int → Bool) (cnt : Nat) : Prop := RangeIs kyV kyOk inV w b r n g seen cnt
def encU (u : LivP.U) : List Value := [.int .i64 u.a, .int .i64 u.n]
end Go.Proofs.Ytaaecdijbkkoiaa.LivW
