/- The program's Unpacker. -/
import Derived.Test.YtonckbnmamlilaaPackFair
namespace Go.Proofs.Ytonckbnmamlilaa.PackW
open Go.RowKit
/-- the program's Unpacker in block b -/
def UAt (b : Nat) (s : ByteArray) (sp : Bool) (w : World) : Prop := w.heap[b]? = some (.cells #[.string s, .bool sp] 70 (0, 0))
theorem UAt.cell0 {b : Nat} {s : ByteArray} {bad : Bool} {w : World} (h : UAt b s bad w) : w.cell? ⟨b, 0, none⟩ = some (.string s) := by rw [Lib.cell_of_heap h]; rfl
theorem UAt.cell1 {b : Nat} {s : ByteArray} {bad : Bool} {w : World} (h : UAt b s bad w) : w.cell? ⟨b, 1, none⟩ = some (.bool bad) := by rw [Lib.cell_of_heap h]; rfl
theorem UAt.free {b : Nat} {s : ByteArray} {bad : Bool} {w : World} (h : UAt b s bad w) (i : Nat) : w.frozen? ⟨b, i, none⟩ = false := Lib.frozen_of_heap h i
theorem UAt.lt {b : Nat} {s : ByteArray} {bad : Bool} {w : World} (h : UAt b s bad w) : b < w.heap.size := lt_of_block h
theorem UAt.drew {b : Nat} {s : ByteArray} {bad : Bool} {w : World} (h : UAt b s bad w) : UAt b s bad w.drew := h
theorem UAt.keep {b : Nat} {s : ByteArray} {bad : Bool} {w w' : World} (h : UAt b s bad w) (k : Below w.heap.size w w') : UAt b s bad w' := (k.block b h.lt).trans h
theorem UAt.set0 {b : Nat} {s : ByteArray} {bad : Bool} {w : World} (h : UAt b s bad w) (t : ByteArray) : UAt b t bad (w.setCell ⟨b, 0, none⟩ (.string t)) := by
  unfold UAt; rw [heap_setCell_same w b 0 _ _ _ h]; rfl
theorem UAt.set1 {b : Nat} {s : ByteArray} {bad : Bool} {w : World} (h : UAt b s bad w) : UAt b s true (w.setCell ⟨b, 1, none⟩ (.bool true)) := by
  unfold UAt; rw [heap_setCell_same w b 1 _ _ _ h]; rfl
set_option maxHeartbeats 400000 in
theorem open_any (s : ByteArray) (w : World) : Calls Try.prog 17 #[.string s] w fun e w' => e = .returned (.pointer (some ⟨w.heap.size, 0, none⟩)) ∧ UAt w.heap.size s false w' ∧ Below w.heap.size w w' ∧ w'.heap.size = w.heap.size + 1 := by
  go_enter Try.func17, Try.ntmps17
  go_wp2
  go_ret
  exact ⟨rfl, heap_alloc_new _ _, below_alloc w _, by simp⟩
set_option maxHeartbeats 400000 in
theorem spoil_any (b : Nat) (s : ByteArray) (sp : Bool) (w : World) (hp : UAt b s sp w) :
    Calls Try.prog 35 #[.pointer (some ⟨b, 0, none⟩)] w fun e w' => e = .returned (.tuple #[]) ∧ UAt b s true w' ∧ Only b w w' ∧ w'.heap.size = w.heap.size := by
  have HP := Lib.hid hp
  have hc := hp.cell1
  have hf := hp.free 1
  clear hp
  go_enter Try.func35, Try.ntmps35
  go_wp2
  go_end0
  exact ⟨rfl, HP.out.set1, (Only.refl _ _).setCell 1 _, by simp⟩
end Go.Proofs.Ytonckbnmamlilaa.PackW
