/- The reference's Packer. -/
import Derived.Test.YtlffcilgmockmaaDoorPackDone
import Derived.Test.YtlffcilgmockmaaDoorShiftRPut
namespace Go.Proofs.YtlffcilgmockmaaDoor.PackW
open Go.RowKit
set_option maxRecDepth 100000
open ShiftW (putS rput_any)
/-- the reference's Packer in block b -/
def RAt (b : Nat) (s : ByteArray) (bad : Bool) (w : World) : Prop := w.heap[b]? = some (.cells #[.string s, .bool bad] 78 (0, 0))
theorem RAt.cell0 {b : Nat} {s : ByteArray} {bad : Bool} {w : World} (h : RAt b s bad w) : w.cell? ⟨b, 0, none⟩ = some (.string s) := by rw [Lib.cell_of_heap h]; rfl
theorem RAt.cell1 {b : Nat} {s : ByteArray} {bad : Bool} {w : World} (h : RAt b s bad w) : w.cell? ⟨b, 1, none⟩ = some (.bool bad) := by rw [Lib.cell_of_heap h]; rfl
theorem RAt.free {b : Nat} {s : ByteArray} {bad : Bool} {w : World} (h : RAt b s bad w) (i : Nat) : w.frozen? ⟨b, i, none⟩ = false := Lib.frozen_of_heap h i
theorem RAt.lt {b : Nat} {s : ByteArray} {bad : Bool} {w : World} (h : RAt b s bad w) : b < w.heap.size := lt_of_block h
theorem RAt.drew {b : Nat} {s : ByteArray} {bad : Bool} {w : World} (h : RAt b s bad w) : RAt b s bad w.drew := h
theorem RAt.keep {b : Nat} {s : ByteArray} {bad : Bool} {w w' : World} (h : RAt b s bad w) (k : Below w.heap.size w w') : RAt b s bad w' := (k.block b h.lt).trans h
theorem RAt.set0 {b : Nat} {s : ByteArray} {bad : Bool} {w : World} (h : RAt b s bad w) (t : ByteArray) : RAt b t bad (w.setCell ⟨b, 0, none⟩ (.string t)) := by
  unfold RAt; rw [heap_setCell_same w b 0 _ _ _ h]; rfl
theorem RAt.set1 {b : Nat} {s : ByteArray} {bad : Bool} {w : World} (h : RAt b s bad w) : RAt b s true (w.setCell ⟨b, 1, none⟩ (.bool true)) := by
  unfold RAt; rw [heap_setCell_same w b 1 _ _ _ h]; rfl
set_option maxHeartbeats 400000 in
theorem size_yes (n : Int) (h : Sized n) (w : World) : Calls Tryd.prog 47 #[.int .i64 n] w fun e w' => e = .returned (.bool true) ∧ w = w' := by
  rcases h with rfl | rfl | rfl | rfl
  all_goals
    go_enter Tryd.func47, Tryd.ntmps47
    go_wp2
    go_ret
    exact ⟨rfl, rfl⟩
set_option maxHeartbeats 400000 in
theorem size_no (n : Int) (h : ¬ Sized n) (w : World) : Calls Tryd.prog 47 #[.int .i64 n] w fun e w' => e = .returned (.bool false) ∧ w = w' := by
  unfold Sized at h
  have h1 : (n == 1) = false := by rw [beq_eq_false_iff_ne]; omega
  have h2 : (n == 2) = false := by rw [beq_eq_false_iff_ne]; omega
  have h3 : (n == 4) = false := by rw [beq_eq_false_iff_ne]; omega
  have h4 : (n == 8) = false := by rw [beq_eq_false_iff_ne]; omega
  clear h
  go_enter Tryd.func47, Tryd.ntmps47
  go_wp2
  go_ret
  exact ⟨rfl, rfl⟩
set_option maxHeartbeats 400000 in
theorem rnew_any (w : World) : Calls Tryd.prog 24 #[] w fun e w' => e = .returned (.pointer (some ⟨w.heap.size, 0, none⟩)) ∧ RAt w.heap.size ⟨#[]⟩ false w' ∧ Below w.heap.size w w' ∧ w'.heap.size = w.heap.size + 1 := by
  go_enter Tryd.func24, Tryd.ntmps24
  go_wp2
  go_ret
  exact ⟨rfl, heap_alloc_new _ _, below_alloc w _, by simp⟩
set_option maxHeartbeats 400000 in
theorem rdone_any (b : Nat) (s : ByteArray) (bad : Bool) (w : World) (h : RAt b s bad w) (hs : s.size ≤ 9223372036854775807) :
    Calls Tryd.prog 27 #[.pointer (some ⟨b, 0, none⟩)] w fun e w' => e = .returned (.tuple #[.string (doneS s.data.toList bad), .int .i64 (doneE s.data.toList bad)]) ∧ w = w' := by
  have c0 := h.cell0
  have c1 := h.cell1
  have hsz : s.data.toList.length = s.size := by simp
  clear h
  cases bad with
  | true =>
    have H1 := Lib.hid (show doneS s.data.toList true = ⟨#[]⟩ by simp [doneS])
    have H2 := Lib.hid (show doneE s.data.toList true = 11 by simp [doneE])
    clear hsz
    go_enter Tryd.func27, Tryd.ntmps27
    go_wp2
    go_ret2
    exact ⟨by rw [H1.out, H2.out]; rfl, rfl⟩
  | false =>
    by_cases hl : s.size ≤ 65536
    · have H1 := Lib.hid (show doneS s.data.toList false = s by rw [doneS, if_pos ⟨rfl, by omega⟩])
      have H2 := Lib.hid (show doneE s.data.toList false = 0 by rw [doneE, if_neg (by decide), if_pos (by omega)])
      clear hsz
      go_enter Tryd.func27, Tryd.ntmps27
      go_wp2
      go_ret2
      exact ⟨by rw [H1.out, H2.out]; rfl, rfl⟩
    · have H1 := Lib.hid (show doneS s.data.toList false = ⟨#[]⟩ by rw [doneS, if_neg (by omega)])
      have H2 := Lib.hid (show doneE s.data.toList false = 2 by rw [doneE, if_neg (by decide), if_neg (by omega)])
      clear hsz
      go_enter Tryd.func27, Tryd.ntmps27
      go_wp2
      go_ret2
      exact ⟨by rw [H1.out, H2.out]; rfl, rfl⟩
end Go.Proofs.YtlffcilgmockmaaDoor.PackW
