/- The program's Unpacker: take. -/
import Derived.Test.YtonckbnmamlilaaPackUn
namespace Go.Proofs.Ytonckbnmamlilaa.PackW
open Go.RowKit
set_option maxHeartbeats 400000 in
theorem take_no (b : Nat) (s : ByteArray) (sp : Bool) (n : Nat) (h : sp = true ∨ s.size < n) (w : World) (hp : UAt b s sp w) :
    Calls Try.prog 36 #[.pointer (some ⟨b, 0, none⟩), .int .i64 n] w fun e w' => e = .returned (.tuple #[.string ⟨#[]⟩, .bool false]) ∧ UAt b s true w' ∧ Only b w w' ∧ w'.heap.size = w.heap.size := by
  have HP := Lib.hid hp
  have hc0 := hp.cell0
  have hc1 := hp.cell1
  clear hp
  cases sp with
  | true =>
    clear h
    go_enter Try.func36, Try.ntmps36
    go_wp2_with (go_at_call 35; refine (spoil_any b _ _ _ HP.out).mono ?_; rintro e w1 ⟨rfl, hu, hb, hz⟩)
    go_ret2
    exact ⟨rfl, hu, hb, hz⟩
  | false =>
    have hlt : decide (s.size < n) = true := decide_eq_true (by have := h.resolve_left (by decide); omega)
    clear h
    go_enter Try.func36, Try.ntmps36
    go_wp2_with (go_at_call 35; refine (spoil_any b _ _ _ HP.out).mono ?_; rintro e w1 ⟨rfl, hu, hb, hz⟩)
    go_ret2
    exact ⟨rfl, hu, hb, hz⟩
set_option maxHeartbeats 400000 in
theorem take_yes (b : Nat) (s : ByteArray) (n : Nat) (h : n ≤ s.size) (w : World) (hp : UAt b s false w) :
    Calls Try.prog 36 #[.pointer (some ⟨b, 0, none⟩), .int .i64 n] w fun e w' => e = .returned (.tuple #[.string (s.extract 0 n), .bool true]) ∧ UAt b (s.extract n s.size) false w' ∧ Only b w w' ∧ w'.heap.size = w.heap.size := by
  have HP := Lib.hid hp
  have hc0 := hp.cell0
  have hc1 := hp.cell1
  have hf0 := hp.free 0
  have hlt : decide (s.size < n) = false := decide_eq_false (by omega)
  clear hp
  go_enter Try.func36, Try.ntmps36
  go_wp2
  go_ret2
  exact ⟨rfl, HP.out.set0 _, (Only.refl _ _).setCell 0 _, by simp⟩
end Go.Proofs.Ytonckbnmamlilaa.PackW
