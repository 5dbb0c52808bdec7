/- The walk of the reference's Put. -/
import Derived.Test.YtlffcilgmockmaaDoorShiftPut
namespace Go.Proofs.YtlffcilgmockmaaDoor.ShiftW
open Go.RowKit
set_option maxRecDepth 100000
/-- what is left of a number behind k bytes, closed to simp -/
def dw (v k : Nat) : Nat := v / 2 ^ (8 * k)
theorem dw_zero (v : Nat) : dw v 0 = v := by simp [dw]
theorem dw_succ (v k : Nat) : dw v (k + 1) = dw v k / 256 := by
  unfold dw
  rw [Nat.mul_succ, Nat.pow_add, ← Nat.div_div_eq_div_mul]
def rB (v k : Nat) : UInt8 := UInt8.ofNat (dw v k)
def rputF (v n m j : Nat) : UInt8 := if m ≤ j then putB v n j else 0
theorem rputF_set (v n m : Nat) (h : m < n) : (fun j => if j = m then rB v (n - (m + 1)) else rputF v n (m + 1) j) = rputF v n m := by
  funext j
  unfold rputF
  by_cases h1 : j = m
  · subst h1
    rw [if_pos rfl, if_pos (Nat.le_refl _), putB, rB, dw]
    congr 3; omega
  · by_cases h2 : m + 1 ≤ j
    · rw [if_neg h1, if_pos h2, if_pos (by omega)]
    · rw [if_neg h1, if_neg h2, if_neg (by omega)]
theorem rputF_all (v n : Nat) (h : n ≤ 8) : bytesStr n (rputF v n 0) = putS v n := by
  rw [putS, if_pos ⟨by omega, by omega⟩, bytesStr, Int.toNat_natCast, ShiftP.putN]
  congr 2
theorem dw_byte (v k : Nat) : ((dw v k : Nat) : Int) % 256 = ((rB v k).toNat : Int) := by
  rw [rB, UInt8.toNat_ofNat']; omega
theorem dw_quo (v k : Nat) (hv : v < 2 ^ 64) : IntKind.u64.wrap (((dw v k : Nat) : Int) / 256) = ((dw v (k + 1) : Nat) : Int) := by
  have h : dw v k ≤ v := Nat.div_le_self _ _
  rw [IntKind.wrap_u64, dw_succ]; omega

set_option maxHeartbeats 400000 in
theorem rput_in (v n : Nat) (hv : v < 2 ^ 64) (hn : n ≤ 8) (w : World) :
    Calls Tryd.prog 48 #[.int .u64 v, .int .i64 n] w fun e w' => e = .returned (.string (putS v n)) ∧ Below w.heap.size w w' := by
  obtain ⟨w1, hmk, hrow, hbel, hsz⟩ := make_bytes (P := Tryd.prog) w 69 5 Tryd.underlying69 (by kernel_rfl) n (by omega)
  have HROW := Lib.hid hrow
  have HBEL := Lib.hid hbel
  have HV := Lib.hid hv
  have d1 : decide ((n : Int) < 0) = false := by simp
  have d2 : decide (8 < (n : Int)) = false := by simp; omega
  clear hrow hbel hv
  go_enter Tryd.func48, Tryd.ntmps48
  go_wp2_with fail
  clear d1 d2
  go_loopw [0, 6] (fun x i wr => ∃ m : Nat, m ≤ n ∧ i = .int .i64 ((m : Int) - 1) ∧ x = .int .u64 (dw v (n - m) : Nat) ∧ BytesAt wr w.heap.size n (rputF v n m) ∧ Below w.heap.size w wr) (fun _ i _ => (intOf i + 1).toNat)
  case atStart => exact ⟨n, by omega, rfl, by rw [Nat.sub_self, dw_zero], HROW.out.congr (fun j hj => by rw [rputF, if_neg (by omega)]), HBEL.out⟩
  case round =>
    obtain ⟨m, hm, rfl, rfl, hr, hb⟩ := hrel
    have HR := Lib.hid hr
    have HB := Lib.hid hb
    by_cases hlt : 1 ≤ m
    · obtain ⟨m, rfl⟩ : ∃ m' : Nat, m = m' + 1 := ⟨m - 1, by omega⟩
      have hc1 := (hr m (by omega)).1
      have hf1 := (hr m (by omega)).2
      have hi : ((m + 1 : Nat) : Int) - 1 = m := by omega
      have hx := dw_byte v (n - (m + 1))
      have HX := Lib.hid (rputF_set v n m (by omega))
      have hq := dw_quo v (n - (m + 1)) HV.out
      rw [show n - (m + 1) + 1 = n - m by omega] at hq
      clear hr hb
      rw [hi]
      clear hi
      go_wp2
      go_roundw
      case rel => exact ⟨m, by omega, rfl, rfl, by rw [← HX.out]; exact HR.out.set m (by omega) _, HB.out.setCell (Nat.le_refl _) _⟩
      case measure => simp [intOf]
    · have hkn : m = 0 := by omega
      have hr0 := hr
      rw [hkn] at hr0
      have hcv := conv_of_bytes (P := Tryd.prog) wr 69 9 5 w.heap.size n n _ Tryd.underlying69 Tryd.underlying5 Tryd.underlying9 hr0
      have HF := Lib.hid (rputF_all v n hn)
      clear hkn hr0 hr hb
      go_wp2
      go_ret
      exact ⟨by rw [← HF.out]; rfl, HB.out⟩

set_option maxHeartbeats 400000 in
theorem rput_any (v : Nat) (hv : v < 2 ^ 64) (size : Int) (w : World) :
    Calls Tryd.prog 48 #[.int .u64 v, .int .i64 size] w fun e w' => e = .returned (.string (putS v size)) ∧ Below w.heap.size w w' := by
  by_cases h : 0 ≤ size ∧ size ≤ 8
  · obtain ⟨n, rfl⟩ := Int.eq_ofNat_of_zero_le h.1
    exact rput_in v n hv (by omega) w
  · have HP := Lib.hid (show putS v size = ⟨#[]⟩ by rw [putS, if_neg h])
    clear hv
    rcases (by omega : size < 0 ∨ (0 ≤ size ∧ 8 < size)) with h | ⟨h0, h⟩
    all_goals
      go_enter Tryd.func48, Tryd.ntmps48
      go_wp2
      go_ret
      exact ⟨by rw [HP.out]; rfl, below_refl w⟩
end Go.Proofs.YtlffcilgmockmaaDoor.ShiftW
