/- The reference's Num and Text. -/
import Derived.Test.YtlffcilgmockmaaDoorPackRef
namespace Go.Proofs.YtlffcilgmockmaaDoor.PackW
open Go.RowKit
set_option maxRecDepth 100000
open ShiftW (putS rput_any)
theorem putS_bytes (v n : Nat) (hn : n ≤ 8) : (putS v n).data.toList = ShiftP.putN v n ∧ (putS v n).size = n := by
  have h : putS v n = ⟨(ShiftP.putN v n).toArray⟩ := by rw [putS, if_pos ⟨by omega, by omega⟩]; rfl
  rw [h]
  exact ⟨rfl, by simp [ByteArray.size, ShiftP.putN_length]⟩
set_option maxHeartbeats 1600000 in
theorem rnum_yes (b : Nat) (s : ByteArray) (bad : Bool) (v n : Nat) (hs : n = 1 ∨ n = 2 ∨ n = 4 ∨ n = 8) (h1 : v < 2 ^ (8 * n)) (hv : v < 9223372036854775808) (w : World) (hp : RAt b s bad w) (hlen : s.size + 8 ≤ 140737488355328) :
    Calls Tryd.prog 25 #[.pointer (some ⟨b, 0, none⟩), .int .i64 v, .int .i64 n] w fun e w' => e = .returned (.tuple #[]) ∧ RAt b (s ++ putS v n) bad w' ∧ Only b w w' := by
  have hu : IntKind.u64.wrap (v : Int) = (v : Int) := by rw [IntKind.wrap_u64]; omega
  have hz := (putS_bytes v n (by omega)).2
  have hz8 : (putS v n).size ≤ 8 := by omega
  have HV := Lib.hid (show v < 2 ^ 64 by omega)
  have HP := Lib.hid hp
  have hc := hp.cell0
  have hf := hp.free 0
  have hlt := hp.lt
  have HSZ : Sized n := by unfold Sized; omega
  have HS := Lib.hid HSZ
  have hmost : n < 8 → (v : Int) ≤ 2 ^ (8 * n) - 1 := by
    intro _
    have e : ((2 : Int) ^ (8 * n)) = ((2 ^ (8 * n) : Nat) : Int) := by rw [Int.natCast_pow]; rfl
    rw [e]; omega
  generalize hSS : putS v n = S at *
  have HSS := Lib.hid hSS
  clear hp hSS hz HSZ h1
  rcases hs with rfl | rfl | rfl | rfl
  all_goals
    simp at hmost
    go_enter Tryd.func25, Tryd.ntmps25
    go_wp2_with (go_at_call 47; refine (size_yes _ HS.out _).mono ?_; rintro e w1 ⟨rfl, rfl⟩)
  all_goals
    go_region_with (go_at_call 48; refine (rput_any v HV.out _ _).mono ?_; rintro e w1 ⟨he, hb1⟩; obtain rfl : e = .returned (.string S) := he.trans (congrArg (fun x => Ending.returned (.string x)) HSS.out); have hc1 := (HP.out.drew.keep hb1).cell0; have hf1 := (HP.out.drew.keep hb1).free 0)
  all_goals go_wp2
  all_goals go_end0
  all_goals exact ⟨rfl, (HP.out.drew.keep hb1).set0 _, ((Only.refl b w).drew.step hb1).setCell 0 _⟩
end Go.Proofs.YtlffcilgmockmaaDoor.PackW
