/- The reference's Text. -/
import Derived.Test.YtlffcilgmockmaaDoorPackRNum2
namespace Go.Proofs.YtlffcilgmockmaaDoor.PackW
open Go.RowKit
set_option maxRecDepth 100000
open ShiftW (putS rput_any)
set_option maxHeartbeats 1600000 in
theorem rtext_no (b : Nat) (s : ByteArray) (bad : Bool) (t : ByteArray) (h : 65535 < t.size) (w : World) (hp : RAt b s bad w) :
    Calls Tryd.prog 26 #[.pointer (some ⟨b, 0, none⟩), .string t] w fun e w' => e = .returned (.tuple #[]) ∧ RAt b s true w' ∧ Only b w w' := by
  have HP := Lib.hid hp
  have hc := hp.cell1
  have hf := hp.free 1
  have d0 : decide (65535 < (t.size : Int)) = true := decide_eq_true (by omega)
  clear hp h
  go_enter Tryd.func26, Tryd.ntmps26
  go_wp2
  refine bodyPost_ret (results_none rfl _ _ _) rfl ?_
  exact ⟨rfl, HP.out.set1, (Only.refl _ _).setCell 1 _⟩
set_option maxHeartbeats 1600000 in
theorem rtext_yes (b : Nat) (s : ByteArray) (bad : Bool) (t : ByteArray) (h : t.size ≤ 65535) (w : World) (hp : RAt b s bad w) (hlen : s.size + 65537 ≤ 140737488355328) :
    Calls Tryd.prog 26 #[.pointer (some ⟨b, 0, none⟩), .string t] w fun e w' => e = .returned (.tuple #[]) ∧ RAt b (s ++ (putS t.size 2 ++ t)) bad w' ∧ Only b w w' := by
  have HP := Lib.hid hp
  have hc := hp.cell0
  have hf := hp.free 0
  have hz : (putS t.size 2).size = 2 := (putS_bytes t.size 2 (by omega)).2
  have hsum : (putS t.size 2 ++ t).size = 2 + t.size := by rw [ByteArray.size_append, hz]
  have d0 : decide (65535 < (t.size : Int)) = false := decide_eq_false (by omega)
  have hu : IntKind.u64.wrap (t.size : Int) = (t.size : Int) := by rw [IntKind.wrap_u64]; omega
  have HV := Lib.hid (show t.size < 2 ^ 64 by omega)
  generalize hSS : putS t.size 2 = S at *
  have HSS := Lib.hid hSS
  clear hp hSS
  go_enter Tryd.func26, Tryd.ntmps26
  go_wp2_with fail
  go_region_with (go_at_call 48; refine (rput_any _ HV.out _ _).mono ?_; rintro e w1 ⟨he, hb1⟩; obtain rfl : e = .returned (.string S) := he.trans (congrArg (fun x => Ending.returned (.string x)) HSS.out); have hc1 := (HP.out.drew.keep hb1).cell0; have hf1 := (HP.out.drew.keep hb1).free 0)
  go_wp2
  all_goals go_end0
  all_goals exact ⟨rfl, (HP.out.drew.keep hb1).set0 _, ((Only.refl b w).drew.step hb1).setCell 0 _⟩
end Go.Proofs.YtlffcilgmockmaaDoor.PackW
