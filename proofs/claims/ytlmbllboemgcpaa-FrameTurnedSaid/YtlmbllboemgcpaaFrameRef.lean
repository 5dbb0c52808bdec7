/- The reference's Seal, Next and Open. -/
import Derived.Test.YtlmbllboemgcpaaFrameNext
import Derived.Test.YtlmbllboemgcpaaRCrc
namespace Go.Proofs.Ytlmbllboemgcpaa.FrameW
open Go.RowKit
open ShiftW (getOK getV putS getR rput_any rget_any)
open CrcW (u rsum_any)
set_option maxHeartbeats 400000 in
theorem rseal_long (s : ByteArray) (h : 65536 < s.size) (w : World) :
    Calls Try.prog 10 #[.string s] w fun e w' => e = .returned (.tuple #[.string ⟨#[]⟩, .int .i64 2]) ∧ Below w.heap.size w w' := by
  have d : decide (65536 < (s.size : Int)) = true := decide_eq_true (by omega)
  clear h
  go_enter Try.func10, Try.ntmps10
  go_wp2
  go_ret2
  exact ⟨rfl, Below.refl _ _⟩
set_option maxHeartbeats 800000 in
theorem rseal_fits (s : ByteArray) (h : s.size ≤ 65536) (w : World) :
    Calls Try.prog 10 #[.string s] w fun e w' => e = .returned (.tuple #[.string ⟨(sealL s.data.toList).toArray⟩, .int .i64 0]) ∧ Below w.heap.size w w' := by
  have d : decide (65536 < (s.size : Int)) = false := decide_eq_false (by omega)
  have hu : IntKind.u64.wrap (s.size : Int) = (s.size : Int) := by rw [IntKind.wrap_u64]; omega
  have HV := Lib.hid (show s.size < 2 ^ 64 by omega)
  have hn := putS4 s.size
  generalize hN : putS s.size 4 = N at *
  have HN := Lib.hid hN
  have hn4 : N.size ≤ 4 := by omega
  have HX : Hid (CrcP.sum (N ++ s).data.toList = CrcP.sum (ShiftP.putN s.size 4 ++ s.data.toList)) := Lib.hid (by rw [ByteArray.data_append, Array.toList_append, hn.1])
  generalize hx : CrcP.sum (ShiftP.putN s.size 4 ++ s.data.toList) = X at *
  obtain ⟨m, hm, hmlt⟩ : ∃ m : Nat, u X = (m : Int) ∧ m < 4294967296 := ⟨X.toNat, rfl, X.isLt⟩
  have hmX : m = X.toNat := by unfold u at hm; omega
  have hu2 : IntKind.u64.wrap (m : Int) = (m : Int) := by rw [IntKind.wrap_u64]; omega
  have HM := Lib.hid hm
  have HMV := Lib.hid (show m < 2 ^ 64 by omega)
  have hp := putS4 m
  generalize hP : putS m 4 = Q at *
  have HP := Lib.hid hP
  have hp4 : Q.size ≤ 4 := by omega
  have HR : Hid (N ++ Q ++ s = ⟨(sealL s.data.toList).toArray⟩) := Lib.hid (by
    apply ByteArray.ext; apply Array.toList_inj.1
    rw [ByteArray.data_append, Array.toList_append, ByteArray.data_append, Array.toList_append, hn.1, hp.1, sealL, hmX, ← hx]; simp)
  have HS := Lib.hid (show (N ++ s).size ≤ 9223372036854775807 by rw [ByteArray.size_append]; omega)
  clear hN hn hx hm hmX hp hP
  go_enter Try.func10, Try.ntmps10
  go_wp2_with fail
  refine (rput_any _ HV.out _ _).mono ?_; rintro e w1 ⟨rfl, hb1⟩
  rw [HN.out]
  go_wp2_with (go_at_call 21; refine (rsum_any _ _ HS.out).mono ?_; rintro e w2 ⟨he, rfl⟩; obtain rfl := he.trans (congrArg (fun x => Ending.returned (.int .u32 x)) ((congrArg u HX.out).trans HM.out)))
  refine (rput_any _ HMV.out _ _).mono ?_; rintro e w3 ⟨rfl, hb3⟩
  rw [HP.out]
  go_wp2_with fail
  go_ret2
  refine ⟨?_, bstep hb1 hb3⟩
  rw [← HR.out]; rfl
theorem rseal_any (s : ByteArray) (w : World) :
    Calls Try.prog 10 #[.string s] w fun e w' => e = .returned (.tuple #[.string (if s.size ≤ 65536 then ⟨(sealL s.data.toList).toArray⟩ else ⟨#[]⟩), .int .i64 (if s.size ≤ 65536 then 0 else 2)]) ∧ Below w.heap.size w w' := by
  by_cases h : s.size ≤ 65536
  · rw [if_pos h, if_pos h]; exact rseal_fits s h w
  · rw [if_neg h, if_neg h]; exact rseal_long s (by omega) w
end Go.Proofs.Ytlmbllboemgcpaa.FrameW
