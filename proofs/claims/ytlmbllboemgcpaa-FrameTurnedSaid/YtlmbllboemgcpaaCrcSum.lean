/- The walks of the package crc: what each function computes, said over bit vectors. -/
import Derived.Test.YtlmbllboemgcpaaBase
import Derived.Test.YtlmbllboemgcpaaCrcPlain
namespace Go.Proofs.Ytlmbllboemgcpaa.CrcW
open Go.RowKit
open CrcP (W)

/-- a word as an integer, closed to simp -/
def u (x : W) : Int := (x.toNat : Int)
theorem u_nonneg (x : W) : 0 ≤ u x := Int.natCast_nonneg _
theorem u_lt (x : W) : u x < 4294967296 := by have := x.isLt; unfold u; omega
theorem u_inj {x y : W} (h : u x = u y) : x = y := BitVec.eq_of_toNat_eq (by unfold u at h; omega)
theorem u32_xor_bv (x y : W) : bits .xor .u32 (u x) (u y) = u (x ^^^ y) := by
  unfold u
  rw [u32_xor_nat _ _ x.isLt y.isLt, BitVec.toNat_xor]
theorem and_one (r : W) : bits BinOp.and IntKind.u32 (u r) 1 = ((r.toNat % 2 : Nat) : Int) := by
  rw [← nat_mask1]; exact u32_and_nat r.toNat 1 r.isLt (by omega)
theorem bit_zero (r : W) : r.getLsbD 0 = decide (r.toNat % 2 = 1) := by simp [BitVec.getLsbD, Nat.testBit_zero]
theorem half (r : W) : u r / (2 : Int) = u (r >>> (1 : Nat)) := by
  unfold u; rw [BitVec.toNat_ushiftRight, Nat.shiftRight_eq_div_pow]; omega
theorem step_yes (r : W) (h : (bits BinOp.and IntKind.u32 (u r) 1 == 1) = true) : bits BinOp.xor IntKind.u32 (u r / 2) 3988292384 = u (CrcP.step r) := by
  rw [and_one] at h
  have h3 : r.getLsbD 0 = true := by simp at h; rw [bit_zero]; simp; omega
  rw [half, CrcP.step, h3]
  exact u32_xor_bv _ CrcP.poly
theorem step_no (r : W) (h : (bits BinOp.and IntKind.u32 (u r) 1 == 1) = false) : u r / 2 = u (CrcP.step r) := by
  rw [and_one] at h
  have h3 : r.getLsbD 0 = false := by simp at h; rw [bit_zero]; simp; omega
  rw [half, CrcP.step, h3]; rfl
set_option maxHeartbeats 400000 in
theorem step_any (r : W) (w : World) :
    Calls Try.prog 24 #[.int .u32 (u r)] w fun e w' => e = .returned (.int .u32 (u (CrcP.step r))) ∧ w = w' := by
  go_enter Try.func24, Try.ntmps24
  go_wp2
  all_goals go_ret
  · exact ⟨ret_int (step_yes r (by assumption)), rfl⟩
  · exact ⟨ret_int (step_no r (by assumption)), rfl⟩

theorem not_bv (x : W) : bits BinOp.xor IntKind.u32 IntKind.u32.max (u x) = u (~~~x) := by
  have h := u32_xor_bv (BitVec.allOnes 32) x
  rw [BitVec.not_def, ← h]; rfl
theorem byte_bv (x : W) (c : UInt8) : bits BinOp.xor IntKind.u32 (u x) ((c.toNat : Int) % 4294967296) = u (x ^^^ CrcP.ofByte c) := by
  rw [← u32_xor_bv]
  congr 1
theorem fold_take (r : W) (s : ByteArray) (k : Nat) (h : k < s.size) : CrcP.fold r (s.data.toList.take (k + 1)) = CrcP.steps 8 (CrcP.fold r (s.data.toList.take k) ^^^ CrcP.ofByte s[k]) := by
  rw [List.take_succ_eq_append_getElem (by simpa using h), CrcP.fold_append]; rfl

set_option maxHeartbeats 400000 in
theorem more_any (r : W) (s : ByteArray) (w : World) (hs : s.size ≤ 9223372036854775807) :
    Calls Try.prog 17 #[.int .u32 (u r), .string s] w fun e w' => e = .returned (.int .u32 (u (CrcP.more r s.data.toList))) ∧ w = w' := by
  go_enter Try.func17, Try.ntmps17
  go_wp2
  go_loop [5, 11] (fun r' i => ∃ k : Nat, k ≤ s.size ∧ i = .int .i64 k ∧ r' = .int .u32 (u (CrcP.fold (~~~r) (s.data.toList.take k)))) (fun _ i => s.size - (intOf i).toNat)
  case atStart => exact ⟨0, Nat.zero_le _, rfl, by rw [not_bv]; rfl⟩
  case round =>
    obtain ⟨k, hk, rfl, rfl⟩ := hrel
    by_cases hlt : k < s.size
    · have hb := byte_bv (CrcP.fold (~~~r) (s.data.toList.take k)) s[k]
      have HS := Lib.hid (fold_take (~~~r) s k hlt)
      go_wp2
      generalize CrcP.fold (~~~r) (s.data.toList.take k) ^^^ CrcP.ofByte s[k] = x at *
      go_loop [5, 20] (fun r' j => ∃ m : Nat, m ≤ 8 ∧ j = .int .i64 m ∧ r' = .int .u32 (u (CrcP.steps m x))) (fun _ j => 8 - (intOf j).toNat)
      case atStart => exact ⟨0, Nat.zero_le _, rfl, rfl⟩
      case round =>
        obtain ⟨m, hm, rfl, rfl⟩ := hrel
        have HM := Lib.hid (CrcP.steps_succ' m x)
        by_cases hlm : m < 8
        · go_wp2_with (go_at_call 24; refine (step_any _ _).mono ?_; rintro e w' ⟨rfl, rfl⟩)
          go_round
          case rel => exact ⟨m + 1, by omega, by go_num, by rw [HM.out]⟩
          case measure => simp [intOf]; omega
        · obtain rfl : m = 8 := by omega
          go_wp2
          go_round
          case rel => exact ⟨k + 1, by omega, by go_num, by rw [HS.out]⟩
          case measure => simp [intOf]; omega
    · go_wp2
      go_ret
      refine ⟨ret_int ?_, rfl⟩
      rw [CrcP.more, ← not_bv, List.take_of_length_le (by simp; omega)]

set_option maxHeartbeats 400000 in
theorem sum_any (s : ByteArray) (w : World) (hs : s.size ≤ 9223372036854775807) :
    Calls Try.prog 18 #[.string s] w fun e w' => e = .returned (.int .u32 (u (CrcP.sum s.data.toList))) ∧ w = w' := by
  go_enter Try.func18, Try.ntmps18
  go_wp2_with (go_at_call 17; refine (more_any 0#32 s _ hs).mono ?_; rintro e w' ⟨rfl, rfl⟩)
  go_ret
  exact ⟨rfl, rfl⟩

end Go.Proofs.Ytlmbllboemgcpaa.CrcW
