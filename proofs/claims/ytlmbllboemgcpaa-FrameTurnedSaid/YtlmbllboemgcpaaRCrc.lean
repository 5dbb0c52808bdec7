/- The reference's sums. -/
import Derived.Test.YtlmbllboemgcpaaCrcSum
import Derived.IntWalk
namespace Go.Proofs.Ytlmbllboemgcpaa.CrcW
open Go.RowKit
open CrcP (W)
theorem rmod (r : W) : u r % 2 = ((r.toNat % 2 : Nat) : Int) := by unfold u; omega
set_option maxHeartbeats 400000 in
theorem rstep_any (r : W) (w : World) :
    Calls Try.prog 30 #[.int .u32 (u r)] w fun e w' => e = .returned (.int .u32 (u (CrcP.step r))) ∧ w = w' := by
  have h0 := u_nonneg r
  have h1 := u_lt r
  have HY : Hid (u r % 2 = 1 → bits BinOp.xor IntKind.u32 (u r / 2) 3988292384 = u (CrcP.step r)) := Lib.hid fun h => step_yes r (by rw [and_one, ← rmod, h]; rfl)
  have HN : Hid (¬ u r % 2 = 1 → u r / 2 = u (CrcP.step r)) := Lib.hid fun h => step_no r (by rw [and_one, ← rmod, beq_eq_false_iff_ne]; exact h)
  go_enter Try.func30, Try.ntmps30
  by_cases h : u r % 2 = 1
  · have d : (u r % 2 == 1) = true := by rw [h]; rfl
    go_wp2
    go_ret
    exact ⟨ret_int (HY.out h), rfl⟩
  · have d : (u r % 2 == 1) = false := by rw [beq_eq_false_iff_ne]; exact h
    go_wp2
    go_ret
    exact ⟨ret_int (HN.out h), rfl⟩
set_option maxHeartbeats 400000 in
theorem rmore_any (r : W) (s : ByteArray) (w : World) (hs : s.size ≤ 9223372036854775807) :
    Calls Try.prog 26 #[.int .u32 (u r), .string s] w fun e w' => e = .returned (.int .u32 (u (CrcP.more r s.data.toList))) ∧ w = w' := by
  go_enter Try.func26, Try.ntmps26
  go_wp2
  go_loop [5, 6] (fun r' i => ∃ k : Nat, k ≤ s.size ∧ i = .int .i64 k ∧ r' = .int .u32 (u (CrcP.fold (~~~r) (s.data.toList.take k)))) (fun _ i => s.size - (intOf i).toNat)
  case atStart => exact ⟨0, Nat.zero_le _, rfl, by rw [not_bv]; rfl⟩
  case round =>
    obtain ⟨k, hk, rfl, rfl⟩ := hrel
    by_cases hlt : k < s.size
    · have hb := byte_bv (CrcP.fold (~~~r) (s.data.toList.take k)) s[k]
      have HS := Lib.hid (fold_take (~~~r) s k hlt)
      go_wp2
      generalize CrcP.fold (~~~r) (s.data.toList.take k) ^^^ CrcP.ofByte s[k] = x at *
      go_loop [5, 7] (fun r' j => ∃ m : Nat, m ≤ 8 ∧ j = .int .i64 m ∧ r' = .int .u32 (u (CrcP.steps m x))) (fun _ j => 8 - (intOf j).toNat)
      case atStart => exact ⟨0, Nat.zero_le _, rfl, rfl⟩
      case round =>
        obtain ⟨m, hm, rfl, rfl⟩ := hrel
        have HM := Lib.hid (CrcP.steps_succ' m x)
        by_cases hlm : m < 8
        · go_wp2_with (go_at_call 30; refine (rstep_any _ _).mono ?_; rintro e w' ⟨rfl, rfl⟩)
          go_round
          case rel => exact ⟨m + 1, by omega, by go_num, by rw [HM.out]⟩
          case measure => simp [intOf]; omega
        · obtain rfl : m = 8 := by omega
          go_wp2
          go_round
          case rel => exact ⟨k + 1, by omega, by go_num, by rw [HS.out]⟩
          case measure => simp [intOf]; omega
    · go_wp2
      go_ret
      refine ⟨ret_int ?_, rfl⟩
      rw [CrcP.more, ← not_bv, List.take_of_length_le (by simp; omega)]
set_option maxHeartbeats 400000 in
theorem rsum_any (s : ByteArray) (w : World) (hs : s.size ≤ 9223372036854775807) :
    Calls Try.prog 21 #[.string s] w fun e w' => e = .returned (.int .u32 (u (CrcP.sum s.data.toList))) ∧ w = w' := by
  go_enter Try.func21, Try.ntmps21
  go_wp2_with (go_at_call 26; refine (rmore_any 0#32 s _ hs).mono ?_; rintro e w' ⟨rfl, rfl⟩)
  go_ret
  exact ⟨rfl, rfl⟩
end Go.Proofs.Ytlmbllboemgcpaa.CrcW
