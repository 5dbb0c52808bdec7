/- The walks of the package crc: what each function computes, said over bit vectors. -/
import Derived.Test.YtnonnikeebmcoaaBase
import Derived.Test.YtnonnikeebmcoaaCrcPlain
namespace Go.Proofs.Ytnonnikeebmcoaa.CrcW
open Go.RowKit
open CrcP (W)

/-- a word as an integer, closed to simp -/
def u (x : W) : Int := (x.toNat : Int)
theorem u_nonneg (x : W) : 0 ≤ u x := Int.natCast_nonneg _
theorem u_lt (x : W) : u x < 4294967296 := by have := x.isLt; unfold u; omega
theorem u_inj {x y : W} (h : u x = u y) : x = y := BitVec.eq_of_toNat_eq (by unfold u at h; omega)
theorem u32_xor_bv (x y : W) : bits .xor .u32 (u x) (u y) = u (x ^^^ y) := by
  unfold u
  rw [u32_xor_nat _ _ x.isLt y.isLt, BitVec.toNat_xor]
theorem and_one (r : W) : bits BinOp.and IntKind.u32 (u r) 1 = ((r.toNat % 2 : Nat) : Int) := by
  rw [← nat_mask1]; exact u32_and_nat r.toNat 1 r.isLt (by omega)
theorem bit_zero (r : W) : r.getLsbD 0 = decide (r.toNat % 2 = 1) := by simp [BitVec.getLsbD, Nat.testBit_zero]
theorem half (r : W) : u r / (2 : Int) = u (r >>> (1 : Nat)) := by
  unfold u; rw [BitVec.toNat_ushiftRight, Nat.shiftRight_eq_div_pow]; omega
theorem step_yes (r : W) (h : (bits BinOp.and IntKind.u32 (u r) 1 == 1) = true) : bits BinOp.xor IntKind.u32 (u r / 2) 3988292384 = u (CrcP.step r) := by
  rw [and_one] at h
  have h3 : r.getLsbD 0 = true := by simp at h; rw [bit_zero]; simp; omega
  rw [half, CrcP.step, h3]
  exact u32_xor_bv _ CrcP.poly
theorem step_no (r : W) (h : (bits BinOp.and IntKind.u32 (u r) 1 == 1) = false) : u r / 2 = u (CrcP.step r) := by
  rw [and_one] at h
  have h3 : r.getLsbD 0 = false := by simp at h; rw [bit_zero]; simp; omega
  rw [half, CrcP.step, h3]; rfl
set_option maxHeartbeats 400000 in
theorem step_any (r : W) (w : World) :
    Calls Try.prog 11 #[.int .u32 (u r)] w fun e w' => e = .returned (.int .u32 (u (CrcP.step r))) ∧ w = w' := by
  go_enter Try.func11, Try.ntmps11
  go_wp2
  all_goals go_ret
  · exact ⟨ret_int (step_yes r (by assumption)), rfl⟩
  · exact ⟨ret_int (step_no r (by assumption)), rfl⟩

theorem not_bv (x : W) : bits BinOp.xor IntKind.u32 IntKind.u32.max (u x) = u (~~~x) := by
  have h := u32_xor_bv (BitVec.allOnes 32) x
  rw [BitVec.not_def, ← h]; rfl
theorem byte_bv (x : W) (c : UInt8) : bits BinOp.xor IntKind.u32 (u x) ((c.toNat : Int) % 4294967296) = u (x ^^^ CrcP.ofByte c) := by
  rw [← u32_xor_bv]
  congr 1
theorem fold_take (r : W) (s : ByteArray) (k : Nat) (h : k < s.size) : CrcP.fold r (s.data.toList.take (k + 1)) = CrcP.steps 8 (CrcP.fold r (s.data.toList.take k) ^^^ CrcP.ofByte s[k]) := by
  rw [List.take_succ_eq_append_getElem (by simpa using h), CrcP.fold_append]; rfl

set_option maxHeartbeats 400000 in
theorem more_any (r : W) (s : ByteArray) (w : World) (hs : s.size ≤ 9223372036854775807) :
    Calls Try.prog 8 #[.int .u32 (u r), .string s] w fun e w' => e = .returned (.int .u32 (u (CrcP.more r s.data.toList))) ∧ w = w' := by
  go_enter Try.func8, Try.ntmps8
  go_wp2
  go_loop [5, 11] (fun r' i => ∃ k : Nat, k ≤ s.size ∧ i = .int .i64 k ∧ r' = .int .u32 (u (CrcP.fold (~~~r) (s.data.toList.take k)))) (fun _ i => s.size - (intOf i).toNat)
  case atStart => exact ⟨0, Nat.zero_le _, rfl, by rw [not_bv]; rfl⟩
  case round =>
    obtain ⟨k, hk, rfl, rfl⟩ := hrel
    by_cases hlt : k < s.size
    · have hb := byte_bv (CrcP.fold (~~~r) (s.data.toList.take k)) s[k]
      have HS := Lib.hid (fold_take (~~~r) s k hlt)
      go_wp2
      generalize CrcP.fold (~~~r) (s.data.toList.take k) ^^^ CrcP.ofByte s[k] = x at *
      go_loop [5, 20] (fun r' j => ∃ m : Nat, m ≤ 8 ∧ j = .int .i64 m ∧ r' = .int .u32 (u (CrcP.steps m x))) (fun _ j => 8 - (intOf j).toNat)
      case atStart => exact ⟨0, Nat.zero_le _, rfl, rfl⟩
      case round =>
        obtain ⟨m, hm, rfl, rfl⟩ := hrel
        have HM := Lib.hid (CrcP.steps_succ' m x)
        by_cases hlm : m < 8
        · go_wp2_with (go_at_call 11; refine (step_any _ _).mono ?_; rintro e w' ⟨rfl, rfl⟩)
          go_round
          case rel => exact ⟨m + 1, by omega, by go_num, by rw [HM.out]⟩
          case measure => simp [intOf]; omega
        · obtain rfl : m = 8 := by omega
          go_wp2
          go_round
          case rel => exact ⟨k + 1, by omega, by go_num, by rw [HS.out]⟩
          case measure => simp [intOf]; omega
    · go_wp2
      go_ret
      refine ⟨ret_int ?_, rfl⟩
      rw [CrcP.more, ← not_bv, List.take_of_length_le (by simp; omega)]

set_option maxHeartbeats 400000 in
theorem sum_any (s : ByteArray) (w : World) (hs : s.size ≤ 9223372036854775807) :
    Calls Try.prog 9 #[.string s] w fun e w' => e = .returned (.int .u32 (u (CrcP.sum s.data.toList))) ∧ w = w' := by
  go_enter Try.func9, Try.ntmps9
  go_wp2_with (go_at_call 8; refine (more_any 0#32 s _ hs).mono ?_; rintro e w' ⟨rfl, rfl⟩)
  go_ret
  exact ⟨rfl, rfl⟩

/-- a matrix's cells -/
def cellOf (L : W → W) (i : Nat) : Value := .int .u32 (u (L (BitVec.ofNat 32 (2 ^ i))))

theorem shr_succ (r : W) (k : Nat) : u (r >>> k) / (2 : Int) = u (r >>> (k + 1)) := by
  rw [half, BitVec.shiftRight_add]
theorem shr_bit (r : W) (k : Nat) : bits BinOp.and IntKind.u32 (u (r >>> k)) 1 = ((r.toNat / 2 ^ k % 2 : Nat) : Int) := by
  rw [and_one, BitVec.toNat_ushiftRight, Nat.shiftRight_eq_div_pow]
theorem shr_lt (r : W) (k : Nat) (h : ¬ r >>> k = 0#32) : k < 32 := by
  refine Nat.lt_of_not_le fun hk => h ?_
  apply BitVec.eq_of_toNat_eq
  rw [BitVec.toNat_ushiftRight, Nat.shiftRight_eq_div_pow, Nat.div_eq_of_lt]
  · rfl
  · exact Nat.lt_of_lt_of_le r.isLt (Nat.pow_le_pow_right (by omega) hk)
theorem u_pos (x : W) (h : ¬ x = 0#32) : 0 < u x := by
  rcases Int.lt_or_le 0 (u x) with h1 | h1
  · exact h1
  · exact absurd (u_inj (y := 0#32) (Int.le_antisymm h1 (u_nonneg x))) h
theorem times_last (L : W → W) (r : W) (k : Nat) (h : r >>> k = 0#32) : L (BitVec.ofNat 32 (r.toNat % 2 ^ k)) = L r := by
  have h1 := congrArg BitVec.toNat h
  rw [BitVec.toNat_ushiftRight, Nat.shiftRight_eq_div_pow] at h1
  have h2 := Nat.div_add_mod r.toNat (2 ^ k)
  rw [h1] at h2
  have h3 : r.toNat % 2 ^ k = r.toNat := by simpa using h2
  rw [h3]; simp
theorem times_yes (L : W → W) (hL : CrcP.Lin L) (r : W) (k : Nat) (hk : k < 32) (h : r.toNat / 2 ^ k % 2 = 1) :
    L (BitVec.ofNat 32 (r.toNat % 2 ^ k)) ^^^ L (BitVec.ofNat 32 (2 ^ k)) = L (BitVec.ofNat 32 (r.toNat % 2 ^ (k + 1))) := by
  have := CrcP.times_round hL r.toNat k hk _ rfl
  rwa [if_pos h] at this
theorem times_no (L : W → W) (hL : CrcP.Lin L) (r : W) (k : Nat) (hk : k < 32) (h : r.toNat / 2 ^ k % 2 = 0) :
    L (BitVec.ofNat 32 (r.toNat % 2 ^ k)) = L (BitVec.ofNat 32 (r.toNat % 2 ^ (k + 1))) := by
  have := CrcP.times_round hL r.toNat k hk _ rfl
  rwa [if_neg (by omega)] at this

set_option maxHeartbeats 400000 in
theorem times_any (L : W → W) (hL : CrcP.Lin L) (g : Nat) (r : W) (w : World) (hm : w.rowIs g 36 32 (cellOf L)) :
    Calls Try.prog 13 #[.pointer (some ⟨g, 0, none⟩), .int .u32 (u r)] w fun e w' => e = .returned (.int .u32 (u (L r))) ∧ w = w' := by
  have HM := Lib.hid hm
  clear hm
  go_enter Try.func13, Try.ntmps13
  go_wp2
  go_loop [1, 5, 6] (fun v o i => ∃ k : Nat, i = .int .i64 k ∧ v = .int .u32 (u (r >>> k)) ∧ o = .int .u32 (u (L (BitVec.ofNat 32 (r.toNat % 2 ^ k))))) (fun v _ _ => (intOf v).toNat)
  case atStart => exact ⟨0, rfl, by simp, by simp [Nat.mod_one, hL.zero]; rfl⟩
  case round =>
    obtain ⟨k, rfl, rfl, rfl⟩ := hrel
    by_cases hz : r >>> k = 0#32
    · have ht : (u (r >>> k) != 0) = false := by rw [hz]; rfl
      have HZ := Lib.hid hz
      clear hz
      go_wp2
      go_ret
      exact ⟨ret_int (by rw [times_last L r k HZ.out]), rfl⟩
    · have hk := shr_lt r k hz
      have hp := u_pos _ hz
      have ht : (u (r >>> k) != 0) = true := by rw [bne_iff_ne]; omega
      clear hz
      have hs := shr_succ r k
      have hlt : u (r >>> (k + 1)) < u (r >>> k) := by rw [← hs]; omega
      have hn := u_nonneg (r >>> (k + 1))
      rcases (by omega : r.toNat / 2 ^ k % 2 = 1 ∨ r.toNat / 2 ^ k % 2 = 0) with hb | hb
      · have hy := Lib.hid (times_yes L hL r k hk hb)
        have hb' : (bits BinOp.and IntKind.u32 (u (r >>> k)) 1 == 1) = true := by rw [shr_bit, hb]; rfl
        have hc := HM.out.cell hk
        have hx := u32_xor_bv (L (BitVec.ofNat 32 (r.toNat % 2 ^ k))) (L (BitVec.ofNat 32 (2 ^ k)))
        unfold cellOf at hc
        clear hb
        go_wp2
        go_round
        case rel => exact ⟨k + 1, by go_num, rfl, by rw [hy.out]⟩
        case measure => simp [intOf]; omega
      · have hy := Lib.hid (times_no L hL r k hk hb)
        have hb' : (bits BinOp.and IntKind.u32 (u (r >>> k)) 1 == 1) = false := by rw [shr_bit, hb]; rfl
        clear hb
        go_wp2
        go_round
        case rel => exact ⟨k + 1, by go_num, rfl, by rw [← hy.out]⟩
        case measure => simp [intOf]; omega

/-- a pointer to a new matrix -/
def NewMat (L : W → W) (w : World) (e : Ending) (w' : World) : Prop :=
  ∃ g, e = .returned (.pointer (some ⟨g, 0, none⟩)) ∧ w'.rowIs g 36 32 (cellOf L) ∧ Below w.heap.size w w' ∧ w.heap.size ≤ g

/-- a matrix of which k cells are made -/
def part (L : W → W) (k j : Nat) : Value := if j < k then cellOf L j else .int .u32 0

theorem part_zero (L : W → W) (i : Nat) : Value.int .u32 0 = part L 0 i := by simp [part]
theorem part_all (L : W → W) (i : Nat) (h : i < 32) : part L 32 i = cellOf L i := by simp [part, h]
theorem part_set (L : W → W) (k i : Nat) : (if i = k then cellOf L k else part L k i) = part L (k + 1) i := by
  unfold part
  by_cases h : i = k
  · subst h; simp
  · by_cases h2 : i < k
    · rw [if_neg h, if_pos h2, if_pos (by omega)]
    · rw [if_neg h, if_neg h2, if_neg (by omega)]

set_option maxHeartbeats 400000 in
theorem square_any (L : W → W) (hL : CrcP.Lin L) (g : Nat) (w : World) (hm : w.rowIs g 36 32 (cellOf L)) :
    Calls Try.prog 12 #[.pointer (some ⟨g, 0, none⟩)] w (NewMat (fun r => L (L r)) w) := by
  have HM := Lib.hid hm
  have hg := hm.lt
  clear hm
  go_enter Try.func12, Try.ntmps12
  go_wp2
  go_loopw [5] (fun i wr => ∃ k : Nat, k ≤ 32 ∧ i = .int .i64 k ∧ wr.rowIs w.heap.size 36 32 (part (fun r => L (L r)) k) ∧ Below w.heap.size w wr) (fun i _ => 32 - (intOf i).toNat)
  case atStart =>
    refine ⟨0, by omega, rfl, row_new w _ 32 (.int .u32 0) _ _ rfl (fun i _ => part_zero _ i), (Below.refl _ _).alloc (Nat.le_refl _) _⟩
  case round =>
    obtain ⟨k, hk, rfl, hr, hb⟩ := hrel
    have HR := Lib.hid hr
    have HB := Lib.hid hb
    have HMr := Lib.hid (HM.out.of_block (hb.block g hg))
    by_cases hlt : k < 32
    · have hc := HMr.out.cell hlt
      have hc2 := hr.cell hlt
      have hf := hr.frozen k
      unfold cellOf at hc
      clear hr hb
      go_wp2_with (go_at_call 13; refine (times_any L hL g _ _ HMr.out).mono ?_; rintro e w' ⟨rfl, rfl⟩)
      go_roundw
      case rel => exact ⟨k + 1, by omega, by go_num, (HR.out.set k _).congr (fun i _ => part_set _ k i), HB.out.setCell (Nat.le_refl _) _⟩
      case measure => simp [intOf]; omega
    · obtain rfl : k = 32 := by omega
      clear hr hb
      go_wp2
      go_ret
      exact ⟨_, rfl, HR.out.congr (fun i hi => part_all _ i hi), HB.out, Nat.le_refl _⟩
theorem u32_one_shl (k : Nat) : IntKind.u32.wrap ((2 : Int) ^ k) = u (BitVec.ofNat 32 (2 ^ k)) := by
  unfold u
  rw [IntKind.wrap_u32', BitVec.toNat_ofNat, Int.natCast_emod, Int.natCast_pow]; rfl
theorem ofInt_i64 (a : Nat) (ha : a < 9223372036854775808) : (BitVec.ofInt 64 (a : Int)).toNat = a := by
  rw [BitVec.ofInt_natCast, BitVec.toNat_ofNat]; exact Nat.mod_eq_of_lt (by omega)
theorem i64_and_one (a : Nat) (ha : a < 9223372036854775808) : bits .and .i64 (a : Int) 1 = ((a % 2 : Nat) : Int) := by
  show IntKind.i64.wrap ((BitVec.ofInt 64 (a : Int) &&& BitVec.ofInt 64 ((1 : Nat) : Int)).toNat : Int) = _
  rw [BitVec.toNat_and, ofInt_i64 a ha, ofInt_i64 1 (by omega), IntKind.wrap_i64, nat_mask1]
  omega
/-- what is left of a number behind k halvings, closed to simp -/
def dv (n k : Nat) : Nat := n / 2 ^ k
theorem dv_zero (n : Nat) : dv n 0 = n := by simp [dv]
theorem dv_succ (n k : Nat) : dv n (k + 1) = dv n k / 2 := by unfold dv; rw [Nat.pow_succ, Nat.div_div_eq_div_mul]
theorem dv_le (n k : Nat) : dv n k ≤ n := Nat.div_le_self _ _
theorem dv_end (n k : Nat) (h : dv n k = 0) : n % 2 ^ k = n := by
  have h2 := Nat.div_add_mod n (2 ^ k)
  unfold dv at h
  rw [h] at h2
  simpa using h2
theorem dv_bit (n k : Nat) : n % 2 ^ (k + 1) = n % 2 ^ k + 2 ^ k * (dv n k % 2) := Nat.mod_pow_succ
theorem join_yes (n k : Nat) (a : W) (h : dv n k % 2 = 1) : CrcP.steps (8 * 2 ^ k) (CrcP.steps (8 * (n % 2 ^ k)) a) = CrcP.steps (8 * (n % 2 ^ (k + 1))) a := by
  rw [dv_bit, h, ← CrcP.steps_add]; congr 1; omega
theorem join_no (n k : Nat) (a : W) (h : dv n k % 2 = 0) : CrcP.steps (8 * (n % 2 ^ k)) a = CrcP.steps (8 * (n % 2 ^ (k + 1))) a := by
  rw [dv_bit, h]; rfl
theorem twice (m : Nat) : (fun r => CrcP.steps m (CrcP.steps m r)) = CrcP.steps (m + m) := by
  funext r; rw [CrcP.steps_add]
theorem steps_one : CrcP.steps 1 = CrcP.step := rfl

set_option maxHeartbeats 1000000 in
theorem join_any (a b : W) (n : Nat) (hn : n ≤ 1073741824) (w : World) :
    Calls Try.prog 10 #[.int .u32 (u a), .int .u32 (u b), .int .i64 n] w fun e w' => e = .returned (.int .u32 (u (CrcP.steps (8 * n) a ^^^ b))) ∧ Below w.heap.size w w' := by
  go_enter Try.func10, Try.ntmps10
  go_wp2
  go_loopw [17] (fun i wr => ∃ k : Nat, k ≤ 32 ∧ i = .int .i64 k ∧ wr.rowIs w.heap.size 36 32 (part CrcP.step k) ∧ Below w.heap.size w wr) (fun i _ => 32 - (intOf i).toNat)
  case atStart =>
    refine ⟨0, by omega, rfl, row_new w _ 32 (.int .u32 0) _ _ rfl (fun i _ => part_zero _ i), (Below.refl _ _).alloc (Nat.le_refl _) _⟩
  case round =>
    obtain ⟨k, hk, rfl, hr, hb⟩ := hrel
    have HR := Lib.hid hr
    have HB := Lib.hid hb
    by_cases hlt : k < 32
    · have hc2 := hr.cell hlt
      have hf := hr.frozen k
      clear hr hb
      go_wp2_with fail
      have hsh := u32_one_shl k
      go_region_with (go_at_call 11; refine (step_any _ _).mono ?_; rintro e w' ⟨rfl, rfl⟩)
      go_wp2
      go_roundw
      case rel => exact ⟨k + 1, by omega, by go_num, (HR.out.drew.set k _).congr (fun i _ => part_set _ k i), HB.out.drew.setCell (Nat.le_refl _) _⟩
      case measure => simp [intOf]; omega
    · have hk32 : k = 32 := by omega
      subst hk32
      have HR3 := Lib.hid (HR.out.congr (fun i hi => part_all _ i hi))
      clear HR hr hb
      obtain ⟨k, hk, hk0⟩ : ∃ k : Nat, 32 ≤ k ∧ (Value.int .i64 ((32 : Nat) : Int)) = .int .i64 (k : Int) := ⟨32, by omega, rfl⟩
      rw [hk0]
      clear hk0
      go_wp2_with fail
      go_loopw [7, 28] (fun m i w2 => ∃ j g : Nat, j ≤ 3 ∧ i = .int .i64 j ∧ m = .pointer (some ⟨g, 0, none⟩) ∧ w2.rowIs g 36 32 (cellOf (CrcP.steps (2 ^ j))) ∧ Below w.heap.size w w2) (fun _ i _ => 3 - (intOf i).toNat)
      case atStart => exact ⟨0, w.heap.size, by omega, rfl, rfl, HR3.out, HB.out⟩
      case round =>
        obtain ⟨j, g, hj, rfl, rfl, hr2, hb2⟩ := hrel
        have HR2 := Lib.hid hr2
        have HB2 := Lib.hid hb2
        clear hr2 hb2
        by_cases hlj : j < 3
        · go_wp2_with (go_at_call 12; refine (square_any _ (CrcP.lin_steps _) g _ HR2.out).mono ?_; rintro e w3 ⟨g3, rfl, hr3, hb3, hg3⟩)
          go_roundw
          case rel => exact ⟨j + 1, g3, by omega, by go_num, rfl, by rw [Nat.pow_succ, Nat.mul_two, ← twice]; exact hr3, HB2.out.trans (hb3.mono HB2.out.size)⟩
          case measure => simp [intOf]; omega
        · have HR4 := Lib.hid (show wr.rowIs g 36 32 (cellOf (CrcP.steps (8 * 2 ^ 0))) by
            have h := HR2.out
            rw [show j = 3 by omega] at h; exact h)
          go_wp2_with fail
          go_loopw [0, 2, 7] (fun a' n' m w2 => ∃ k g : Nat, n' = .int .i64 (dv n k : Nat) ∧ a' = .int .u32 (u (CrcP.steps (8 * (n % 2 ^ k)) a)) ∧ m = .pointer (some ⟨g, 0, none⟩) ∧ w2.rowIs g 36 32 (cellOf (CrcP.steps (8 * 2 ^ k))) ∧ Below w.heap.size w w2) (fun _ n' _ _ => (intOf n').toNat)
          case atStart => exact ⟨0, g, by rw [dv_zero], by rw [Nat.pow_zero, Nat.mod_one]; rfl, rfl, HR4.out, HB2.out⟩
          case round =>
            obtain ⟨k, g, rfl, rfl, rfl, hr5, hb5⟩ := hrel
            have HR5 := Lib.hid hr5
            have HB5 := Lib.hid hb5
            have hle := dv_le n k
            clear hr5 hb5 HR4 HR2 HB2 HR3 HB
            by_cases hz : 0 < dv n k
            · have hand := i64_and_one (dv n k) (by omega)
              rcases (by omega : dv n k % 2 = 1 ∨ dv n k % 2 = 0) with hbit | hbit
              · have HY := Lib.hid (join_yes n k a hbit)
                rw [hbit] at hand
                have hand1 : (bits .and .i64 (dv n k : Int) 1 == 1) = true := by rw [hand]; rfl
                clear hand hbit
                go_wp2_with (first
                  | (go_at_call 13; refine (times_any _ (CrcP.lin_steps _) g _ _ HR5.out).mono ?_; rintro e w' ⟨rfl, rfl⟩)
                  | (go_at_call 12; refine (square_any _ (CrcP.lin_steps _) g _ HR5.out).mono ?_; rintro e w3 ⟨g3, rfl, hr3, hb3, hg3⟩))
                go_roundw
                case rel => exact ⟨k + 1, g3, by rw [dv_succ, Int.natCast_ediv]; rfl, by rw [HY.out], rfl, by rw [Nat.pow_succ, ← Nat.mul_assoc, Nat.mul_two, ← twice]; exact hr3, HB5.out.trans (hb3.mono HB5.out.size)⟩
                case measure => simp [intOf]; omega
              · have HY := Lib.hid (join_no n k a hbit)
                rw [hbit] at hand
                have hand1 : (bits .and .i64 (dv n k : Int) 1 == 1) = false := by rw [hand]; rfl
                clear hand hbit
                go_wp2_with (first
                  | (go_at_call 12; refine (square_any _ (CrcP.lin_steps _) g _ HR5.out).mono ?_; rintro e w3 ⟨g3, rfl, hr3, hb3, hg3⟩))
                go_roundw
                case rel => exact ⟨k + 1, g3, by rw [dv_succ, Int.natCast_ediv]; rfl, by rw [HY.out], rfl, by rw [Nat.pow_succ, ← Nat.mul_assoc, Nat.mul_two, ← twice]; exact hr3, HB5.out.trans (hb3.mono HB5.out.size)⟩
                case measure => simp [intOf]; omega
            · have HE := Lib.hid (dv_end n k (by omega))
              have hxor := u32_xor_bv (CrcP.steps (8 * (n % 2 ^ k)) a) b
              go_wp2
              go_ret
              exact ⟨ret_int (by rw [HE.out]), HB5.out⟩
end Go.Proofs.Ytnonnikeebmcoaa.CrcW
