/- The walk of CrcTurned. -/
import Derived.Test.YtnonnikeebmcoaaCrcLaw
import Derived.Test.YtnonnikeebmcoaaBytes
import Derived.Test.YtnonnikeebmcoaaCrcTurn
namespace Go.Proofs.Ytnonnikeebmcoaa.CrcW
open Go.RowKit
open CrcP (W)

theorem u8_flip (c : UInt8) (r : Nat) (_ : r < 8) : bits BinOp.xor IntKind.u8 (c.toNat : Int) ((2 : Int) ^ r % 256) = ((CrcP.flipB c r).toNat : Int) := by
  unfold CrcP.flipB
  rw [show ((2 : Int) ^ r % 256) = (((CrcP.bitByte r).toNat : Nat) : Int) by
    unfold CrcP.bitByte
    rw [UInt8.toNat_ofNat', Int.natCast_emod, Int.natCast_pow]; rfl]
  rw [u8_xor_nat _ _ c.toNat_lt (CrcP.bitByte r).toNat_lt, UInt8.toNat_xor]
theorem u32_bit (fl m : Nat) (h : fl < 4294967296) : (bits BinOp.and IntKind.u32 ((fl : Int) / 2 ^ m) 1 == 1) = fl.testBit m := by
  have e : ((fl : Int) / 2 ^ m) = ((fl / 2 ^ m : Nat) : Int) := by rw [Int.natCast_ediv, Int.natCast_pow]; rfl
  have h2 : fl / 2 ^ m < 4294967296 := Nat.lt_of_le_of_lt (Nat.div_le_self _ _) h
  have h1 := u32_and_nat (fl / 2 ^ m) 1 h2 (by omega)
  rw [e, show (1 : Int) = ((1 : Nat) : Int) from rfl, h1, nat_mask1, Nat.testBit_eq_decide_div_mod_eq]
  rw [Bool.eq_iff_iff]; simp; omega

set_option maxHeartbeats 1000000 in
theorem turned_walk (s : ByteArray) (hs : s.size ≤ maxLen) (at_ : Int) (_ : (Lit.int .i64 at_).wf = true) (flip : Int) (hf : (Lit.int .u32 flip).wf = true) (w : World) :
    Calls Try.prog 4 #[.string s, .int .i64 at_, .int .u32 flip] w fun e w' => e = .returned (.bool true) ∧ Below w.heap.size w w' := by
  unfold maxLen at hs
  by_cases hl : 100000 < s.size
  · go_enter Try.func4, Try.ntmps4
    go_wp2_with (go_at_call 6; refine (wakes_any _).mono ?_; rintro e w' ⟨rfl, hb⟩)
    go_ret
    exact ⟨rfl, by assumption⟩
  by_cases h0 : s.size = 0
  · have h0' : ((s.size : Int) == 0) = true := by rw [h0]; rfl
    have H0 := Lib.hid h0
    clear h0
    go_enter Try.func4, Try.ntmps4
    go_wp2_with (go_at_call 6; refine (wakes_any _).mono ?_; rintro e w' ⟨rfl, hb⟩)
    go_ret
    exact ⟨rfl, by assumption⟩
  have h0' : ((s.size : Int) == 0) = false := by rw [beq_eq_false_iff_ne]; omega
  by_cases hz : flip = 0
  · have hz' : (flip == 0) = true := by rw [hz]; rfl
    clear hz
    go_enter Try.func4, Try.ntmps4
    go_wp2_with (go_at_call 6; refine (wakes_any _).mono ?_; rintro e w' ⟨rfl, hb⟩)
    go_ret
    exact ⟨rfl, by assumption⟩
  have hz' : (flip == 0) = false := by rw [beq_eq_false_iff_ne]; exact hz
  have hpos : 1 ≤ s.size := by omega
  clear hz h0
  obtain ⟨k, hk, hk2⟩ : ∃ k : Nat, k < 8 * s.size ∧ at_ % (8 * (s.size : Int)) = k := by
    have h1 := Int.emod_nonneg at_ (b := 8 * (s.size : Int)) (by omega)
    have h2 := Int.emod_lt_of_pos at_ (b := 8 * (s.size : Int)) (by omega)
    exact ⟨(at_ % (8 * (s.size : Int))).toNat, by omega, by omega⟩
  have HK := Lib.hid hk2
  clear hk2
  obtain ⟨fl, hfl, hfl2⟩ : ∃ fl : Nat, fl < 4294967296 ∧ flip = (fl : Int) := by
    have h := hf
    simp [Lit.wf, IntKind.min, IntKind.max, IntKind.signed, IntKind.bits] at h
    exact ⟨flip.toNat, by omega, by omega⟩
  subst hfl2
  clear hf
  obtain ⟨cap, w1, hcv, hrow, hbel, hsz, hcap⟩ := conv_to_bytes (P := Try.prog) w 9 29 5 s Try.underlying9 Try.underlying29 Try.underlying5
  have HROW := Lib.hid hrow
  have HBEL := Lib.hid hbel
  clear hrow hbel
  go_enter Try.func4, Try.ntmps4
  go_wp2_with (go_at_call 7; refine (mod_any _ _ _ (by omega) (by omega)).mono ?_; rintro e w' ⟨rfl, rfl⟩; rw [HK.out])
  go_loopw [9, 10] (fun t i wr => ∃ m : Nat, m ≤ 32 ∧ k + m ≤ 8 * s.size ∧ i = .int .i64 m ∧ t = .bool (!(decide (fl % 2 ^ m = 0))) ∧ BytesAt wr w.heap.size s.size (CrcP.turnedF s.data.toList k fl m) ∧ Below w.heap.size w wr) (fun _ i _ => 32 - (intOf i).toNat)
  case atStart => exact ⟨0, by omega, by omega, rfl, by simp [Nat.mod_one], HROW.out, HBEL.out⟩
  case round =>
    obtain ⟨m, hm, hkm, rfl, rfl, hr, hb⟩ := hrel
    have HR := Lib.hid hr
    have HB := Lib.hid hb
    have HE := Lib.hid (u32_bit fl m hfl)
    by_cases h1 : m < 32 ∧ k + m < 8 * s.size
    · obtain ⟨h1, h2⟩ := h1
      have hc := (hr ((k + m) / 8) (by omega)).1
      have hf := (hr ((k + m) / 8) (by omega)).2
      have hx := u8_flip (CrcP.turnedF s.data.toList k fl m ((k + m) / 8)) ((k + m) % 8) (Nat.mod_lt _ (by omega))
      clear hr hb
      cases hbit : fl.testBit m with
      | true =>
        have ht : (bits BinOp.and IntKind.u32 ((fl : Int) / 2 ^ m) 1 == 1) = true := by rw [HE.out, hbit]
        have HBIT := Lib.hid hbit
        clear hbit
        go_wp2
        go_roundw
        case rel => exact ⟨m + 1, by omega, by omega, by go_num, by rw [← CrcP.mod_yes fl m HBIT.out], by rw [← CrcP.turnedF_yes _ _ _ _ HBIT.out]; exact HR.out.set ((k + m) / 8) (by omega) _, HB.out.setCell (Nat.le_refl _) _⟩
        case measure => simp [intOf]; omega
      | false =>
        have ht : (bits BinOp.and IntKind.u32 ((fl : Int) / 2 ^ m) 1 == 1) = false := by rw [HE.out, hbit]
        have HBIT := Lib.hid hbit
        clear hbit hc hf hx
        go_wp2
        go_roundw
        case rel => exact ⟨m + 1, by omega, by omega, by go_num, by rw [CrcP.mod_no fl m HBIT.out], by rw [← CrcP.turnedF_no _ _ _ _ HBIT.out]; exact HR.out, HB.out⟩
        case measure => simp [intOf]; omega
    · have hlaw := CrcP.turned_sum s.data.toList k fl m hm (by simpa using hkm)
      have hcv2 := conv_of_bytes (P := Try.prog) wr 29 9 5 w.heap.size s.size cap _ Try.underlying29 Try.underlying5 Try.underlying9 hr
      clear hr hb
      generalize hB : bytesStr s.size (CrcP.turnedF s.data.toList k fl m) = b at *
      have hbs : b.size = s.size := by rw [← hB, bytesStr_size]
      have hbd : b.data.toList = (List.range s.data.toList.length).map (CrcP.turnedF s.data.toList k fl m) := by rw [← hB, bytesStr_data]; simp
      rw [← hbd] at hlaw
      have hfin : ((u (CrcP.sum b.data.toList) != u (CrcP.sum s.data.toList)) == !(decide (fl % 2 ^ m = 0))) = true := by
        by_cases hd : fl % 2 ^ m = 0
        · have := hlaw.2 hd
          simp [this, hd]
        · have h3 : ¬ u (CrcP.sum b.data.toList) = u (CrcP.sum s.data.toList) := fun e => hd (hlaw.1 (u_inj e))
          simp [h3, hd]
      have hble : b.size ≤ 100000 := by omega
      clear hlaw hB hbd hbs HE
      rcases (by omega : (m < 32 ∧ ¬ k + m < 8 * s.size) ∨ ¬ m < 32) with h | h
      · obtain ⟨h3, h4⟩ := h
        go_wp2_with (first
          | (go_at_call 9; refine (sum_any _ _ (by omega)).mono ?_; rintro e w' ⟨rfl, rfl⟩)
          | (go_at_call 6; refine (wakes_any _).mono ?_; rintro e w' ⟨rfl, hb2⟩))
        go_ret
        exact ⟨rfl, bstep HB.out hb2⟩
      · go_wp2_with (first
          | (go_at_call 9; refine (sum_any _ _ (by omega)).mono ?_; rintro e w' ⟨rfl, rfl⟩)
          | (go_at_call 6; refine (wakes_any _).mono ?_; rintro e w' ⟨rfl, hb2⟩))
        go_ret
        exact ⟨rfl, bstep HB.out hb2⟩
end Go.Proofs.Ytnonnikeebmcoaa.CrcW
