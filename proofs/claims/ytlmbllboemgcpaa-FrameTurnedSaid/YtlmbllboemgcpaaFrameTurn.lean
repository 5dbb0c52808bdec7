/- FrameTurned: the walk, bits of the text, or of the sum, turned over. -/
import Derived.Test.YtlmbllboemgcpaaFrameLaw2
import Derived.Test.YtlmbllboemgcpaaCrcFlip
namespace Go.Proofs.Ytlmbllboemgcpaa.FrameW
open Go.RowKit
open CrcW (u8_flip u32_bit)
set_option maxHeartbeats 1000000 in
theorem turned_text (s : ByteArray) (h1 : s.size ≤ 20000) (hpos : 0 < s.size) (at_ : Int) (hat : 0 ≤ at_) (fl : Nat) (hfl : fl < 4294967296) (h0 : fl ≠ 0) (w : World) :
    Calls Try.prog 7 #[.string s, .int .i64 at_, .int .u32 fl] w fun e w' => e = .returned (.bool true) ∧ Below w.heap.size w w' := by
  have hlen : s.data.toList.length = s.size := by simp
  have hsl := sealL_len s.data.toList
  generalize hF : (⟨(sealL s.data.toList).toArray⟩ : ByteArray) = F
  have hFd : F.data.toList = sealL s.data.toList := by rw [← hF]
  have hfz : F.size = 8 + s.size := by rw [← hF]; show (sealL s.data.toList).toArray.size = _; rw [List.size_toArray, hsl, hlen]
  have HF := Lib.hid hF
  obtain ⟨k, hk, hk2⟩ : ∃ k : Nat, k < 8 * s.size ∧ at_ % (8 * (F.size : Int) - 64) = k := by
    have h1 := Int.emod_nonneg at_ (b := 8 * (F.size : Int) - 64) (by omega)
    have h2 := Int.emod_lt_of_pos at_ (b := 8 * (F.size : Int) - 64) (by omega)
    exact ⟨(at_ % (8 * (F.size : Int) - 64)).toNat, by omega, by omega⟩
  have HK := Lib.hid hk2
  have hz' : ((fl : Int) == 0) = false := by rw [beq_eq_false_iff_ne]; omega
  have hz2 : ((F.size : Int) == 8 + (s.size : Int)) = true := by rw [beq_iff_eq]; omega
  have hz3 : ((F.size : Int) != 8 + (s.size : Int)) = false := by rw [bne_eq_false_iff_eq]; omega
  have hf1 : (F.size : Int) ≤ 20008 := by omega
  have hf2 : (9 : Int) ≤ F.size := by omega
  have hkI : (k : Int) < 8 * (F.size : Int) - 64 := by omega
  have d0 : decide (20000 < (s.size : Int)) = false := decide_eq_false (by omega)
  have HS := Lib.hid (show s.size ≤ 65536 by omega)
  have HFD := Lib.hid hFd
  have HFZ := Lib.hid hfz
  clear hF hk2 hFd hfz hsl hlen
  have HCV := fun W : World => conv_to_bytes (P := Try.prog) W 9 39 5 F Try.underlying9 Try.underlying39 Try.underlying5
  have HCV2 := Lib.hid HCV
  clear HCV
  go_enter Try.func7, Try.ntmps7
  go_wp2_with (first
    | (go_at_call 9; refine (seal_fits _ HS.out _).mono ?_; rintro e w1 ⟨he, hb1⟩; rw [HF.out] at he; subst he; have HB1 := Lib.hid hb1; clear hb1; obtain ⟨cap, w2, hcv, hrow, hbel, hsz, hcap⟩ := HCV2.out w1; have HROW := Lib.hid hrow; have HBEL := Lib.hid hbel; clear hrow hbel)
    | (go_at_call 12; refine (mod_any _ _ _ (by omega) (by omega)).mono ?_; rintro e w' ⟨rfl, rfl⟩; rw [HK.out]))
  clear d0 hz' hz2 hz3
  go_loopw [13, 14] (fun t i wr => ∃ m : Nat, m ≤ 32 ∧ 64 + k + m ≤ 8 * F.size ∧ i = .int .i64 m ∧ t = .bool (!(decide (fl % 2 ^ m = 0))) ∧ BytesAt wr w1.heap.size F.size (CrcP.turnedF F.data.toList (64 + k) fl m) ∧ Below w1.heap.size w1 wr) (fun _ i _ => 32 - (intOf i).toNat)
  case atStart => exact ⟨0, by omega, by omega, rfl, by simp [Nat.mod_one], HROW.out, HBEL.out⟩
  case round =>
    obtain ⟨m, hm, hkm, rfl, rfl, hr, hb⟩ := hrel
    have HR := Lib.hid hr
    have HB := Lib.hid hb
    have HE := Lib.hid (u32_bit fl m hfl)
    by_cases h1 : m < 32 ∧ 64 + k + m < 8 * F.size
    · obtain ⟨h1, h2⟩ := h1
      have hc := (hr ((64 + k + m) / 8) (by omega)).1
      have hf := (hr ((64 + k + m) / 8) (by omega)).2
      have hx := u8_flip (CrcP.turnedF F.data.toList (64 + k) fl m ((64 + k + m) / 8)) ((64 + k + m) % 8) (Nat.mod_lt _ (by omega))
      clear hr hb
      cases hbit : fl.testBit m with
      | true =>
        have ht : (bits BinOp.and IntKind.u32 ((fl : Int) / 2 ^ m) 1 == 1) = true := by rw [HE.out, hbit]
        have HBIT := Lib.hid hbit
        clear hbit
        go_wp2
        go_roundw
        case rel => exact ⟨m + 1, by omega, by omega, by go_num, by rw [← CrcP.mod_yes fl m HBIT.out], by rw [← CrcP.turnedF_yes _ _ _ _ HBIT.out]; exact HR.out.set ((64 + k + m) / 8) (by omega) _, HB.out.setCell (Nat.le_refl _) _⟩
        case measure => simp [intOf]; omega
      | false =>
        have ht : (bits BinOp.and IntKind.u32 ((fl : Int) / 2 ^ m) 1 == 1) = false := by rw [HE.out, hbit]
        have HBIT := Lib.hid hbit
        clear hbit hc hf hx
        go_wp2
        go_roundw
        case rel => exact ⟨m + 1, by omega, by omega, by go_num, by rw [CrcP.mod_no fl m HBIT.out], by rw [← CrcP.turnedF_no _ _ _ _ HBIT.out]; exact HR.out, HB.out⟩
        case measure => simp [intOf]; omega
    · have hcv2 := conv_of_bytes (P := Try.prog) wr 39 9 5 w1.heap.size F.size cap _ Try.underlying39 Try.underlying5 Try.underlying9 hr
      have hlaw := open_turned_text s.data.toList (by have := HS.out; simp; omega) k fl m hm (by have := HFZ.out; simp; omega)
      have hbd : (bytesStr F.size (CrcP.turnedF F.data.toList (64 + k) fl m)).data.toList = turnedL (sealL s.data.toList) (64 + k) fl m := by
        rw [bytesStr_data, turnedL, ← HFD.out]; simp
      have hbs := bytesStr_size F.size (CrcP.turnedF F.data.toList (64 + k) fl m)
      clear hr hb
      generalize hB : bytesStr F.size (CrcP.turnedF F.data.toList (64 + k) fl m) = b at *
      rw [← hbd] at hlaw
      obtain ⟨x, e0, hR⟩ : ∃ x e0, openR b.data.toList = (x, e0) := ⟨_, _, rfl⟩
      rw [hR] at hlaw
      have HR2 := Lib.hid hR
      have HZ := Lib.hid (show b.size ≤ 9223372036854775807 by omega)
      have h5 : ¬ (m < 32 ∧ 64 + k + m < 8 * F.size) := h1
      clear hR hB hbd hbs HE h1
      rcases (by omega : (m < 32 ∧ ¬ 64 + k + m < 8 * F.size) ∨ ¬ m < 32) with h | h
      all_goals
        (try obtain ⟨h3, h4⟩ := h)
        by_cases hd : fl % 2 ^ m = 0
        · have hdt : decide (fl % 2 ^ m = 0) = true := decide_eq_true hd
          obtain rfl : e0 = 0 := by simpa [hd] using hlaw
          clear hd hlaw h5
          go_wp2_with (first
            | (go_at_call 13; refine (open_is _ HZ.out _ _ HR2.out _).mono ?_; rintro e w3 ⟨rfl, rfl⟩)
            | (go_at_call 8; refine (wakes_any _).mono ?_; rintro e w' ⟨rfl, hb2⟩))
          go_ret
          exact ⟨rfl, bstep (bstep HB1.out HB.out) hb2⟩
        · have hdt : decide (fl % 2 ^ m = 0) = false := decide_eq_false hd
          obtain rfl : e0 = 12 := by simpa [hd] using hlaw
          clear hd hlaw h5
          go_wp2_with (first
            | (go_at_call 13; refine (open_is _ HZ.out _ _ HR2.out _).mono ?_; rintro e w3 ⟨rfl, rfl⟩)
            | (go_at_call 8; refine (wakes_any _).mono ?_; rintro e w' ⟨rfl, hb2⟩))
          go_ret
          exact ⟨rfl, bstep (bstep HB1.out HB.out) hb2⟩
set_option maxHeartbeats 1000000 in
theorem turned_sum1 (s : ByteArray) (h1 : s.size ≤ 20000) (at_ : Int) (hat : at_ < 0) (fl : Nat) (hfl : fl < 4294967296) (h0 : fl ≠ 0) (w : World) :
    Calls Try.prog 7 #[.string s, .int .i64 at_, .int .u32 fl] w fun e w' => e = .returned (.bool true) ∧ Below w.heap.size w w' := by
  have hlen : s.data.toList.length = s.size := by simp
  have hsl := sealL_len s.data.toList
  generalize hF : (⟨(sealL s.data.toList).toArray⟩ : ByteArray) = F
  have hFd : F.data.toList = sealL s.data.toList := by rw [← hF]
  have hfz : F.size = 8 + s.size := by rw [← hF]; show (sealL s.data.toList).toArray.size = _; rw [List.size_toArray, hsl, hlen]
  have HF := Lib.hid hF
  obtain ⟨k, hk, hk2⟩ : ∃ k : Nat, k < 32 ∧ at_ % 32 = k := by
    have h1 := Int.emod_nonneg at_ (b := 32) (by omega)
    have h2 := Int.emod_lt_of_pos at_ (b := 32) (by omega)
    exact ⟨(at_ % 32).toNat, by omega, by omega⟩
  have HK := Lib.hid hk2
  have hz' : ((fl : Int) == 0) = false := by rw [beq_eq_false_iff_ne]; omega
  have hz2 : ((F.size : Int) == 8 + (s.size : Int)) = true := by rw [beq_iff_eq]; omega
  have hz3 : ((F.size : Int) != 8 + (s.size : Int)) = false := by rw [bne_eq_false_iff_eq]; omega
  have hf1 : (F.size : Int) ≤ 20008 := by omega
  have hf2 : (8 : Int) ≤ F.size := by omega
  have d0 : decide (20000 < (s.size : Int)) = false := decide_eq_false (by omega)
  have HS := Lib.hid (show s.size ≤ 65536 by omega)
  have HFD := Lib.hid hFd
  have HFZ := Lib.hid hfz
  clear hF hk2 hFd hfz hsl hlen
  have HCV := fun W : World => conv_to_bytes (P := Try.prog) W 9 39 5 F Try.underlying9 Try.underlying39 Try.underlying5
  have HCV2 := Lib.hid HCV
  clear HCV
  go_enter Try.func7, Try.ntmps7
  go_wp2_with (first
    | (go_at_call 9; refine (seal_fits _ HS.out _).mono ?_; rintro e w1 ⟨he, hb1⟩; rw [HF.out] at he; subst he; have HB1 := Lib.hid hb1; clear hb1; obtain ⟨cap, w2, hcv, hrow, hbel, hsz, hcap⟩ := HCV2.out w1; have HROW := Lib.hid hrow; have HBEL := Lib.hid hbel; clear hrow hbel)
    | (go_at_call 12; refine (mod_any _ _ _ (by omega) (by omega)).mono ?_; rintro e w' ⟨rfl, rfl⟩; rw [HK.out]))
  clear d0 hz' hz2 hz3
  go_loopw [13, 14] (fun t i wr => ∃ m : Nat, m ≤ 32 ∧ 32 + k + m ≤ 64 ∧ i = .int .i64 m ∧ t = .bool (!(decide (fl % 2 ^ m = 0))) ∧ BytesAt wr w1.heap.size F.size (CrcP.turnedF F.data.toList (32 + k) fl m) ∧ Below w1.heap.size w1 wr) (fun _ i _ => 32 - (intOf i).toNat)
  case atStart => exact ⟨0, by omega, by omega, rfl, by simp [Nat.mod_one], HROW.out, HBEL.out⟩
  case round =>
    obtain ⟨m, hm, hkm, rfl, rfl, hr, hb⟩ := hrel
    have HR := Lib.hid hr
    have HB := Lib.hid hb
    have HE := Lib.hid (u32_bit fl m hfl)
    by_cases h1 : m < 32 ∧ 32 + k + m < 64
    · obtain ⟨h1, h2⟩ := h1
      have hc := (hr ((32 + k + m) / 8) (by omega)).1
      have hf := (hr ((32 + k + m) / 8) (by omega)).2
      have hx := u8_flip (CrcP.turnedF F.data.toList (32 + k) fl m ((32 + k + m) / 8)) ((32 + k + m) % 8) (Nat.mod_lt _ (by omega))
      clear hr hb
      cases hbit : fl.testBit m with
      | true =>
        have ht : (bits BinOp.and IntKind.u32 ((fl : Int) / 2 ^ m) 1 == 1) = true := by rw [HE.out, hbit]
        have HBIT := Lib.hid hbit
        clear hbit
        go_wp2
        go_roundw
        case rel => exact ⟨m + 1, by omega, by omega, by go_num, by rw [← CrcP.mod_yes fl m HBIT.out], by rw [← CrcP.turnedF_yes _ _ _ _ HBIT.out]; exact HR.out.set ((32 + k + m) / 8) (by omega) _, HB.out.setCell (Nat.le_refl _) _⟩
        case measure => simp [intOf]; omega
      | false =>
        have ht : (bits BinOp.and IntKind.u32 ((fl : Int) / 2 ^ m) 1 == 1) = false := by rw [HE.out, hbit]
        have HBIT := Lib.hid hbit
        clear hbit hc hf hx
        go_wp2
        go_roundw
        case rel => exact ⟨m + 1, by omega, by omega, by go_num, by rw [CrcP.mod_no fl m HBIT.out], by rw [← CrcP.turnedF_no _ _ _ _ HBIT.out]; exact HR.out, HB.out⟩
        case measure => simp [intOf]; omega
    · have hcv2 := conv_of_bytes (P := Try.prog) wr 39 9 5 w1.heap.size F.size cap _ Try.underlying39 Try.underlying5 Try.underlying9 hr
      have hlaw := open_turned_sum s.data.toList (by have := HS.out; simp; omega) k fl m hm (by omega)
      have hbd : (bytesStr F.size (CrcP.turnedF F.data.toList (32 + k) fl m)).data.toList = turnedL (sealL s.data.toList) (32 + k) fl m := by
        rw [bytesStr_data, turnedL, ← HFD.out]; simp
      have hbs := bytesStr_size F.size (CrcP.turnedF F.data.toList (32 + k) fl m)
      clear hr hb
      generalize hB : bytesStr F.size (CrcP.turnedF F.data.toList (32 + k) fl m) = b at *
      rw [← hbd] at hlaw
      obtain ⟨x, e0, hR⟩ : ∃ x e0, openR b.data.toList = (x, e0) := ⟨_, _, rfl⟩
      rw [hR] at hlaw
      have HR2 := Lib.hid hR
      have HZ := Lib.hid (show b.size ≤ 9223372036854775807 by omega)
      have h5 : ¬ (m < 32 ∧ 32 + k + m < 64) := h1
      clear hR hB hbd hbs HE h1
      rcases (by omega : (m < 32 ∧ ¬ 32 + k + m < 64) ∨ ¬ m < 32) with h | h
      all_goals
        (try obtain ⟨h3, h4⟩ := h)
        by_cases hd : fl % 2 ^ m = 0
        · have hdt : decide (fl % 2 ^ m = 0) = true := decide_eq_true hd
          obtain rfl : e0 = 0 := by simpa [hd] using hlaw
          clear hd hlaw h5
          go_wp2_with (first
            | (go_at_call 13; refine (open_is _ HZ.out _ _ HR2.out _).mono ?_; rintro e w3 ⟨rfl, rfl⟩)
            | (go_at_call 8; refine (wakes_any _).mono ?_; rintro e w' ⟨rfl, hb2⟩))
          go_ret
          exact ⟨rfl, bstep (bstep HB1.out HB.out) hb2⟩
        · have hdt : decide (fl % 2 ^ m = 0) = false := decide_eq_false hd
          obtain rfl : e0 = 12 := by simpa [hd] using hlaw
          clear hd hlaw h5
          go_wp2_with (first
            | (go_at_call 13; refine (open_is _ HZ.out _ _ HR2.out _).mono ?_; rintro e w3 ⟨rfl, rfl⟩)
            | (go_at_call 8; refine (wakes_any _).mono ?_; rintro e w' ⟨rfl, hb2⟩))
          go_ret
          exact ⟨rfl, bstep (bstep HB1.out HB.out) hb2⟩
set_option maxHeartbeats 1000000 in
theorem turned_sum2 (s : ByteArray) (h1 : s.size ≤ 20000) (at_ : Int) (hat : 0 ≤ at_) (hs0 : s.size = 0) (fl : Nat) (hfl : fl < 4294967296) (h0 : fl ≠ 0) (w : World) :
    Calls Try.prog 7 #[.string s, .int .i64 at_, .int .u32 fl] w fun e w' => e = .returned (.bool true) ∧ Below w.heap.size w w' := by
  have hlen : s.data.toList.length = s.size := by simp
  have hsl := sealL_len s.data.toList
  generalize hF : (⟨(sealL s.data.toList).toArray⟩ : ByteArray) = F
  have hFd : F.data.toList = sealL s.data.toList := by rw [← hF]
  have hfz : F.size = 8 + s.size := by rw [← hF]; show (sealL s.data.toList).toArray.size = _; rw [List.size_toArray, hsl, hlen]
  have HF := Lib.hid hF
  have hs1 : (s.size : Int) ≤ 0 := by omega
  obtain ⟨k, hk, hk2⟩ : ∃ k : Nat, k < 32 ∧ at_ % 32 = k := by
    have h1 := Int.emod_nonneg at_ (b := 32) (by omega)
    have h2 := Int.emod_lt_of_pos at_ (b := 32) (by omega)
    exact ⟨(at_ % 32).toNat, by omega, by omega⟩
  have HK := Lib.hid hk2
  have hz' : ((fl : Int) == 0) = false := by rw [beq_eq_false_iff_ne]; omega
  have hz2 : ((F.size : Int) == 8 + (s.size : Int)) = true := by rw [beq_iff_eq]; omega
  have hz3 : ((F.size : Int) != 8 + (s.size : Int)) = false := by rw [bne_eq_false_iff_eq]; omega
  have hf1 : (F.size : Int) ≤ 20008 := by omega
  have hf2 : (8 : Int) ≤ F.size := by omega
  have d0 : decide (20000 < (s.size : Int)) = false := decide_eq_false (by omega)
  have HS := Lib.hid (show s.size ≤ 65536 by omega)
  have HFD := Lib.hid hFd
  have HFZ := Lib.hid hfz
  have hds : decide (0 < (s.size : Int)) = false := decide_eq_false (by omega)
  clear hF hk2 hFd hfz hsl hlen hs0
  have HCV := fun W : World => conv_to_bytes (P := Try.prog) W 9 39 5 F Try.underlying9 Try.underlying39 Try.underlying5
  have HCV2 := Lib.hid HCV
  clear HCV
  go_enter Try.func7, Try.ntmps7
  go_wp2_with (first
    | (go_at_call 9; refine (seal_fits _ HS.out _).mono ?_; rintro e w1 ⟨he, hb1⟩; rw [HF.out] at he; subst he; have HB1 := Lib.hid hb1; clear hb1; obtain ⟨cap, w2, hcv, hrow, hbel, hsz, hcap⟩ := HCV2.out w1; have HROW := Lib.hid hrow; have HBEL := Lib.hid hbel; clear hrow hbel)
    | (go_at_call 12; refine (mod_any _ _ _ (by omega) (by omega)).mono ?_; rintro e w' ⟨rfl, rfl⟩; rw [HK.out]))
  clear d0 hz' hz2 hz3
  go_loopw [13, 14] (fun t i wr => ∃ m : Nat, m ≤ 32 ∧ 32 + k + m ≤ 64 ∧ i = .int .i64 m ∧ t = .bool (!(decide (fl % 2 ^ m = 0))) ∧ BytesAt wr w1.heap.size F.size (CrcP.turnedF F.data.toList (32 + k) fl m) ∧ Below w1.heap.size w1 wr) (fun _ i _ => 32 - (intOf i).toNat)
  case atStart => exact ⟨0, by omega, by omega, rfl, by simp [Nat.mod_one], HROW.out, HBEL.out⟩
  case round =>
    obtain ⟨m, hm, hkm, rfl, rfl, hr, hb⟩ := hrel
    have HR := Lib.hid hr
    have HB := Lib.hid hb
    have HE := Lib.hid (u32_bit fl m hfl)
    by_cases h1 : m < 32 ∧ 32 + k + m < 64
    · obtain ⟨h1, h2⟩ := h1
      have hc := (hr ((32 + k + m) / 8) (by omega)).1
      have hf := (hr ((32 + k + m) / 8) (by omega)).2
      have hx := u8_flip (CrcP.turnedF F.data.toList (32 + k) fl m ((32 + k + m) / 8)) ((32 + k + m) % 8) (Nat.mod_lt _ (by omega))
      clear hr hb
      cases hbit : fl.testBit m with
      | true =>
        have ht : (bits BinOp.and IntKind.u32 ((fl : Int) / 2 ^ m) 1 == 1) = true := by rw [HE.out, hbit]
        have HBIT := Lib.hid hbit
        clear hbit
        go_wp2
        go_roundw
        case rel => exact ⟨m + 1, by omega, by omega, by go_num, by rw [← CrcP.mod_yes fl m HBIT.out], by rw [← CrcP.turnedF_yes _ _ _ _ HBIT.out]; exact HR.out.set ((32 + k + m) / 8) (by omega) _, HB.out.setCell (Nat.le_refl _) _⟩
        case measure => simp [intOf]; omega
      | false =>
        have ht : (bits BinOp.and IntKind.u32 ((fl : Int) / 2 ^ m) 1 == 1) = false := by rw [HE.out, hbit]
        have HBIT := Lib.hid hbit
        clear hbit hc hf hx
        go_wp2
        go_roundw
        case rel => exact ⟨m + 1, by omega, by omega, by go_num, by rw [CrcP.mod_no fl m HBIT.out], by rw [← CrcP.turnedF_no _ _ _ _ HBIT.out]; exact HR.out, HB.out⟩
        case measure => simp [intOf]; omega
    · have hcv2 := conv_of_bytes (P := Try.prog) wr 39 9 5 w1.heap.size F.size cap _ Try.underlying39 Try.underlying5 Try.underlying9 hr
      have hlaw := open_turned_sum s.data.toList (by have := HS.out; simp; omega) k fl m hm (by omega)
      have hbd : (bytesStr F.size (CrcP.turnedF F.data.toList (32 + k) fl m)).data.toList = turnedL (sealL s.data.toList) (32 + k) fl m := by
        rw [bytesStr_data, turnedL, ← HFD.out]; simp
      have hbs := bytesStr_size F.size (CrcP.turnedF F.data.toList (32 + k) fl m)
      clear hr hb
      generalize hB : bytesStr F.size (CrcP.turnedF F.data.toList (32 + k) fl m) = b at *
      rw [← hbd] at hlaw
      obtain ⟨x, e0, hR⟩ : ∃ x e0, openR b.data.toList = (x, e0) := ⟨_, _, rfl⟩
      rw [hR] at hlaw
      have HR2 := Lib.hid hR
      have HZ := Lib.hid (show b.size ≤ 9223372036854775807 by omega)
      have h5 : ¬ (m < 32 ∧ 32 + k + m < 64) := h1
      clear hR hB hbd hbs HE h1
      rcases (by omega : (m < 32 ∧ ¬ 32 + k + m < 64) ∨ ¬ m < 32) with h | h
      all_goals
        (try obtain ⟨h3, h4⟩ := h)
        by_cases hd : fl % 2 ^ m = 0
        · have hdt : decide (fl % 2 ^ m = 0) = true := decide_eq_true hd
          obtain rfl : e0 = 0 := by simpa [hd] using hlaw
          clear hd hlaw h5
          go_wp2_with (first
            | (go_at_call 13; refine (open_is _ HZ.out _ _ HR2.out _).mono ?_; rintro e w3 ⟨rfl, rfl⟩)
            | (go_at_call 8; refine (wakes_any _).mono ?_; rintro e w' ⟨rfl, hb2⟩))
          go_ret
          exact ⟨rfl, bstep (bstep HB1.out HB.out) hb2⟩
        · have hdt : decide (fl % 2 ^ m = 0) = false := decide_eq_false hd
          obtain rfl : e0 = 12 := by simpa [hd] using hlaw
          clear hd hlaw h5
          go_wp2_with (first
            | (go_at_call 13; refine (open_is _ HZ.out _ _ HR2.out _).mono ?_; rintro e w3 ⟨rfl, rfl⟩)
            | (go_at_call 8; refine (wakes_any _).mono ?_; rintro e w' ⟨rfl, hb2⟩))
          go_ret
          exact ⟨rfl, bstep (bstep HB1.out HB.out) hb2⟩
set_option maxHeartbeats 400000 in
theorem turned_walk (s : ByteArray) (_ : s.size ≤ maxLen) (at_ : Int) (_ : (Lit.int .i64 at_).wf = true) (flip : Int) (hf : (Lit.int .u32 flip).wf = true) (w : World) :
    Calls Try.prog 7 #[.string s, .int .i64 at_, .int .u32 flip] w fun e w' => e = .returned (.bool true) ∧ Below w.heap.size w w' := by
  by_cases hl : 20000 < s.size
  · go_enter Try.func7, Try.ntmps7
    go_wp2_with (go_at_call 8; refine (wakes_any _).mono ?_; rintro e w' ⟨rfl, hb⟩)
    go_ret
    exact ⟨rfl, hb⟩
  by_cases hz : flip = 0
  · have hz' : (flip == 0) = true := by rw [hz]; rfl
    clear hz
    go_enter Try.func7, Try.ntmps7
    go_wp2_with (go_at_call 8; refine (wakes_any _).mono ?_; rintro e w' ⟨rfl, hb⟩)
    go_ret
    exact ⟨rfl, hb⟩
  have hb := u32_bd hf
  obtain ⟨fl, rfl⟩ := Int.eq_ofNat_of_zero_le hb.1
  by_cases h0 : at_ < 0
  · exact turned_sum1 s (by omega) at_ h0 fl (by omega) (by omega) w
  · by_cases h1 : s.size = 0
    · exact turned_sum2 s (by omega) at_ (by omega) h1 fl (by omega) (by omega) w
    · exact turned_text s (by omega) (by omega) at_ (by omega) fl (by omega) (by omega) w
end Go.Proofs.Ytlmbllboemgcpaa.FrameW
