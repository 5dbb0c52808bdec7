/- The walk of CrcLinear. -/
import Derived.Test.YtnonnikeebmcoaaCrcLaw
import Derived.Test.YtnonnikeebmcoaaBytes
namespace Go.Proofs.Ytnonnikeebmcoaa.CrcW
open Go.RowKit
open CrcP (W)
/-- three bytes put together, closed to simp -/
def xor3 (a b c : UInt8) : UInt8 := a ^^^ b ^^^ c
theorem u8_xor3 (a b c : UInt8) : bits BinOp.xor IntKind.u8 (bits BinOp.xor IntKind.u8 (a.toNat : Int) (b.toNat : Int)) (c.toNat : Int) = ((xor3 a b c).toNat : Int) := by
  rw [u8_xor_nat _ _ a.toNat_lt b.toNat_lt, ← UInt8.toNat_xor, u8_xor_nat _ _ (a ^^^ b).toNat_lt c.toNat_lt, ← UInt8.toNat_xor]; rfl
def linF (a b c : List UInt8) (k j : Nat) : UInt8 := if j < k then xor3 (a.getD j 0) (b.getD j 0) (c.getD j 0) else 0
theorem linF_set (a b c : List UInt8) (k : Nat) : (fun j => if j = k then xor3 (a.getD k 0) (b.getD k 0) (c.getD k 0) else linF a b c k j) = linF a b c (k + 1) := by
  funext j
  unfold linF
  by_cases h : j = k
  · subst h; simp
  · by_cases h2 : j < k
    · rw [if_neg h, if_pos h2, if_pos (by omega)]
    · rw [if_neg h, if_neg h2, if_neg (by omega)]

theorem getD_get (a : ByteArray) (k : Nat) (h : k < a.size) : a.data.toList.getD k 0 = a[k] := by
  simp [List.getD, h]; rfl
theorem linF_sum (a b c : ByteArray) (n : Nat) (ha : n ≤ a.size) (hb : n ≤ b.size) (hc : n ≤ c.size) :
    CrcP.sum (bytesStr n (linF a.data.toList b.data.toList c.data.toList n)).data.toList = CrcP.sum (List.take n a.data.toList) ^^^ CrcP.sum (List.take n b.data.toList) ^^^ CrcP.sum (List.take n c.data.toList) := by
  rw [← CrcP.sum_xor3 _ _ _ (by simp; omega) (by simp; omega)]
  congr 1
  apply List.ext_getElem?
  intro i
  simp only [bytesStr_data, CrcP.xorL, List.getElem?_zipWith, List.getElem?_map]
  by_cases h : i < n
  · have h1 : i < a.data.toList.length := by simp; omega
    have h2 : i < b.data.toList.length := by simp; omega
    have h3 : i < c.data.toList.length := by simp; omega
    simp [h, linF, xor3, List.getElem?_take_of_lt h, List.getElem?_eq_getElem h1, List.getElem?_eq_getElem h2, List.getElem?_eq_getElem h3]
  · rw [List.getElem?_eq_none (l := List.take n a.data.toList) (by simp; omega), List.getElem?_eq_none (l := List.range n) (by simp; omega)]
    rfl
theorem take_self (a : ByteArray) : List.take a.size a.data.toList = a.data.toList := List.take_of_length_le (by simp)

set_option maxHeartbeats 1000000 in
theorem linear_a (a b c : ByteArray) (hab : a.size ≤ b.size) (hac : a.size ≤ c.size) (hl : a.size ≤ 100000) (hb : a.size ≤ 9223372036854775807 ∧ b.size ≤ 9223372036854775807 ∧ c.size ≤ 9223372036854775807) (w : World) :
    Calls Try.prog 5 #[.string a, .string b, .string c] w fun e w' => e = .returned (.bool true) ∧ Below w.heap.size w w' := by
  obtain ⟨hba, hbb, hbc⟩ := hb
  obtain ⟨w1, hmk, hrow, hbel, hsz⟩ := make_bytes (P := Try.prog) w 29 5 Try.underlying29 (by kernel_rfl) a.size (by omega)
  have HROW := Lib.hid hrow
  have HBEL := Lib.hid hbel
  clear hrow hbel
  go_enter Try.func5, Try.ntmps5
  go_wp2_with fail
  go_loopw [9] (fun i wr => ∃ k : Nat, k ≤ a.size ∧ i = .int .i64 k ∧ BytesAt wr w.heap.size a.size (linF a.data.toList b.data.toList c.data.toList k) ∧ Below w.heap.size w wr) (fun i _ => a.size - (intOf i).toNat)
  case atStart => exact ⟨0, by omega, rfl, HROW.out.congr (fun j _ => by simp [linF]), HBEL.out⟩
  case round =>
    obtain ⟨k, hk, rfl, hr, hb⟩ := hrel
    have HR := Lib.hid hr
    have HB := Lib.hid hb
    by_cases hlt : k < a.size
    · have hc1 := (hr k hlt).1
      have hf1 := (hr k hlt).2
      have hka : k < a.size := by omega
      have hkb : k < b.size := by omega
      have hkc : k < c.size := by omega
      have hx := u8_xor3 a[k] b[k] c[k]
      have G1 := Lib.hid (getD_get a k hka)
      have G2 := Lib.hid (getD_get b k hkb)
      have G3 := Lib.hid (getD_get c k hkc)
      have HX := Lib.hid (linF_set a.data.toList b.data.toList c.data.toList k)
      clear hr hb
      go_wp2_with fail
      go_region
      go_wp2
      go_roundw
      case rel => exact ⟨k + 1, by omega, by go_num, by rw [← HX.out, G1.out, G2.out, G3.out]; exact (HR.out.set k hlt _).drew, (HB.out.setCell (Nat.le_refl _) _).drew⟩
      case measure => simp [intOf]; omega
    · have hkn : k = a.size := by omega
      have hx := linF_sum a b c a.size (by omega) (by omega) (by omega)
      rw [take_self a] at hx
      rw [hkn] at hr
      have HR2 := Lib.hid hr
      clear hr hb HR hkn HROW HBEL hmk
      have e1 : a.size ≤ 100000 := by first | omega | (simp; omega)
      have e2 : (b.extract 0 a.size).size ≤ 100000 := by first | omega | (simp; omega)
      have e3 : (c.extract 0 a.size).size ≤ 100000 := by first | omega | (simp; omega)
      have e4 : (bytesStr a.size (linF a.data.toList b.data.toList c.data.toList a.size)).size ≤ 100000 := by rw [bytesStr_size]; omega
      have q1 := u32_xor_bv (CrcP.sum a.data.toList) (CrcP.sum (List.take a.size b.data.toList))
      have q2 := u32_xor_bv (CrcP.sum a.data.toList ^^^ CrcP.sum (List.take a.size b.data.toList)) (CrcP.sum (List.take a.size c.data.toList))
      have q3 := u_beq hx
      have hcv1 := conv_of_bytes (P := Try.prog) wr.drew 29 9 5 w.heap.size a.size a.size _ Try.underlying29 Try.underlying5 Try.underlying9 HR2.out.drew
      clear hx
      go_wp2_with fail
      have hle1 : a.size ≤ b.size := by omega
      have hle2 : a.size ≤ c.size := by omega
      refine wp_region_still_tail 19 (by kernel_rfl) (by kernel_rfl) ?_
      change wpStill _ _ (World.drew _) (fun a' => wpList _ _ _ _ a' (World.drew _)) _ _
      simp only [List.take_succ_cons, List.take_zero, List.drop_succ_cons, List.drop_zero]
      repeat still_step
      still_call (still_of (sum_any _ _ (by omega)))
      repeat still_step
      still_call (still_of (sum_any _ _ (by omega)))
      repeat still_step
      still_call (still_of (sum_any _ _ (by omega)))
      repeat still_step
      still_call (still_of (sum_any _ _ (by omega)))
      repeat still_step
      refine wpStill_nil ?_
      go_wp2_with (go_at_call 6; refine (wakes_any _).mono ?_; rintro e w' ⟨rfl, hb2⟩)
      go_ret
      exact ⟨rfl, bstep HB.out.drew hb2⟩

set_option maxHeartbeats 1000000 in
theorem linear_b (a b c : ByteArray) (hab : b.size < a.size) (hac : b.size ≤ c.size) (hl : b.size ≤ 100000) (hb : a.size ≤ 9223372036854775807 ∧ b.size ≤ 9223372036854775807 ∧ c.size ≤ 9223372036854775807) (w : World) :
    Calls Try.prog 5 #[.string a, .string b, .string c] w fun e w' => e = .returned (.bool true) ∧ Below w.heap.size w w' := by
  obtain ⟨hba, hbb, hbc⟩ := hb
  obtain ⟨w1, hmk, hrow, hbel, hsz⟩ := make_bytes (P := Try.prog) w 29 5 Try.underlying29 (by kernel_rfl) b.size (by omega)
  have HROW := Lib.hid hrow
  have HBEL := Lib.hid hbel
  clear hrow hbel
  go_enter Try.func5, Try.ntmps5
  go_wp2_with fail
  go_loopw [9] (fun i wr => ∃ k : Nat, k ≤ b.size ∧ i = .int .i64 k ∧ BytesAt wr w.heap.size b.size (linF a.data.toList b.data.toList c.data.toList k) ∧ Below w.heap.size w wr) (fun i _ => b.size - (intOf i).toNat)
  case atStart => exact ⟨0, by omega, rfl, HROW.out.congr (fun j _ => by simp [linF]), HBEL.out⟩
  case round =>
    obtain ⟨k, hk, rfl, hr, hb⟩ := hrel
    have HR := Lib.hid hr
    have HB := Lib.hid hb
    by_cases hlt : k < b.size
    · have hc1 := (hr k hlt).1
      have hf1 := (hr k hlt).2
      have hka : k < a.size := by omega
      have hkb : k < b.size := by omega
      have hkc : k < c.size := by omega
      have hx := u8_xor3 a[k] b[k] c[k]
      have G1 := Lib.hid (getD_get a k hka)
      have G2 := Lib.hid (getD_get b k hkb)
      have G3 := Lib.hid (getD_get c k hkc)
      have HX := Lib.hid (linF_set a.data.toList b.data.toList c.data.toList k)
      clear hr hb
      go_wp2_with fail
      go_region
      go_wp2
      go_roundw
      case rel => exact ⟨k + 1, by omega, by go_num, by rw [← HX.out, G1.out, G2.out, G3.out]; exact (HR.out.set k hlt _).drew, (HB.out.setCell (Nat.le_refl _) _).drew⟩
      case measure => simp [intOf]; omega
    · have hkn : k = b.size := by omega
      have hx := linF_sum a b c b.size (by omega) (by omega) (by omega)
      rw [take_self b] at hx
      rw [hkn] at hr
      have HR2 := Lib.hid hr
      clear hr hb HR hkn HROW HBEL hmk
      have e1 : (a.extract 0 b.size).size ≤ 100000 := by first | omega | (simp; omega)
      have e2 : b.size ≤ 100000 := by first | omega | (simp; omega)
      have e3 : (c.extract 0 b.size).size ≤ 100000 := by first | omega | (simp; omega)
      have e4 : (bytesStr b.size (linF a.data.toList b.data.toList c.data.toList b.size)).size ≤ 100000 := by rw [bytesStr_size]; omega
      have q1 := u32_xor_bv (CrcP.sum (List.take b.size a.data.toList)) (CrcP.sum b.data.toList)
      have q2 := u32_xor_bv (CrcP.sum (List.take b.size a.data.toList) ^^^ CrcP.sum b.data.toList) (CrcP.sum (List.take b.size c.data.toList))
      have q3 := u_beq hx
      have hcv1 := conv_of_bytes (P := Try.prog) wr.drew 29 9 5 w.heap.size b.size b.size _ Try.underlying29 Try.underlying5 Try.underlying9 HR2.out.drew
      clear hx
      go_wp2_with fail
      have hle1 : b.size ≤ a.size := by omega
      have hle2 : b.size ≤ c.size := by omega
      refine wp_region_still_tail 19 (by kernel_rfl) (by kernel_rfl) ?_
      change wpStill _ _ (World.drew _) (fun a' => wpList _ _ _ _ a' (World.drew _)) _ _
      simp only [List.take_succ_cons, List.take_zero, List.drop_succ_cons, List.drop_zero]
      repeat still_step
      still_call (still_of (sum_any _ _ (by omega)))
      repeat still_step
      still_call (still_of (sum_any _ _ (by omega)))
      repeat still_step
      still_call (still_of (sum_any _ _ (by omega)))
      repeat still_step
      still_call (still_of (sum_any _ _ (by omega)))
      repeat still_step
      refine wpStill_nil ?_
      go_wp2_with (go_at_call 6; refine (wakes_any _).mono ?_; rintro e w' ⟨rfl, hb2⟩)
      go_ret
      exact ⟨rfl, bstep HB.out.drew hb2⟩

set_option maxHeartbeats 1000000 in
theorem linear_c (a b c : ByteArray) (hab : c.size < a.size) (hac : c.size < b.size) (hl : c.size ≤ 100000) (hb : a.size ≤ 9223372036854775807 ∧ b.size ≤ 9223372036854775807 ∧ c.size ≤ 9223372036854775807) (w : World) :
    Calls Try.prog 5 #[.string a, .string b, .string c] w fun e w' => e = .returned (.bool true) ∧ Below w.heap.size w w' := by
  obtain ⟨hba, hbb, hbc⟩ := hb
  obtain ⟨w1, hmk, hrow, hbel, hsz⟩ := make_bytes (P := Try.prog) w 29 5 Try.underlying29 (by kernel_rfl) c.size (by omega)
  have HROW := Lib.hid hrow
  have HBEL := Lib.hid hbel
  clear hrow hbel
  go_enter Try.func5, Try.ntmps5
  go_wp2_with fail
  go_loopw [9] (fun i wr => ∃ k : Nat, k ≤ c.size ∧ i = .int .i64 k ∧ BytesAt wr w.heap.size c.size (linF a.data.toList b.data.toList c.data.toList k) ∧ Below w.heap.size w wr) (fun i _ => c.size - (intOf i).toNat)
  case atStart => exact ⟨0, by omega, rfl, HROW.out.congr (fun j _ => by simp [linF]), HBEL.out⟩
  case round =>
    obtain ⟨k, hk, rfl, hr, hb⟩ := hrel
    have HR := Lib.hid hr
    have HB := Lib.hid hb
    by_cases hlt : k < c.size
    · have hc1 := (hr k hlt).1
      have hf1 := (hr k hlt).2
      have hka : k < a.size := by omega
      have hkb : k < b.size := by omega
      have hkc : k < c.size := by omega
      have hx := u8_xor3 a[k] b[k] c[k]
      have G1 := Lib.hid (getD_get a k hka)
      have G2 := Lib.hid (getD_get b k hkb)
      have G3 := Lib.hid (getD_get c k hkc)
      have HX := Lib.hid (linF_set a.data.toList b.data.toList c.data.toList k)
      clear hr hb
      go_wp2_with fail
      go_region
      go_wp2
      go_roundw
      case rel => exact ⟨k + 1, by omega, by go_num, by rw [← HX.out, G1.out, G2.out, G3.out]; exact (HR.out.set k hlt _).drew, (HB.out.setCell (Nat.le_refl _) _).drew⟩
      case measure => simp [intOf]; omega
    · have hkn : k = c.size := by omega
      have hx := linF_sum a b c c.size (by omega) (by omega) (by omega)
      rw [take_self c] at hx
      rw [hkn] at hr
      have HR2 := Lib.hid hr
      clear hr hb HR hkn HROW HBEL hmk
      have e1 : (a.extract 0 c.size).size ≤ 100000 := by first | omega | (simp; omega)
      have e2 : (b.extract 0 c.size).size ≤ 100000 := by first | omega | (simp; omega)
      have e3 : c.size ≤ 100000 := by first | omega | (simp; omega)
      have e4 : (bytesStr c.size (linF a.data.toList b.data.toList c.data.toList c.size)).size ≤ 100000 := by rw [bytesStr_size]; omega
      have q1 := u32_xor_bv (CrcP.sum (List.take c.size a.data.toList)) (CrcP.sum (List.take c.size b.data.toList))
      have q2 := u32_xor_bv (CrcP.sum (List.take c.size a.data.toList) ^^^ CrcP.sum (List.take c.size b.data.toList)) (CrcP.sum c.data.toList)
      have q3 := u_beq hx
      have hcv1 := conv_of_bytes (P := Try.prog) wr.drew 29 9 5 w.heap.size c.size c.size _ Try.underlying29 Try.underlying5 Try.underlying9 HR2.out.drew
      clear hx
      go_wp2_with fail
      have hle1 : c.size ≤ a.size := by omega
      have hle2 : c.size ≤ b.size := by omega
      refine wp_region_still_tail 19 (by kernel_rfl) (by kernel_rfl) ?_
      change wpStill _ _ (World.drew _) (fun a' => wpList _ _ _ _ a' (World.drew _)) _ _
      simp only [List.take_succ_cons, List.take_zero, List.drop_succ_cons, List.drop_zero]
      repeat still_step
      still_call (still_of (sum_any _ _ (by omega)))
      repeat still_step
      still_call (still_of (sum_any _ _ (by omega)))
      repeat still_step
      still_call (still_of (sum_any _ _ (by omega)))
      repeat still_step
      still_call (still_of (sum_any _ _ (by omega)))
      repeat still_step
      refine wpStill_nil ?_
      go_wp2_with (go_at_call 6; refine (wakes_any _).mono ?_; rintro e w' ⟨rfl, hb2⟩)
      go_ret
      exact ⟨rfl, bstep HB.out.drew hb2⟩

set_option maxHeartbeats 400000 in
theorem linear_large (a b c : ByteArray) (h1 : 100000 < a.size) (h2 : 100000 < b.size) (h3 : 100000 < c.size) (hb : a.size ≤ 9223372036854775807 ∧ b.size ≤ 9223372036854775807 ∧ c.size ≤ 9223372036854775807) (w : World) :
    Calls Try.prog 5 #[.string a, .string b, .string c] w fun e w' => e = .returned (.bool true) ∧ Below w.heap.size w w' := by
  obtain ⟨hba, hbb, hbc⟩ := hb
  go_enter Try.func5, Try.ntmps5
  go_wp2_with (go_at_call 6; refine (wakes_any _).mono ?_; rintro e w' ⟨rfl, hb2⟩)
  all_goals go_ret
  all_goals exact ⟨rfl, by assumption⟩

theorem linear_walk (a : ByteArray) (ha : a.size ≤ maxLen) (b : ByteArray) (hb : b.size ≤ maxLen) (c : ByteArray) (hc : c.size ≤ maxLen) (w : World) :
    Calls Try.prog 5 #[.string a, .string b, .string c] w fun e w' => e = .returned (.bool true) ∧ Below w.heap.size w w' := by
  unfold maxLen at ha hb hc
  by_cases h : 100000 < a.size ∧ 100000 < b.size ∧ 100000 < c.size
  · exact linear_large a b c h.1 h.2.1 h.2.2 ⟨by omega, by omega, by omega⟩ w
  · rcases (by omega : (a.size ≤ b.size ∧ a.size ≤ c.size) ∨ (b.size < a.size ∧ b.size ≤ c.size) ∨ (c.size < a.size ∧ c.size < b.size)) with h2 | h2 | h2
    · exact linear_a a b c h2.1 h2.2 (by omega) ⟨by omega, by omega, by omega⟩ w
    · exact linear_b a b c h2.1 h2.2 (by omega) ⟨by omega, by omega, by omega⟩ w
    · exact linear_c a b c h2.1 h2.2 (by omega) ⟨by omega, by omega, by omega⟩ w
end Go.Proofs.Ytnonnikeebmcoaa.CrcW
