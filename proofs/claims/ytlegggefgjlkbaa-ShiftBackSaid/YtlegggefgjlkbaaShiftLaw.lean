/- What the laws of shift share: wakes, and contracts in one form for every input. -/
import Derived.Test.YtlegggefgjlkbaaShiftRField
import Derived.Test.YtlegggefgjlkbaaShiftRPut
namespace Go.Proofs.Ytlegggefgjlkbaa.ShiftW
open Go.RowKit
/-- what Get answers: the number, and whether there is one: closed to simp -/
def gv (s : ByteArray) (a n : Int) : Nat := if getOK s a n then getV s a.toNat n.toNat else 0
def gb (s : ByteArray) (a n : Int) : Bool := decide (getOK s a n)
theorem getR_eq (s : ByteArray) (a n : Int) : getR s a n = .tuple #[.int .u64 (gv s a n : Nat), .bool (gb s a n)] := by
  unfold getR gv gb
  by_cases h : getOK s a n <;> simp [h]
theorem get_all (s : ByteArray) (a n : Int) (hs : s.size ≤ 9223372036854775807) (w : World) :
    Calls Try.prog 11 #[.string s, .int .i64 a, .int .i64 n] w fun e w' => e = .returned (.tuple #[.int .u64 (gv s a n : Nat), .bool (gb s a n)]) ∧ w = w' :=
  (get_any s a n hs w).mono fun _ _ ⟨he, hw⟩ => ⟨by rw [he, getR_eq], hw⟩
theorem rget_all (s : ByteArray) (a n : Int) (hs : s.size ≤ 9223372036854775807) (w : World) :
    Calls Try.prog 12 #[.string s, .int .i64 a, .int .i64 n] w fun e w' => e = .returned (.tuple #[.int .u64 (gv s a n : Nat), .bool (gb s a n)]) ∧ w = w' :=
  (rget_any s a n hs w).mono fun _ _ ⟨he, hw⟩ => ⟨by rw [he, getR_eq], hw⟩
theorem k1 : ((gv ⟨#[1, 2, 3]⟩ 1 2 : Nat) : Int) = 515 := by decide
theorem k2 : gb ⟨#[1, 2, 3]⟩ 1 2 = true := by decide
theorem k3 : putS 258 2 = ⟨#[1, 2]⟩ := by decide
theorem k4 : signedI 255 8 = -1 := by decide
theorem k5 : ((rotN ((33 : Int) % 32).toNat 1 : Nat) : Int) = 2 := by decide
theorem k6 : ((fld 240 4 4 : Nat) : Int) = 15 := by decide
theorem k7 : fitI 300 8 = 127 := by decide
theorem k8 : ((popN 7 : Nat) : Int) = 3 := by decide
set_option maxHeartbeats 400000 in
theorem wakes_any (w : World) : Calls Try.prog 10 #[] w fun e w' => e = .returned (.bool true) ∧ Below w.heap.size w w' := by
  go_enter Try.func10, Try.ntmps10
  go_wp2_with (first
    | (go_at_call 11; refine (get_all _ _ _ (by decide) _).mono ?_; rintro e w' ⟨rfl, rfl⟩; rw [k1, k2])
    | (go_at_call 13; refine (put_any 258 (by omega) 2 _).mono ?_; rintro e w1 ⟨rfl, hb⟩; rw [k3])
    | (go_at_call 15; refine (signed_any 255 8 (by omega) (by omega) _).mono ?_; rintro e w' ⟨rfl, rfl⟩; rw [k4])
    | (go_at_call 19; refine (turn_any 1 (by omega) 33 _).mono ?_; rintro e w' ⟨rfl, rfl⟩; rw [k5])
    | (go_at_call 24; refine (field_yes 240 4 4 (by omega) (by omega) (by omega) _).mono ?_; rintro e w2 ⟨rfl, hb2⟩; rw [k6])
    | (go_at_call 17; refine (fit_any 300 8 (by omega) (by omega) _).mono ?_; rintro e w' ⟨rfl, rfl⟩; rw [k7])
    | (go_at_call 21; refine (count_any 7 (by omega) _).mono ?_; rintro e w' ⟨rfl, rfl⟩; rw [k8]))
  go_ret
  exact ⟨rfl, bstep (by assumption) (by assumption)⟩

def sgn (v : Nat) (b : Int) : Int := if 1 ≤ b ∧ b ≤ 64 then signedI v b.toNat else 0
def fit (v : Int) (b : Int) : Int := if 1 ≤ b ∧ b ≤ 64 then fitI v b.toNat else 0
def fldZ (v : Nat) (a n : Int) : Nat := if thereP a n then fld v a.toNat n.toNat else 0
def witZ (v f : Nat) (a n : Int) : Nat := if thereP a n then wit v a.toNat n.toNat f else v

set_option maxHeartbeats 400000 in
theorem signed_all (v : Nat) (b : Int) (w : World) : Calls Try.prog 15 #[.int .u64 v, .int .i64 b] w fun e w' => e = .returned (.int .i64 (sgn v b)) ∧ w = w' := by
  by_cases h : 1 ≤ b ∧ b ≤ 64
  · have HR := Lib.hid (show sgn v b = signedI v b.toNat by rw [sgn, if_pos h])
    obtain ⟨n, rfl⟩ := Int.eq_ofNat_of_zero_le (show 0 ≤ b by omega)
    exact (signed_any v n (by omega) (by omega) w).mono fun _ _ ⟨he, hw⟩ => ⟨by rw [he, HR.out]; rfl, hw⟩
  · have HR := Lib.hid (show sgn v b = 0 by rw [sgn, if_neg h])
    rcases (by omega : b < 1 ∨ (1 ≤ b ∧ 64 < b)) with h1 | ⟨h1, h2⟩
    · have d1 : decide (b < 1) = true := by simp; omega
      clear h
      go_enter Try.func15, Try.ntmps15
      go_wp2
      go_ret
      exact ⟨by rw [HR.out]; rfl, rfl⟩
    · have d1 : decide (b < 1) = false := by simp; omega
      have d2 : decide (64 < b) = true := by simp; omega
      clear h
      go_enter Try.func15, Try.ntmps15
      go_wp2
      go_ret
      exact ⟨by rw [HR.out]; rfl, rfl⟩

set_option maxHeartbeats 400000 in
theorem rsigned_all (v : Nat) (b : Int) (hv : v < 2 ^ 64) (w : World) : Calls Try.prog 16 #[.int .u64 v, .int .i64 b] w fun e w' => e = .returned (.int .i64 (sgn v b)) ∧ w = w' := by
  by_cases h : 1 ≤ b ∧ b ≤ 64
  · have HR := Lib.hid (show sgn v b = signedI v b.toNat by rw [sgn, if_pos h])
    obtain ⟨n, rfl⟩ := Int.eq_ofNat_of_zero_le (show 0 ≤ b by omega)
    exact (rsigned_any v n hv (by omega) (by omega) w).mono fun _ _ ⟨he, hw⟩ => ⟨by rw [he, HR.out]; rfl, hw⟩
  · have HR := Lib.hid (show sgn v b = 0 by rw [sgn, if_neg h])
    rcases (by omega : b < 1 ∨ (1 ≤ b ∧ 64 < b)) with h1 | ⟨h1, h2⟩
    · have d1 : decide (b < 1) = true := by simp; omega
      clear h
      go_enter Try.func16, Try.ntmps16
      go_wp2
      go_ret
      exact ⟨by rw [HR.out]; rfl, rfl⟩
    · have d1 : decide (b < 1) = false := by simp; omega
      have d2 : decide (64 < b) = true := by simp; omega
      clear h
      go_enter Try.func16, Try.ntmps16
      go_wp2
      go_ret
      exact ⟨by rw [HR.out]; rfl, rfl⟩

set_option maxHeartbeats 400000 in
theorem fit_all (v : Int) (b : Int) (w : World) : Calls Try.prog 17 #[.int .i64 v, .int .i64 b] w fun e w' => e = .returned (.int .i64 (fit v b)) ∧ w = w' := by
  by_cases h : 1 ≤ b ∧ b ≤ 64
  · have HR := Lib.hid (show fit v b = fitI v b.toNat by rw [fit, if_pos h])
    obtain ⟨n, rfl⟩ := Int.eq_ofNat_of_zero_le (show 0 ≤ b by omega)
    exact (fit_any v n (by omega) (by omega) w).mono fun _ _ ⟨he, hw⟩ => ⟨by rw [he, HR.out]; rfl, hw⟩
  · have HR := Lib.hid (show fit v b = 0 by rw [fit, if_neg h])
    rcases (by omega : b < 1 ∨ (1 ≤ b ∧ 64 < b)) with h1 | ⟨h1, h2⟩
    · have d1 : decide (b < 1) = true := by simp; omega
      clear h
      go_enter Try.func17, Try.ntmps17
      go_wp2
      go_ret
      exact ⟨by rw [HR.out]; rfl, rfl⟩
    · have d1 : decide (b < 1) = false := by simp; omega
      have d2 : decide (64 < b) = true := by simp; omega
      clear h
      go_enter Try.func17, Try.ntmps17
      go_wp2
      go_ret
      exact ⟨by rw [HR.out]; rfl, rfl⟩

set_option maxHeartbeats 400000 in
theorem rfit_all (v : Int) (b : Int) (w : World) : Calls Try.prog 18 #[.int .i64 v, .int .i64 b] w fun e w' => e = .returned (.int .i64 (fit v b)) ∧ w = w' := by
  by_cases h : 1 ≤ b ∧ b ≤ 64
  · have HR := Lib.hid (show fit v b = fitI v b.toNat by rw [fit, if_pos h])
    obtain ⟨n, rfl⟩ := Int.eq_ofNat_of_zero_le (show 0 ≤ b by omega)
    exact (rfit_any v n (by omega) (by omega) w).mono fun _ _ ⟨he, hw⟩ => ⟨by rw [he, HR.out]; rfl, hw⟩
  · have HR := Lib.hid (show fit v b = 0 by rw [fit, if_neg h])
    rcases (by omega : b < 1 ∨ (1 ≤ b ∧ 64 < b)) with h1 | ⟨h1, h2⟩
    · have d1 : decide (b < 1) = true := by simp; omega
      clear h
      go_enter Try.func18, Try.ntmps18
      go_wp2
      go_ret
      exact ⟨by rw [HR.out]; rfl, rfl⟩
    · have d1 : decide (b < 1) = false := by simp; omega
      have d2 : decide (64 < b) = true := by simp; omega
      clear h
      go_enter Try.func18, Try.ntmps18
      go_wp2
      go_ret
      exact ⟨by rw [HR.out]; rfl, rfl⟩

theorem field_all (v : Nat) (hv : v < 2 ^ 64) (a n : Int) (w : World) : Calls Try.prog 24 #[.int .u64 v, .int .i64 a, .int .i64 n] w fun e w' => e = .returned (.int .u64 (fldZ v a n)) ∧ Below w.heap.size w w' := by
  by_cases h : thereP a n
  · have HR : fldZ v a n = fld v a.toNat n.toNat := by rw [fldZ, if_pos h]
    rw [HR]
    obtain ⟨h1, h2, h3, h4⟩ := h
    obtain ⟨a, rfl⟩ := Int.eq_ofNat_of_zero_le h1
    obtain ⟨n, rfl⟩ := Int.eq_ofNat_of_zero_le h2
    exact field_yes v a n hv (by omega) (by omega) w
  · rw [fldZ, if_neg h]
    exact field_no v a n h w

theorem rfield_all (v : Nat) (hv : v < 2 ^ 64) (a n : Int) (w : World) : Calls Try.prog 25 #[.int .u64 v, .int .i64 a, .int .i64 n] w fun e w' => e = .returned (.int .u64 (fldZ v a n)) ∧ w = w' := by
  by_cases h : thereP a n
  · have HR : fldZ v a n = fld v a.toNat n.toNat := by rw [fldZ, if_pos h]
    rw [HR]
    obtain ⟨h1, h2, h3, h4⟩ := h
    obtain ⟨a, rfl⟩ := Int.eq_ofNat_of_zero_le h1
    obtain ⟨n, rfl⟩ := Int.eq_ofNat_of_zero_le h2
    exact rfield_yes v a n hv (by omega) (by omega) w
  · rw [fldZ, if_neg h]
    exact rfield_no v a n h w

theorem with_all (v : Nat) (hv : v < 2 ^ 64) (a n : Int) (f : Nat) (hf : f < 2 ^ 64) (w : World) : Calls Try.prog 26 #[.int .u64 v, .int .i64 a, .int .i64 n, .int .u64 f] w fun e w' => e = .returned (.int .u64 (witZ v f a n)) ∧ Below w.heap.size w w' := by
  by_cases h : thereP a n
  · have HR : witZ v f a n = wit v a.toNat n.toNat f := by rw [witZ, if_pos h]
    rw [HR]
    obtain ⟨h1, h2, h3, h4⟩ := h
    obtain ⟨a, rfl⟩ := Int.eq_ofNat_of_zero_le h1
    obtain ⟨n, rfl⟩ := Int.eq_ofNat_of_zero_le h2
    exact with_yes v f a n hv hf (by omega) (by omega) w
  · rw [witZ, if_neg h]
    exact with_no v f a n h w

theorem rwith_all (v : Nat) (hv : v < 2 ^ 64) (a n : Int) (f : Nat) (hf : f < 2 ^ 64) (w : World) : Calls Try.prog 27 #[.int .u64 v, .int .i64 a, .int .i64 n, .int .u64 f] w fun e w' => e = .returned (.int .u64 (witZ v f a n)) ∧ w = w' := by
  by_cases h : thereP a n
  · have HR : witZ v f a n = wit v a.toNat n.toNat f := by rw [witZ, if_pos h]
    rw [HR]
    obtain ⟨h1, h2, h3, h4⟩ := h
    obtain ⟨a, rfl⟩ := Int.eq_ofNat_of_zero_le h1
    obtain ⟨n, rfl⟩ := Int.eq_ofNat_of_zero_le h2
    exact rwith_yes v f a n hv hf (by omega) (by omega) w
  · rw [witZ, if_neg h]
    exact rwith_no v f a n h w

theorem u64_nat {v : Int} (h : (Lit.int .u64 v).wf = true) : ∃ n : Nat, n < 2 ^ 64 ∧ v = (n : Int) := by
  simp [Lit.wf, IntKind.min, IntKind.max, IntKind.signed, IntKind.bits] at h
  exact ⟨v.toNat, by omega, by omega⟩
theorem u32_nat {v : Int} (h : (Lit.int .u32 v).wf = true) : ∃ n : Nat, n < 2 ^ 32 ∧ v = (n : Int) := by
  simp [Lit.wf, IntKind.min, IntKind.max, IntKind.signed, IntKind.bits] at h
  exact ⟨v.toNat, by omega, by omega⟩
theorem i64_bd {v : Int} (h : (Lit.int .i64 v).wf = true) : -9223372036854775808 ≤ v ∧ v ≤ 9223372036854775807 := by
  simpa [Lit.wf, IntKind.min, IntKind.max, IntKind.signed, IntKind.bits] using h

set_option maxHeartbeats 400000 in
theorem signs_walk (v : Int) (hv : (Lit.int .u64 v).wf = true) (x : Int) (_ : (Lit.int .i64 x).wf = true) (b : Int) (_ : (Lit.int .i64 b).wf = true) (w : World) :
    Calls Try.prog 4 #[.int .u64 v, .int .i64 x, .int .i64 b] w fun e w' => e = .returned (.bool true) ∧ Below w.heap.size w w' := by
  obtain ⟨v, hv2, rfl⟩ := u64_nat hv
  have HV := Lib.hid hv2
  clear hv hv2
  go_enter Try.func4, Try.ntmps4
  go_wp2_with (first
    | (go_at_call 15; refine (signed_all _ _ _).mono ?_; rintro e w' ⟨rfl, rfl⟩)
    | (go_at_call 16; refine (rsigned_all _ _ HV.out _).mono ?_; rintro e w' ⟨rfl, rfl⟩)
    | (go_at_call 17; refine (fit_all _ _ _).mono ?_; rintro e w' ⟨rfl, rfl⟩)
    | (go_at_call 18; refine (rfit_all _ _ _).mono ?_; rintro e w' ⟨rfl, rfl⟩)
    | (go_at_call 10; refine (wakes_any _).mono ?_; rintro e w' ⟨rfl, hb⟩))
  go_ret
  exact ⟨rfl, by assumption⟩
set_option maxHeartbeats 400000 in
theorem turns_walk (v : Int) (hv : (Lit.int .u32 v).wf = true) (x : Int) (hx : (Lit.int .u64 x).wf = true) (n : Int) (_ : (Lit.int .i64 n).wf = true) (w : World) :
    Calls Try.prog 5 #[.int .u32 v, .int .u64 x, .int .i64 n] w fun e w' => e = .returned (.bool true) ∧ Below w.heap.size w w' := by
  obtain ⟨v, hv2, rfl⟩ := u32_nat hv
  obtain ⟨x, hx2, rfl⟩ := u64_nat hx
  have HV := Lib.hid hv2
  have HX := Lib.hid hx2
  clear hv hv2 hx hx2
  go_enter Try.func5, Try.ntmps5
  go_wp2_with (first
    | (go_at_call 19; refine (turn_any _ HV.out _ _).mono ?_; rintro e w' ⟨rfl, rfl⟩)
    | (go_at_call 20; refine (rturn_any _ HV.out _ _).mono ?_; rintro e w' ⟨rfl, rfl⟩)
    | (go_at_call 21; refine (count_any _ HX.out _).mono ?_; rintro e w' ⟨rfl, rfl⟩)
    | (go_at_call 22; refine (rcount_any _ HX.out _).mono ?_; rintro e w' ⟨rfl, rfl⟩)
    | (go_at_call 10; refine (wakes_any _).mono ?_; rintro e w' ⟨rfl, hb⟩))
  go_ret
  exact ⟨rfl, by assumption⟩
end Go.Proofs.Ytlegggefgjlkbaa.ShiftW
