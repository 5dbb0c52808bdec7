/- The walk of ShiftHalves. -/
import Derived.Test.YtlegggefgjlkbaaShiftLaw
namespace Go.Proofs.Ytlegggefgjlkbaa.ShiftW
open Go.RowKit
theorem fld_hi (v n : Nat) : fld v (8 * n) (8 * n) = v / 256 ^ n % 256 ^ n := by rw [fld, ShiftP.fieldN, ShiftP.p256]
theorem fld_lo (v n : Nat) : fld v 0 (8 * n) = v % 256 ^ n := by rw [fld, ShiftP.fieldN, ShiftP.p256]; simp
theorem putS_data (v n : Nat) (h : n ≤ 8) : (putS v n).data.toList = ShiftP.putN v n := by
  rw [putS, if_pos ⟨by omega, by omega⟩, Int.toNat_natCast]
theorem putS_size (v n : Nat) (h : n ≤ 8) : (putS v n).size = n := by
  have := congrArg List.length (putS_data v n h)
  rw [ShiftP.putN_length] at this
  simpa using this
theorem halves_put (v n : Nat) (h : n ≤ 4) : (putS v (2 * n : Nat)).data.toList = (putS (fld v (8 * n) (8 * n)) n).data.toList ++ (putS (fld v 0 (8 * n)) n).data.toList := by
  rw [putS_data _ _ (by omega), putS_data _ _ (by omega), putS_data _ _ (by omega), fld_hi, fld_lo, ShiftP.putN_mod, ShiftP.putN_mod, Nat.two_mul, ShiftP.putN_append]
theorem halves_hi (v n : Nat) (h : n ≤ 4) : getV (putS v (2 * n : Nat)) 0 n = fld v (8 * n) (8 * n) := by
  rw [getV, putS_data _ _ (by omega), List.drop_zero, Nat.two_mul, ShiftP.putN_append, List.take_left' (ShiftP.putN_length _ _), ShiftP.getN_putN, fld_hi]
theorem halves_lo (v n : Nat) (h : n ≤ 4) : getV (putS v (2 * n : Nat)) n n = fld v 0 (8 * n) := by
  rw [getV, putS_data _ _ (by omega), Nat.two_mul, ShiftP.putN_append, List.drop_left' (ShiftP.putN_length _ _), List.take_of_length_le (by rw [ShiftP.putN_length]; exact Nat.le_refl _), ShiftP.getN_putN, fld_lo]
theorem halves_with (v n : Nat) : wit (fld v 0 (8 * n)) (8 * n) (8 * n) (fld v (8 * n) (8 * n)) = fld v 0 (16 * n) := by
  rw [wit, ShiftP.withN, fld_hi, fld_lo, fld, ShiftP.fieldN, show 8 * n + 8 * n = 16 * n by omega, ShiftP.p256]
  have e : 2 ^ (16 * n) = 256 ^ n * 256 ^ n := by rw [show 16 * n = 8 * (n + n) by omega, ShiftP.p256, Nat.pow_add]
  have hp : 0 < 256 ^ n := Nat.pow_pos (by omega)
  have h1 : v % 256 ^ n < 256 ^ n := Nat.mod_lt _ hp
  have h2 : 1 ≤ 256 ^ n := hp
  rw [e, Nat.mod_mod, Nat.mod_mod, Nat.div_eq_of_lt (a := v % 256 ^ n) (Nat.lt_of_lt_of_le h1 (Nat.le_mul_of_pos_left _ hp)), Nat.pow_zero, Nat.div_one, Nat.mod_mul, Nat.zero_mul, Nat.add_zero, Nat.mul_comm]
theorem gv_in (s : ByteArray) (a n : Nat) (h : getOK s a n) : gv s a n = getV s a n := by rw [gv, if_pos h]; rfl
set_option maxHeartbeats 1000000 in
theorem halves_walk (v : Int) (hv : (Lit.int .u64 v).wf = true) (b : Int) (_ : (Lit.int .i64 b).wf = true) (w : World) :
    Calls Try.prog 9 #[.int .u64 v, .int .i64 b] w fun e w' => e = .returned (.bool true) ∧ Below w.heap.size w w' := by
  obtain ⟨v, hv2, rfl⟩ := u64_nat hv
  have HV := Lib.hid hv2
  clear hv hv2
  obtain ⟨n, hn, hk⟩ : ∃ n : Nat, n ≤ 4 ∧ b % 5 = (n : Int) := ⟨(b % 5).toNat, by omega, by omega⟩
  have HK := Lib.hid hk
  clear hk
  have q1 : fldZ v (8 * (n : Int)) (8 * (n : Int)) = fld v (8 * n) (8 * n) := by
    rw [fldZ, if_pos (by unfold thereP; omega)]; congr 1 <;> omega
  have q2 : fldZ v 0 (8 * (n : Int)) = fld v 0 (8 * n) := by
    rw [fldZ, if_pos (by unfold thereP; omega)]; rfl
  have q3 : fldZ v 0 (16 * (n : Int)) = fld v 0 (16 * n) := by
    rw [fldZ, if_pos (by unfold thereP; omega)]; rfl
  have q4 : putS v (2 * (n : Int)) = putS v (2 * n : Nat) := by congr 1
  have hs := putS_size v (2 * n) (by omega)
  have ok1 : getOK (putS v (2 * n : Nat)) ((0 : Nat) : Int) n := by unfold getOK; omega
  have ok2 : getOK (putS v (2 * n : Nat)) n n := by unfold getOK; omega
  have q5 : gv (putS v (2 * n : Nat)) 0 n = fld v (8 * n) (8 * n) := (gv_in _ 0 n ok1).trans (halves_hi v n hn)
  have q6 : gv (putS v (2 * n : Nat)) n n = fld v 0 (8 * n) := (gv_in _ n n ok2).trans (halves_lo v n hn)
  have q7 : gb (putS v (2 * n : Nat)) 0 n = true := decide_eq_true ok1
  have q8 : gb (putS v (2 * n : Nat)) n n = true := decide_eq_true ok2
  have q9 : putS (fld v (8 * n) (8 * n)) n ++ putS (fld v 0 (8 * n)) n = putS v (2 * n : Nat) := by
    apply ByteArray.ext
    apply Array.toList_inj.1
    rw [halves_put v n hn]; simp
  have q11 := putS_size (fld v (8 * n) (8 * n)) n (by omega)
  have q12 := putS_size (fld v 0 (8 * n)) n (by omega)
  have q10 : witZ (fld v 0 (8 * n)) (fld v (8 * n) (8 * n)) (8 * (n : Int)) (8 * (n : Int)) = fld v 0 (16 * n) := by
    rw [witZ, if_pos (by unfold thereP; omega), ← halves_with v n]; congr 1 <;> omega
  have l1 : fld v (8 * n) (8 * n) < 2 ^ 64 := Nat.lt_of_le_of_lt (ShiftP.fieldN_le _ _ _) HV.out
  have l2 : fld v 0 (8 * n) < 2 ^ 64 := Nat.lt_of_le_of_lt (ShiftP.fieldN_le _ _ _) HV.out
  generalize fld v (8 * n) (8 * n) = hi at *
  generalize fld v 0 (8 * n) = lo at *
  generalize fld v 0 (16 * n) = z at *
  generalize putS v (2 * n : Nat) = S at *
  have Q1 := Lib.hid q1
  have Q2 := Lib.hid q2
  have Q3 := Lib.hid q3
  have Q4 := Lib.hid q4
  have Q5 := Lib.hid q5
  have Q6 := Lib.hid q6
  have Q7 := Lib.hid q7
  have Q8 := Lib.hid q8
  have Q10 := Lib.hid q10
  have L1 := Lib.hid l1
  have L2 := Lib.hid l2
  have hsz : S.size ≤ 8 := by omega
  have hsz2 : (putS hi n).size + (putS lo n).size ≤ 9223372036854775807 := by omega
  clear q1 q2 q3 q4 q5 q6 q7 q8 q10 l1 l2 hs ok1 ok2 q11 q12
  go_enter Try.func9, Try.ntmps9
  go_wp2_with (first
    | (go_at_call 23; refine (mod_any _ _ _ (by omega) (by omega)).mono ?_; rintro e w' ⟨rfl, rfl⟩; rw [HK.out])
    | (go_at_call_of 13 (Value.int .u64 (v : Int)); refine (put_any v HV.out _ _).mono ?_; rintro e w1 ⟨rfl, hb1⟩; rw [Q4.out])
    | (go_at_call_of 13 (Value.int .u64 (hi : Int)); refine (put_any hi L1.out _ _).mono ?_; rintro e w1 ⟨rfl, hb1⟩)
    | (go_at_call_of 13 (Value.int .u64 (lo : Int)); refine (put_any lo L2.out _ _).mono ?_; rintro e w1 ⟨rfl, hb1⟩)
    | (go_at_call 24; refine (field_all v HV.out _ _ _).mono ?_; rintro e w1 ⟨rfl, hb1⟩; first | rw [Q1.out] | rw [Q2.out] | rw [Q3.out])
    | (go_at_call 11; refine (get_all S _ _ (by omega) _).mono ?_; rintro e w1 ⟨rfl, rfl⟩; first | rw [Q5.out, Q7.out] | rw [Q6.out, Q8.out])
    | (go_at_call 26; refine (with_all lo L2.out _ _ hi L1.out _).mono ?_; rintro e w1 ⟨rfl, hb1⟩; rw [Q10.out])
    | (go_at_call 10; refine (wakes_any _).mono ?_; rintro e w1 ⟨rfl, hb1⟩))
  go_ret
  exact ⟨rfl, by repeat (first | exact below_refl _ | assumption | refine bstep ?_ (by assumption))⟩
end Go.Proofs.Ytlegggefgjlkbaa.ShiftW
