/- The walk of ShiftBack. -/
import Derived.Test.YtlegggefgjlkbaaShiftLaw4
import Derived.Test.YtlegggefgjlkbaaShiftLaw2
namespace Go.Proofs.Ytlegggefgjlkbaa.ShiftW
open Go.RowKit
theorem rot_neg (k : Int) (u : Nat) (hu : u < 2 ^ 32) : rotN ((-k) % 32).toNat (rotN (k % 32).toNat u) = u := by
  unfold rotN
  obtain ⟨j, hj, e⟩ : ∃ j : Nat, j < 32 ∧ (k % 32).toNat = j := ⟨_, by omega, rfl⟩
  rw [e]
  by_cases h0 : j = 0
  · have e2 : ((-k) % 32).toNat = 0 := by omega
    rw [e2, h0, ShiftP.rot_zero u hu, ShiftP.rot_zero u hu]
  · have e2 : ((-k) % 32).toNat = 32 - j := by omega
    rw [e2, ShiftP.rot_back j u (by omega) hu]
theorem rot_more (k : Int) (u : Nat) : rotN ((k + 32) % 32).toNat u = rotN (k % 32).toNat u := by rw [Int.add_emod_right]
theorem rot_popN (k : Int) (u : Nat) (hu : u < 2 ^ 32) : popN (rotN (k % 32).toNat u) = popN u := ShiftP.rot_pop _ u (by omega) hu
theorem wrap_small (n : Nat) (h : n < 2 ^ 64) : IntKind.u64.wrap (n : Int) = (n : Int) := by rw [IntKind.wrap_u64]; omega
theorem rotN_lt (k : Int) (u : Nat) (hu : u < 2 ^ 32) : rotN (k % 32).toNat u < 2 ^ 32 := ShiftP.rot_lt _ u (by omega) hu
theorem put_get (v n : Nat) (hn : n ≤ 8) : getV (⟨#[120]⟩ ++ putS v n ++ ⟨#[121]⟩) 1 n = v % 256 ^ n := by
  have e : (⟨#[120]⟩ ++ putS v n ++ ⟨#[121]⟩ : ByteArray).data.toList = [120] ++ (ShiftP.putN v n ++ [121]) := by
    rw [← putS_data v n hn]; simp
  rw [getV, e, show List.drop 1 ([120] ++ (ShiftP.putN v n ++ [121])) = ShiftP.putN v n ++ [121] from rfl, List.take_left' (ShiftP.putN_length _ _), ShiftP.getN_putN]

set_option maxHeartbeats 1000000 in
theorem back_walk (v : Int) (hv : (Lit.int .u64 v).wf = true) (f : Int) (hf : (Lit.int .u64 f).wf = true) (x : Int) (hx : (Lit.int .i64 x).wf = true) (y : Int) (hy : (Lit.int .i64 y).wf = true) (z : Int) (hz : (Lit.int .i64 z).wf = true) (w : World) :
    Calls Try.prog 8 #[.int .u64 v, .int .u64 f, .agg #[.int .i64 x, .int .i64 y, .int .i64 z]] w fun e w' => e = .returned (.bool true) ∧ Below w.heap.size w w' := by
  obtain ⟨v, hv2, rfl⟩ := u64_nat hv
  obtain ⟨f, hf2, rfl⟩ := u64_nat hf
  have HV := Lib.hid hv2
  have HF := Lib.hid hf2
  clear hv hv2 hf hf2
  obtain ⟨hy1, hy2⟩ := i64_bd hy
  clear hx hy hz
  obtain ⟨n, hn, hk⟩ : ∃ n : Nat, n ≤ 8 ∧ x % 9 = (n : Int) := ⟨(x % 9).toNat, by omega, by omega⟩
  obtain ⟨a, ha, hka⟩ : ∃ a : Nat, a ≤ 64 ∧ y % 65 = (a : Int) := ⟨(y % 65).toNat, by omega, by omega⟩
  obtain ⟨b, hb, hkb⟩ : ∃ b : Nat, b ≤ 64 - a ∧ z % (65 - (a : Int)) = (b : Int) := by
    have h1 := Int.emod_nonneg z (b := 65 - (a : Int)) (by omega)
    have h2 := Int.emod_lt_of_pos z (b := 65 - (a : Int)) (by omega)
    exact ⟨(z % (65 - (a : Int))).toNat, by omega, by omega⟩
  have HK := Lib.hid hk
  have HKA := Lib.hid hka
  have HKB := Lib.hid hkb
  clear hk hka hkb
  -- the number that was put
  have hs := putS_size v n hn
  obtain ⟨T, hT⟩ : ∃ T, ⟨#[120]⟩ ++ putS v n ++ ⟨#[121]⟩ = T := ⟨_, rfl⟩
  have hTs : T.size = n + 2 := by
    rw [← hT]
    have := putS_data v n hn
    have h2 := congrArg List.length this
    rw [ShiftP.putN_length] at h2
    simp at h2
    simp [ByteArray.size_append, h2]; rw [show (ByteArray.mk #[120]).size = 1 from rfl, show (ByteArray.mk #[121]).size = 1 from rfl]; omega
  have ok : getOK T 1 n := by unfold getOK; omega
  have q1 : gv T 1 n = fldZ v 0 (8 * (n : Int)) := by
    have h1 := put_get v n hn
    rw [hT] at h1
    rw [gv, if_pos ok, show (1 : Int).toNat = 1 from rfl, Int.toNat_natCast, h1, fldZ, if_pos (by unfold thereP; omega), show (8 * (n : Int)).toNat = 8 * n by omega]
    exact (fld_lo v n).symm
  have q2 : gb T 1 n = true := decide_eq_true ok
  have hsz : (putS v n).size ≤ 8 := by omega
  have hne : (((putS v n).size : Int) != (n : Int)) = false := by rw [hs]; simp
  generalize hP : putS v n = S at *
  have HP := Lib.hid hP
  clear hP
  have HT := Lib.hid hT
  have Q1 := Lib.hid q1
  have Q2 := Lib.hid q2
  have hTs2 : T.size ≤ 10 := by omega
  clear hT q1 q2 ok hs hTs
  -- a number with others there
  have tp : thereP a b := by unfold thereP; omega
  have w1 : fldZ (witZ v f a b) a b = fldZ f 0 b := by
    rw [fldZ, if_pos tp, fldZ, if_pos (by unfold thereP; omega), witZ, if_pos tp]
    simp only [Int.toNat_natCast]
    rw [fld, wit, ShiftP.withN_field, fld, ShiftP.fieldN]; simp
  have w2 : fldZ (witZ v f a b) 0 a = fldZ v 0 a := by
    rw [fldZ, if_pos (by unfold thereP; omega), fldZ, if_pos (by unfold thereP; omega), witZ, if_pos tp]
    simp only [Int.toNat_natCast]
    rw [fld, wit, fld, ShiftP.fieldN, ShiftP.fieldN]
    simp [ShiftP.withN_mod]
  have w3 : fldZ (witZ v f a b) ((a : Int) + b) (64 - (a : Int) - b) = fldZ v ((a : Int) + b) (64 - (a : Int) - b) := by
    rw [fldZ, if_pos (by unfold thereP; omega), fldZ, if_pos (by unfold thereP; omega), witZ, if_pos tp]
    simp only [Int.toNat_natCast]
    rw [show ((a : Int) + b).toNat = a + b by omega, fld, wit, fld, ShiftP.fieldN, ShiftP.fieldN, ShiftP.withN_div]
  have w4 : witZ v f a b < 2 ^ 64 := by
    rw [witZ, if_pos tp]
    simp only [Int.toNat_natCast]
    exact ShiftP.withN_lt v a b f 64 (by omega) HV.out
  generalize hWW : witZ v f a b = W at *
  have HW := Lib.hid hWW
  have W1 := Lib.hid w1
  have W2 := Lib.hid w2
  have W3 := Lib.hid w3
  have W4 := Lib.hid w4
  clear w1 w2 w3 w4 tp hWW
  -- turns
  obtain ⟨u, hu⟩ : ∃ u : Nat, u = v % 2 ^ 32 := ⟨_, rfl⟩
  have hul : u < 2 ^ 32 := by rw [hu]; exact Nat.mod_lt _ (by omega)
  have hue : (v : Int) % 4294967296 = (u : Int) := by rw [hu]; omega
  have hkb := Int.tmod_lt_of_pos y (b := 1000) (by omega)
  have hkc := Int.tmod_lt_of_pos (-y) (b := 1000) (by omega)
  rw [Int.neg_tmod] at hkc
  have hkd : -1000 < y.tmod 1000 := by omega
  obtain ⟨k, hke⟩ : ∃ k : Int, y.tmod 1000 = k := ⟨_, rfl⟩
  rw [hke] at hkb hkd
  have r1 := rot_neg k u hul
  have r2 := rot_more k u
  have r3 := rot_popN k u hul
  have r4 := rotN_lt k u hul
  have R0 := Lib.hid hul
  have R1 := Lib.hid r1
  have R2 := Lib.hid r2
  have R3 := Lib.hid r3
  have R4 := Lib.hid r4
  clear hu hul hkc r1 r2 r3 r4
  go_enter Try.func8, Try.ntmps8
  go_wp2_with fail
  go_region_held3 (fun w' => w'.cell? ⟨w.heap.size, 0, none⟩ = some (.int .i64 x) ∧ w'.cell? ⟨w.heap.size, 1, none⟩ = some (.int .i64 y) ∧ w'.cell? ⟨w.heap.size, 2, none⟩ = some (.int .i64 z) ∧ Below w.heap.size w w' ∧ w.heap.size < w'.heap.size)
      (first
        | (refine ⟨by simp, by simp, by simp, ?_, by simp⟩; exact (below_alloc w _).drew)
        | (go_split_ands; exact ⟨by assumption, by assumption, by assumption, by assumption, by assumption⟩))
      (first
        | (go_at_call_of 23 (Value.int .i64 x); refine (mod_any _ _ _ (by omega) (by omega)).mono ?_; rintro e w1 ⟨rfl, rfl⟩; rw [HK.out])
        | (go_at_call_of 23 (Value.int .i64 y); refine (mod_any _ _ _ (by omega) (by omega)).mono ?_; rintro e w1 ⟨rfl, rfl⟩; rw [HKA.out]))
  go_split_ands
  have K0 : Kept w 1 (.int .i64 y) (w.alloc (Obj.cells #[Value.int IntKind.i64 x, Value.int IntKind.i64 y, Value.int IntKind.i64 z] 41)).drew := ⟨by assumption, by assumption, by assumption⟩
  have KK := Lib.hid K0
  clear K0
  go_wp2_with (first
    | (go_at_call 23; refine (mod_any _ _ _ (by omega) (by omega)).mono ?_; rintro e w1 ⟨rfl, rfl⟩; rw [HKB.out])
    | (go_at_call 13; generalize (w.alloc (Obj.cells #[Value.int IntKind.i64 x, Value.int IntKind.i64 y, Value.int IntKind.i64 z] 41)).drew = w0 at *; refine (put_any v HV.out _ _).mono ?_; rintro e w1 ⟨rfl, hb1⟩; rw [HP.out])
    | (go_at_call 11; rw [HT.out]; refine (get_all T _ _ (by omega) _).mono ?_; rintro e w1 ⟨rfl, rfl⟩; rw [Q1.out, Q2.out])
    | (go_at_call_of 24 (Value.int .u64 (v : Int)); refine (field_all v HV.out _ _ _).mono ?_; rintro e w1 ⟨rfl, hb1⟩)
    | (go_at_call_of 24 (Value.int .u64 (f : Int)); refine (field_all f HF.out _ _ _).mono ?_; rintro e w1 ⟨rfl, hb1⟩)
    | (go_at_call_of 24 (Value.int .u64 (W : Int)); refine (field_all W W4.out _ _ _).mono ?_; rintro e w1 ⟨rfl, hb1⟩; first | rw [W1.out] | rw [W2.out] | rw [W3.out])
    | (go_at_call 26; refine (with_all v HV.out _ _ f HF.out _).mono ?_; rintro e w1 ⟨rfl, hb1⟩; rw [HW.out]))
  have KF : Kept w 1 (.int .i64 y) w1 := by repeat (first | exact KK.out | refine Kept.step ?_ (by assumption))
  obtain ⟨hc, hbel, hsz9⟩ := KF
  have HBEL := Lib.hid hbel
  clear hbel
  go_quiet (fail)
  have C1 := Lib.hid (show u < 2 ^ 64 from Nat.lt_trans R0.out (by omega))
  have C2 := Lib.hid (show rotN (k % 32).toNat u < 2 ^ 64 from Nat.lt_trans R4.out (by omega))
  go_wp2_with fail
  refine (turn_any u R0.out _ _).mono ?_; rintro e w2 ⟨rfl, rfl⟩
  go_wp2_with fail
  refine (turn_any _ R4.out _ _).mono ?_; rintro e w2 ⟨rfl, rfl⟩; rw [R1.out]
  go_wp2_with fail
  refine (turn_any u R0.out _ _).mono ?_; rintro e w2 ⟨rfl, rfl⟩; rw [R2.out]
  go_wp2_with fail
  refine (turn_any u R0.out _ _).mono ?_; rintro e w2 ⟨rfl, rfl⟩
  go_wp2_with fail
  refine (turn_any u R0.out _ _).mono ?_; rintro e w2 ⟨rfl, rfl⟩
  go_wp2_with fail
  rw [wrap_small _ C2.out]
  refine (count_any _ C2.out _).mono ?_; rintro e w2 ⟨rfl, rfl⟩; rw [R3.out]
  go_wp2_with fail
  refine (count_any _ C1.out _).mono ?_; rintro e w2 ⟨rfl, rfl⟩
  go_wp2_with fail
  refine (wakes_any _).mono ?_; rintro e w2 ⟨rfl, hb2⟩
  go_wp2_with fail
  go_ret
  exact ⟨rfl, bstep (below_drewN HBEL.out _) hb2⟩
end Go.Proofs.Ytlegggefgjlkbaa.ShiftW
