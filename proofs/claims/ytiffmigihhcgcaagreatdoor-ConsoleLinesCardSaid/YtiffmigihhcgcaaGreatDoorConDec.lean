/- The document's decimal and hexadecimal digits. -/
import Derived.Test.YtiffmigihhcgcaaGreatDoorBase
import Derived.Test.YtiffmigihhcgcaaGreatDoorConForm
import Derived.Test.YtiffmigihhcgcaaGreatDoorConParse
import Derived.BigQuiet
import Derived.Lib.ItoaLen
namespace Go.Proofs.YtiffmigihhcgcaaGreatDoor.ConW
set_option maxRecDepth 100000
set_option linter.constructorNameAsVariable false
set_option linter.unusedVariables false
open Go.RowKit ConP
theorem digs_cat (a b : Bs) : bs (a ++ b) = bs a ++ bs b := by
  apply ByteArray.ext
  apply Array.toList_inj.1
  simp [bs]
def digB : ByteArray := ⟨#[48, 49, 50, 51, 52, 53, 54, 55, 56, 57, 97, 98, 99, 100, 101, 102]⟩
theorem dig_fin : ∀ u : Fin 10, digB.extract u.val (u.val + 1) = bs [UInt8.ofNat (48 + u.val)] := by decide
theorem dec_one {u : Nat} (h : u < 10) : Lib.decDigits u = [UInt8.ofNat (48 + u)] := by rw [Lib.decDigits, dif_pos h]
theorem dig_dec {u : Nat} (h : u < 10) : digB.extract u (u + 1) = bs (Lib.decDigits u) := by rw [dec_one h]; exact dig_fin ⟨u, h⟩
set_option maxHeartbeats 1600000 in
theorem dec_tiny (u : Nat) (h : u < 10) (w : World) : Calls Tryz.prog 14 #[.int .i64 (u : Int)] w fun e w' => e = .returned (.string (bs (Lib.decDigits u))) ∧ w = w' := by
  have hu : u = 0 ∨ u = 1 ∨ u = 2 ∨ u = 3 ∨ u = 4 ∨ u = 5 ∨ u = 6 ∨ u = 7 ∨ u = 8 ∨ u = 9 := by omega
  clear h
  rcases hu with rfl | rfl | rfl | rfl | rfl | rfl | rfl | rfl | rfl | rfl
  all_goals
    go_enter Tryz.func14, Tryz.ntmps14
    go_wp2_with fail
    go_ret
    exact ⟨congrArg (fun q => Ending.returned (.string q)) (dig_dec (by decide)), rfl⟩
set_option maxHeartbeats 1600000 in
theorem dec_nat_any (B : Nat) : ∀ (u : Nat), u < B → (u : Int) ≤ 9223372036854775807 → ∀ w, Calls Tryz.prog 14 #[.int .i64 (u : Int)] w fun e w' => e = .returned (.string (bs (Lib.decDigits u))) ∧ ∃ k, w' = w.drewN k := by
  induction B with
  | zero => intro u hu; omega
  | succ B ih =>
    intro u hu hb w
    by_cases h10 : u < 10
    · exact (dec_tiny u h10 w).mono fun e w' h => ⟨h.1, 0, h.2.symm⟩
    · obtain ⟨q, hq⟩ : ∃ q, q = u / 10 := ⟨_, rfl⟩
      obtain ⟨m, hm⟩ : ∃ m, m = u % 10 := ⟨_, rfl⟩
      have hm10 : m < 10 := by omega
      have HI := Lib.hid (ih q (by omega) (by omega))
      have HD : Hid (Lib.decDigits u = Lib.decDigits q ++ Lib.decDigits m) := Lib.hid (by rw [dec_step h10, dec_one hm10, hq, hm])
      have t1 : (u : Int).tdiv 10 = (q : Int) := by rw [hq, Int.tdiv_eq_ediv_of_nonneg (by omega)]; omega
      have t2 : (u : Int).tmod 10 = (m : Int) := by rw [hm, Int.tmod_eq_emod_of_nonneg (by omega)]; omega
      have t3 : ((u : Int) == -9223372036854775808) = false := beq_eq_false_iff_ne.2 (by omega)
      have t4 : decide ((u : Int) < 0) = false := decide_eq_false (by omega)
      have t5 : decide ((u : Int) < 10) = false := decide_eq_false (by omega)
      have t6 : IntKind.i64.wrap (q : Int) = (q : Int) := IntWalk.i64_in (q : Int) (by omega)
      have hms : m = 0 ∨ m = 1 ∨ m = 2 ∨ m = 3 ∨ m = 4 ∨ m = 5 ∨ m = 6 ∨ m = 7 ∨ m = 8 ∨ m = 9 := by omega
      have hsq : (bs (Lib.decDigits q)).size ≤ 21 := by
        rw [bs_size, ← itoa_nat]
        exact Lib.itoa_length_le _ (by omega) (by omega)
      obtain ⟨sq, hsqe⟩ : ∃ sq, sq = bs (Lib.decDigits q) := ⟨_, rfl⟩
      rw [← hsqe] at hsq HI
      have v1 : ¬ 9223372036854775807 < sq.size + 1 := by omega
      have HSQ := Lib.hid hsqe
      clear ih hu hb h10 hq hm hm10 hsq hsqe
      rcases hms with rfl | rfl | rfl | rfl | rfl | rfl | rfl | rfl | rfl | rfl
      · have t2' : (u : Int).tmod 10 = 0 := t2
        have t8 : IntKind.i64.wrap 1 = 1 := IntWalk.i64_in 1 (by omega)
        have t7 : IntKind.i64.wrap 0 = 0 := IntWalk.i64_in 0 (by omega)
        clear t2
        go_enter Tryz.func14, Tryz.ntmps14
        go_wp2_with fail
        go_quiet ((go_at_call 14; exact Calls.quiet_of (HI.out _)))
        go_wp2_with fail
        go_ret
        exact ⟨congrArg (fun q => Ending.returned (.string q)) (by rw [HD.out, digs_cat, ← HSQ.out]; exact congrArg (sq ++ ·) (dig_dec (u := 0) (by decide))), _, rfl⟩
      · have t2' : (u : Int).tmod 10 = 1 := t2
        have t8 : IntKind.i64.wrap 2 = 2 := IntWalk.i64_in 2 (by omega)
        have t7 : IntKind.i64.wrap 1 = 1 := IntWalk.i64_in 1 (by omega)
        clear t2
        go_enter Tryz.func14, Tryz.ntmps14
        go_wp2_with fail
        go_quiet ((go_at_call 14; exact Calls.quiet_of (HI.out _)))
        go_wp2_with fail
        go_ret
        exact ⟨congrArg (fun q => Ending.returned (.string q)) (by rw [HD.out, digs_cat, ← HSQ.out]; exact congrArg (sq ++ ·) (dig_dec (u := 1) (by decide))), _, rfl⟩
      · have t2' : (u : Int).tmod 10 = 2 := t2
        have t8 : IntKind.i64.wrap 3 = 3 := IntWalk.i64_in 3 (by omega)
        have t7 : IntKind.i64.wrap 2 = 2 := IntWalk.i64_in 2 (by omega)
        clear t2
        go_enter Tryz.func14, Tryz.ntmps14
        go_wp2_with fail
        go_quiet ((go_at_call 14; exact Calls.quiet_of (HI.out _)))
        go_wp2_with fail
        go_ret
        exact ⟨congrArg (fun q => Ending.returned (.string q)) (by rw [HD.out, digs_cat, ← HSQ.out]; exact congrArg (sq ++ ·) (dig_dec (u := 2) (by decide))), _, rfl⟩
      · have t2' : (u : Int).tmod 10 = 3 := t2
        have t8 : IntKind.i64.wrap 4 = 4 := IntWalk.i64_in 4 (by omega)
        have t7 : IntKind.i64.wrap 3 = 3 := IntWalk.i64_in 3 (by omega)
        clear t2
        go_enter Tryz.func14, Tryz.ntmps14
        go_wp2_with fail
        go_quiet ((go_at_call 14; exact Calls.quiet_of (HI.out _)))
        go_wp2_with fail
        go_ret
        exact ⟨congrArg (fun q => Ending.returned (.string q)) (by rw [HD.out, digs_cat, ← HSQ.out]; exact congrArg (sq ++ ·) (dig_dec (u := 3) (by decide))), _, rfl⟩
      · have t2' : (u : Int).tmod 10 = 4 := t2
        have t8 : IntKind.i64.wrap 5 = 5 := IntWalk.i64_in 5 (by omega)
        have t7 : IntKind.i64.wrap 4 = 4 := IntWalk.i64_in 4 (by omega)
        clear t2
        go_enter Tryz.func14, Tryz.ntmps14
        go_wp2_with fail
        go_quiet ((go_at_call 14; exact Calls.quiet_of (HI.out _)))
        go_wp2_with fail
        go_ret
        exact ⟨congrArg (fun q => Ending.returned (.string q)) (by rw [HD.out, digs_cat, ← HSQ.out]; exact congrArg (sq ++ ·) (dig_dec (u := 4) (by decide))), _, rfl⟩
      · have t2' : (u : Int).tmod 10 = 5 := t2
        have t8 : IntKind.i64.wrap 6 = 6 := IntWalk.i64_in 6 (by omega)
        have t7 : IntKind.i64.wrap 5 = 5 := IntWalk.i64_in 5 (by omega)
        clear t2
        go_enter Tryz.func14, Tryz.ntmps14
        go_wp2_with fail
        go_quiet ((go_at_call 14; exact Calls.quiet_of (HI.out _)))
        go_wp2_with fail
        go_ret
        exact ⟨congrArg (fun q => Ending.returned (.string q)) (by rw [HD.out, digs_cat, ← HSQ.out]; exact congrArg (sq ++ ·) (dig_dec (u := 5) (by decide))), _, rfl⟩
      · have t2' : (u : Int).tmod 10 = 6 := t2
        have t8 : IntKind.i64.wrap 7 = 7 := IntWalk.i64_in 7 (by omega)
        have t7 : IntKind.i64.wrap 6 = 6 := IntWalk.i64_in 6 (by omega)
        clear t2
        go_enter Tryz.func14, Tryz.ntmps14
        go_wp2_with fail
        go_quiet ((go_at_call 14; exact Calls.quiet_of (HI.out _)))
        go_wp2_with fail
        go_ret
        exact ⟨congrArg (fun q => Ending.returned (.string q)) (by rw [HD.out, digs_cat, ← HSQ.out]; exact congrArg (sq ++ ·) (dig_dec (u := 6) (by decide))), _, rfl⟩
      · have t2' : (u : Int).tmod 10 = 7 := t2
        have t8 : IntKind.i64.wrap 8 = 8 := IntWalk.i64_in 8 (by omega)
        have t7 : IntKind.i64.wrap 7 = 7 := IntWalk.i64_in 7 (by omega)
        clear t2
        go_enter Tryz.func14, Tryz.ntmps14
        go_wp2_with fail
        go_quiet ((go_at_call 14; exact Calls.quiet_of (HI.out _)))
        go_wp2_with fail
        go_ret
        exact ⟨congrArg (fun q => Ending.returned (.string q)) (by rw [HD.out, digs_cat, ← HSQ.out]; exact congrArg (sq ++ ·) (dig_dec (u := 7) (by decide))), _, rfl⟩
      · have t2' : (u : Int).tmod 10 = 8 := t2
        have t8 : IntKind.i64.wrap 9 = 9 := IntWalk.i64_in 9 (by omega)
        have t7 : IntKind.i64.wrap 8 = 8 := IntWalk.i64_in 8 (by omega)
        clear t2
        go_enter Tryz.func14, Tryz.ntmps14
        go_wp2_with fail
        go_quiet ((go_at_call 14; exact Calls.quiet_of (HI.out _)))
        go_wp2_with fail
        go_ret
        exact ⟨congrArg (fun q => Ending.returned (.string q)) (by rw [HD.out, digs_cat, ← HSQ.out]; exact congrArg (sq ++ ·) (dig_dec (u := 8) (by decide))), _, rfl⟩
      · have t2' : (u : Int).tmod 10 = 9 := t2
        have t8 : IntKind.i64.wrap 10 = 10 := IntWalk.i64_in 10 (by omega)
        have t7 : IntKind.i64.wrap 9 = 9 := IntWalk.i64_in 9 (by omega)
        clear t2
        go_enter Tryz.func14, Tryz.ntmps14
        go_wp2_with fail
        go_quiet ((go_at_call 14; exact Calls.quiet_of (HI.out _)))
        go_wp2_with fail
        go_ret
        exact ⟨congrArg (fun q => Ending.returned (.string q)) (by rw [HD.out, digs_cat, ← HSQ.out]; exact congrArg (sq ++ ·) (dig_dec (u := 9) (by decide))), _, rfl⟩
set_option maxHeartbeats 1600000 in
theorem Dec_any (n : Int) (h0 : -9223372036854775808 ≤ n) (h1 : n ≤ 9223372036854775807) (w : World) : Calls Tryz.prog 14 #[.int .i64 n] w fun e w' => e = .returned (.string (bs (Lib.itoa n))) ∧ ∃ k, w' = w.drewN k := by
  by_cases hn : 0 ≤ n
  · obtain ⟨u, rfl⟩ := Int.eq_ofNat_of_zero_le hn
    rw [itoa_nat]
    exact dec_nat_any (u + 1) u (by omega) h1 w
  · by_cases hm : n = -9223372036854775808
    · subst hm
      have hd : Hid (bs (Lib.itoa (-9223372036854775808)) = ⟨#[45, 57, 50, 50, 51, 51, 55, 50, 48, 51, 54, 56, 53, 52, 55, 55, 53, 56, 48, 56]⟩) := Lib.hid (by
        have : Lib.itoa (-9223372036854775808) = [45, 57, 50, 50, 51, 51, 55, 50, 48, 51, 54, 56, 53, 52, 55, 55, 53, 56, 48, 56] := by kernel_rfl
        rw [this]; rfl)
      clear hn h0 h1
      go_enter Tryz.func14, Tryz.ntmps14
      go_wp2_with fail
      go_ret
      exact ⟨congrArg (fun q => Ending.returned (.string q)) hd.out.symm, 0, rfl⟩
    · obtain ⟨u, hu⟩ : ∃ u : Nat, n = -(u : Int) := ⟨n.natAbs, by omega⟩
      have HI := Lib.hid (dec_nat_any (u + 1) u (by omega) (by omega) w)
      have HE : Hid (bs (Lib.itoa n) = (⟨#[45]⟩ : ByteArray) ++ bs (Lib.decDigits u)) := Lib.hid (by
        rw [hu, Lib.itoa_neg u (by omega)]
        exact digs_cat [45] (Lib.decDigits u))
      have hsq : (bs (Lib.decDigits u)).size ≤ 21 := by
        rw [bs_size, ← itoa_nat]
        exact Lib.itoa_length_le _ (by omega) (by omega)
      obtain ⟨sq, hsqe⟩ : ∃ sq, sq = bs (Lib.decDigits u) := ⟨_, rfl⟩
      rw [← hsqe] at hsq HI HE
      have v1 : ¬ 9223372036854775807 < 1 + sq.size := by omega
      have t3 : (n == -9223372036854775808) = false := beq_eq_false_iff_ne.2 hm
      have t4 : n < 0 := by omega
      have t5 : IntKind.i64.wrap (-n) = (u : Int) := by
        rw [hu, Int.neg_neg]
        exact IntWalk.i64_in (u : Int) (by omega)
      clear hn hm h0 h1 hu hsq hsqe
      go_enter Tryz.func14, Tryz.ntmps14
      go_wp2_with fail
      refine HI.out.mono ?_
      rintro e w' ⟨rfl, k, rfl⟩
      go_wp2_with fail
      go_ret
      exact ⟨congrArg (fun q => Ending.returned (.string q)) HE.out.symm, k, rfl⟩
end Go.Proofs.YtiffmigihhcgcaaGreatDoor.ConW
