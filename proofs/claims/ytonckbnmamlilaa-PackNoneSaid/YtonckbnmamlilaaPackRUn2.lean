/- The reference's Unpacker: Text, Left, End. -/
import Derived.Test.YtonckbnmamlilaaPackRUn
import Derived.IntWalk
namespace Go.Proofs.Ytonckbnmamlilaa.PackW
open Go.RowKit
open ShiftW (getOK getV getR rget_any)
set_option maxHeartbeats 400000 in
theorem vtext_no (b : Nat) (s : ByteArray) (k : Nat) (bad : Bool) (most : Int) (v : Nat) (ok : Bool) (hs : s.size ≤ 140737488355328) (hk : k ≤ s.size) (hv : v < 65536) (hR : getR s k 2 = .tuple #[.int .u64 (v : Int), .bool ok])
    (h : bad = true ∨ bad = false ∧ ok = false ∨ bad = false ∧ ok = true ∧ most < v ∨ bad = false ∧ ok = true ∧ (v : Int) ≤ most ∧ (s.size : Int) - k - 2 < v) (w : World) (hp : VAt b s k bad w) :
    Calls Try.prog 20 #[.pointer (some ⟨b, 0, none⟩), .int .i64 most] w fun e w' => e = .returned (.string ⟨#[]⟩) ∧ VAt b s k true w' ∧ Only b w w' ∧ w'.heap.size = w.heap.size := by
  have HP := Lib.hid hp
  have HR := Lib.hid hR
  have HS := Lib.hid hs
  have hc0 := hp.cell0
  have hc1 := hp.cell1
  have hc2 := hp.cell2
  have hf := hp.free 2
  have hk1 : (k : Int) ≤ 140737488355328 := by omega
  have hs1 : (s.size : Int) ≤ 140737488355328 := by omega
  have hv1 : (v : Int) < 65536 := by omega
  have hk2 : (k : Int) ≤ s.size := by omega
  clear hp hR hs hk hv
  have HW1 := Lib.hid (show IntKind.i64.wrap (v : Int) = (v : Int) from IntWalk.i64_in _ (by omega))
  have HW2 := Lib.hid (show IntKind.i64.wrap ((s.size : Int) - (k : Int)) = (s.size : Int) - (k : Int) from IntWalk.i64_in _ (by omega))
  have HW3 := Lib.hid (show IntKind.i64.wrap ((s.size : Int) - (k : Int) - 2) = (s.size : Int) - (k : Int) - 2 from IntWalk.i64_in _ (by omega))
  have key : (bad = true ∨ bad = false ∧ ok = false ∨ bad = false ∧ ok = true ∧ decide (most < (v : Int)) = true ∨ bad = false ∧ ok = true ∧ decide (most < (v : Int)) = false ∧ decide ((s.size : Int) - k - 2 < v) = true) := by
    rcases h with h | h | ⟨h1, h2, h3⟩ | ⟨h1, h2, h3, h4⟩
    · exact .inl h
    · exact .inr (.inl h)
    · exact .inr (.inr (.inl ⟨h1, h2, decide_eq_true h3⟩))
    · exact .inr (.inr (.inr ⟨h1, h2, decide_eq_false (by omega), decide_eq_true h4⟩))
  clear h
  rcases key with rfl | ⟨rfl, rfl⟩ | ⟨rfl, rfl, h⟩ | ⟨rfl, rfl, h, h'⟩
  all_goals
    go_enter Try.func20, Try.ntmps20
    go_wp2
    go_quiet ((go_at_call 37; exact quiet_left ((rget_any s (k : Int) 2 (by have := HS.out; omega) _).mono (fun e w' he => ⟨he.1.trans (congrArg Ending.returned HR.out), he.2⟩))))
    go_wp2
    have hw1 := HW1.out
    have hw2 := HW2.out
    have hw3 := HW3.out
    go_quiet (fail)
    clear hw1 hw2 hw3
    go_wp2
    refine bodyPost_ret (v := .string ⟨#[]⟩) (by simp [results, Try.results20, go_sem]) rfl ?_
    exact ⟨rfl, (HP.out.drewN _).set2, ((Only.refl b w).drewN _).setCell 2 _, by simp⟩
set_option maxHeartbeats 400000 in
theorem vtext_yes (b : Nat) (s : ByteArray) (k : Nat) (most : Int) (v : Nat) (hs : s.size ≤ 140737488355328) (hk : k + 2 + v ≤ s.size) (hv : v < 65536) (hR : getR s k 2 = .tuple #[.int .u64 (v : Int), .bool true])
    (hm : (v : Int) ≤ most) (w : World) (hp : VAt b s k false w) :
    Calls Try.prog 20 #[.pointer (some ⟨b, 0, none⟩), .int .i64 most] w fun e w' => e = .returned (.string (s.extract (k + 2) (k + 2 + v))) ∧ VAt b s (k + 2 + v) false w' ∧ Only b w w' ∧ w'.heap.size = w.heap.size := by
  have HP := Lib.hid hp
  have HR := Lib.hid hR
  have HS := Lib.hid hs
  have hc0 := hp.cell0
  have hc1 := hp.cell1
  have hc2 := hp.cell2
  have hf := hp.free 1
  have hk1 : (k : Int) ≤ 140737488355328 := by omega
  have hs1 : (s.size : Int) ≤ 140737488355328 := by omega
  have hv1 : (v : Int) < 65536 := by omega
  have hk2 : (k : Int) + 2 + v ≤ s.size := by omega
  have HW1 := Lib.hid (show IntKind.i64.wrap (v : Int) = (v : Int) from IntWalk.i64_in _ (by omega))
  have HW2 := Lib.hid (show IntKind.i64.wrap ((s.size : Int) - (k : Int)) = (s.size : Int) - (k : Int) from IntWalk.i64_in _ (by omega))
  have HW3 := Lib.hid (show IntKind.i64.wrap ((s.size : Int) - (k : Int) - 2) = (s.size : Int) - (k : Int) - 2 from IntWalk.i64_in _ (by omega))
  have hd1 : decide (most < (v : Int)) = false := decide_eq_false (by omega)
  have hd2 : decide ((s.size : Int) - k - 2 < v) = false := decide_eq_false (by omega)
  have HK := Lib.hid hk
  have HSET := Lib.hid (fun (W : World) (h : VAt b s k false W) => h.set1 (k + 2 + v))
  clear hp hR hs hk hv hm
  go_enter Try.func20, Try.ntmps20
  go_wp2
  go_quiet ((go_at_call 37; exact quiet_left ((rget_any s (k : Int) 2 (by have := HS.out; omega) _).mono (fun e w' he => ⟨he.1.trans (congrArg Ending.returned HR.out), he.2⟩))))
  go_wp2
  have hw1 := HW1.out
  have hw2 := HW2.out
  have hw3 := HW3.out
  go_quiet (fail)
  clear hw2 hw3
  go_wp2
  have hk3 : (0 : Int) ≤ (k : Int) + 2 := by omega
  have hk4 : (k : Int) + 2 ≤ (k : Int) + 2 + v := by omega
  go_quiet (fail)
  go_wp2
  refine bodyPost_ret (v := .string (s.extract (k + 2) (k + 2 + v))) (by simp [results, Try.results20, go_sem]) rfl ?_
  refine ⟨rfl, VAt.drewN ?_ _, (((Only.refl b w).drewN _).setCell 1 _).drewN _, by simp⟩
  rw [show (k : Int) + 2 + (v : Int) = ((k + 2 + v : Nat) : Int) by omega]
  exact HSET.out _ (HP.out.drewN _)
theorem drop_take_getN (l : List UInt8) : ShiftP.getN (l.take 2) < 65536 := by
  have h1 := ShiftP.getN_lt (l.take 2)
  have h2 : (l.take 2).length ≤ 2 := by simp; omega
  have h3 : 256 ^ (l.take 2).length ≤ 256 ^ 2 := Nat.pow_le_pow_right (by omega) h2
  omega
theorem extract_list (s : ByteArray) (a v : Nat) : s.extract a (a + v) = ⟨((s.data.toList.drop a).take v).toArray⟩ := by
  apply ByteArray.ext
  rw [ByteArray.data_extract]
  apply Array.toList_inj.1
  rw [Array.toList_extract, List.extract_eq_take_drop]
  simp
theorem vtextI_any (b : Nat) (l : List UInt8) (bad : Bool) (most : Int) (w : World) (hp : VIs b l bad w) :
    Calls Try.prog 20 #[.pointer (some ⟨b, 0, none⟩), .int .i64 most] w fun e w' => e = .returned (.string (textA l bad most)) ∧ (∃ l', VIs b l' (textG l bad most) w' ∧ (textG l bad most = false → l' = (l.drop 2).drop (ShiftP.getN (l.take 2)))) ∧ Only b w w' ∧ w'.heap.size = w.heap.size := by
  obtain ⟨s, k, hu, hsz, hk, hl⟩ := hp
  have hlen : s.data.toList.length = s.size := by simp
  have fin : ∀ v ok, v < 65536 → getR s k 2 = .tuple #[.int .u64 ((v : Nat) : Int), .bool ok] → (bad = true ∨ bad = false ∧ ok = false ∨ bad = false ∧ ok = true ∧ most < v ∨ bad = false ∧ ok = true ∧ (v : Int) ≤ most ∧ (s.size : Int) - k - 2 < v) → utextV l bad most = none →
      Calls Try.prog 20 #[.pointer (some ⟨b, 0, none⟩), .int .i64 most] w fun e w' => e = .returned (.string (textA l bad most)) ∧ (∃ l', VIs b l' (textG l bad most) w' ∧ (textG l bad most = false → l' = (l.drop 2).drop (ShiftP.getN (l.take 2)))) ∧ Only b w w' ∧ w'.heap.size = w.heap.size := by
    intro v ok hv h1 h2 h3
    refine (vtext_no b s k bad most v ok hsz hk hv h1 h2 w hu).mono ?_
    rintro e w' ⟨rfl, h4, h5, h6⟩
    exact ⟨by rw [textA, h3], ⟨[], ⟨s, k, by rw [textG, h3]; exact h4, hsz, hk, by rw [textG, h3]; intro h; cases h⟩, by rw [textG, h3]; intro h; cases h⟩, h5, h6⟩
  by_cases hin : k + 2 ≤ s.size
  · have hR := getR_in s k 2 hin (by omega)
    have hv := drop_take_getN (s.data.toList.drop k)
    cases bad with
    | true => exact fin _ _ hv hR (.inl rfl) (by rw [utextV, if_neg]; rintro ⟨h, _⟩; cases h)
    | false =>
      obtain rfl := hl rfl
      by_cases hm : (ShiftP.getN ((s.data.toList.drop k).take 2) : Int) ≤ most
      · by_cases hq : k + 2 + ShiftP.getN ((s.data.toList.drop k).take 2) ≤ s.size
        · have hsome : utextV (s.data.toList.drop k) false most = some (((s.data.toList.drop k).drop 2).take (ShiftP.getN ((s.data.toList.drop k).take 2))) := by
            rw [utextV, if_pos ⟨rfl, by rw [List.length_drop]; omega, hm, by rw [List.length_drop]; omega⟩]
          refine (vtext_yes b s k most _ hsz hq hv hR hm w hu).mono ?_
          rintro e w' ⟨rfl, h4, h5, h6⟩
          refine ⟨?_, ⟨_, ⟨s, _, by rw [textG, hsome]; exact h4, hsz, hq, fun _ => rfl⟩, fun _ => ?_⟩, h5, h6⟩
          · rw [textA, hsome, extract_list, List.drop_drop]
          · rw [List.drop_drop, List.drop_drop]; congr 1; omega
        · exact fin _ _ hv hR (.inr (.inr (.inr ⟨rfl, rfl, hm, by omega⟩))) (by rw [utextV, if_neg]; rintro ⟨_, _, _, h⟩; rw [List.length_drop] at h; omega)
      · exact fin _ _ hv hR (.inr (.inr (.inl ⟨rfl, rfl, by omega⟩))) (by rw [utextV, if_neg]; rintro ⟨_, _, h, _⟩; exact hm h)
  · have hR := getR_out s k 2 (by omega)
    cases bad with
    | true => exact fin _ _ (by omega) hR (.inl rfl) (by rw [utextV, if_neg]; rintro ⟨h, _⟩; cases h)
    | false =>
      obtain rfl := hl rfl
      exact fin _ _ (by omega) hR (.inr (.inl ⟨rfl, rfl⟩)) (by rw [utextV, if_neg]; rintro ⟨_, h, _⟩; rw [List.length_drop] at h; omega)
set_option maxHeartbeats 400000 in
theorem vleft_any (b : Nat) (l : List UInt8) (bad : Bool) (w : World) (hp : VIs b l bad w) :
    Calls Try.prog 24 #[.pointer (some ⟨b, 0, none⟩)] w fun e w' => e = .returned (.int .i64 (leftA l bad)) ∧ ∃ m, w' = w.drewN m := by
  obtain ⟨s, k, hu, hsz, hk, hl⟩ := hp
  have c0 := hu.cell0
  have c1 := hu.cell1
  have c2 := hu.cell2
  have hlen : s.data.toList.length = s.size := by simp
  cases bad with
  | true =>
    have H := Lib.hid (show leftA l true = 0 by simp [leftA])
    clear hu hl hlen
    go_enter Try.func24, Try.ntmps24
    go_wp2
    go_ret
    exact ⟨ret_int H.out.symm, 0, rfl⟩
  | false =>
    obtain rfl := hl rfl
    have H := Lib.hid (show leftA (s.data.toList.drop k) false = (s.size : Int) - k by simp [leftA]; omega)
    have h1 : (k : Int) ≤ s.size := by omega
    have h2 : (s.size : Int) ≤ 140737488355328 := by omega
    have hw : IntKind.i64.wrap ((s.size : Int) - (k : Int)) = (s.size : Int) - (k : Int) := IntWalk.i64_in _ (by omega)
    clear hu hl hlen
    go_enter Try.func24, Try.ntmps24
    go_wp2
    go_quiet (fail)
    go_wp2
    go_ret
    exact ⟨ret_int H.out.symm, _, rfl⟩
set_option maxHeartbeats 400000 in
theorem vend_any (b : Nat) (l : List UInt8) (bad : Bool) (w : World) (hp : VIs b l bad w) :
    Calls Try.prog 26 #[.pointer (some ⟨b, 0, none⟩)] w fun e w' => e = .returned (.int .i64 (endA l bad)) ∧ ∃ m, w' = w.drewN m := by
  obtain ⟨s, k, hu, hsz, hk, hl⟩ := hp
  have c0 := hu.cell0
  have c1 := hu.cell1
  have c2 := hu.cell2
  have hlen : s.data.toList.length = s.size := by simp
  cases bad with
  | true =>
    have H := Lib.hid (show endA l true = 11 by simp [endA])
    clear hu hl hlen
    go_enter Try.func26, Try.ntmps26
    go_wp2
    go_quiet (fail)
    go_wp2
    go_ret
    exact ⟨ret_int H.out.symm, _, rfl⟩
  | false =>
    obtain rfl := hl rfl
    by_cases h0 : k = s.size
    · have H := Lib.hid (show endA (s.data.toList.drop k) false = 0 by rw [endA, if_neg]; simp only [reduceCtorEq, false_or, Decidable.not_not]; exact List.eq_nil_of_length_eq_zero (by rw [List.length_drop]; omega))
      have hd : ((k : Int) == (s.size : Int)) = true := by rw [beq_iff_eq]; omega
      have hd2 : ((k : Int) != (s.size : Int)) = false := by rw [bne_eq_false_iff_eq]; omega
      clear hu hl hlen h0
      go_enter Try.func26, Try.ntmps26
      go_wp2
      go_quiet (fail)
      go_wp2
      go_ret
      exact ⟨ret_int H.out.symm, _, rfl⟩
    · have H := Lib.hid (show endA (s.data.toList.drop k) false = 11 by rw [endA, if_pos]; right; intro h; have := congrArg List.length h; rw [List.length_drop] at this; simp at this; omega)
      have hd : ((k : Int) == (s.size : Int)) = false := by rw [beq_eq_false_iff_ne]; omega
      have hd2 : ((k : Int) != (s.size : Int)) = true := by rw [bne_iff_ne]; omega
      clear hu hl hlen h0
      go_enter Try.func26, Try.ntmps26
      go_wp2
      go_quiet (fail)
      go_wp2
      go_ret
      exact ⟨ret_int H.out.symm, _, rfl⟩
end Go.Proofs.Ytonckbnmamlilaa.PackW
