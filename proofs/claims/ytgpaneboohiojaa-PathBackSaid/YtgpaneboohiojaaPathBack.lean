/- The laws of path: PathBack. -/
import Derived.Test.YtgpaneboohiojaaPathJoins
namespace Go.Proofs.Ytgpaneboohiojaa.PathW
open Go.RowKit
theorem joinE_ok (l : List (List UInt8)) (h : joinE l = 0) : joinS l = ⟨(joinP l).toArray⟩ ∧ namesR (joinP l) = some l := by
  unfold joinE at h
  unfold joinS
  cases hj : joinR l with
  | none => rw [hj] at h; exact absurd h (by decide)
  | some s =>
    unfold joinR at hj
    split at hj
    · rename_i hc
      injection hj with hj
      subst hj
      exact ⟨rfl, names_join l hc.1 hc.2⟩
    · cases hj
theorem join_of_names (p : ByteArray) (l : List (List UInt8)) (h : namesR p.data.toList = some l) : joinS l = p ∧ joinE l = 0 := by
  obtain ⟨h1, h2, h3⟩ := join_names _ l h
  have hj : joinR l = some (joinP l) := by rw [joinR, if_pos ⟨h2, h3⟩]
  rw [joinS, joinE, hj]
  refine ⟨?_, rfl⟩
  apply ByteArray.ext; apply Array.toList_inj.1; exact h1
theorem split_ok (p : ByteArray) (hs : p.size ≤ 140737488355328) (l : List (List UInt8)) (h : namesR p.data.toList = some l) (w : World) :
    Calls Try.prog 14 #[.string p] w fun e w' => ∃ oa cap, e = .returned (.tuple #[.slice oa l.length cap, .int .i64 0]) ∧ Rds w'.heap.size w' oa l ∧ l.length ≤ cap ∧ Below w.heap.size w w' :=
  split_is p hs l 0 (by rw [h]; rfl) (by rw [splitE, h]; rfl) w
theorem split_no (p : ByteArray) (hs : p.size ≤ 140737488355328) (h : namesR p.data.toList = none) (w : World) :
    Calls Try.prog 14 #[.string p] w fun e w' => ∃ oa cap, e = .returned (.tuple #[.slice oa 0 cap, .int .i64 11]) ∧ Below w.heap.size w w' := by
  refine (split_is p hs [] 11 (by rw [h]; rfl) (by rw [splitE, h]; rfl) w).mono ?_
  rintro e w' ⟨oa, cap, h1, _, _, h2⟩
  exact ⟨oa, cap, h1, h2⟩
theorem join_size (l : List (List UInt8)) (h : l.length ≤ 8) (ha : l.all nameB = true) : (joinP l).length ≤ 100 := by
  unfold joinP
  split
  · simp
  · have := joinT_len l ha; omega
/-- a path's last name, behind its directory -/
theorem up_last (p : List UInt8) (l : List (List UInt8)) (h : namesR p = some l) (h0 : l ≠ []) :
    ∃ d n, upR p = (d, n, true) ∧ ((d = [47] ∧ 47 :: n = p) ∨ (d ≠ [47] ∧ d ++ 47 :: n = p)) ∧ d.length ≤ 100 ∧ n.length ≤ 8 := by
  obtain ⟨h1, h2, h3⟩ := join_names p l h
  obtain ⟨m, hm⟩ : ∃ m, l.length = m + 1 := ⟨l.length - 1, by have := List.length_pos_iff.2 h0; omega⟩
  have hlt : m < l.length := by omega
  have hu : upR p = (joinP (l.take m), l[m], true) := by
    rw [upR, h]
    simp only
    rw [if_neg h0]
    have : l.getD (l.length - 1) [] = l[m] := by
      rw [List.getD_eq_getElem?_getD, show l.length - 1 = m by omega, List.getElem?_eq_getElem hlt]; rfl
    rw [this, show l.length - 1 = m by omega]
  have hn8 : l[m].length ≤ 8 := nameB_len _ (List.all_eq_true.1 h3 _ (List.getElem_mem _))
  have hall : (l.take m).all nameB = true := List.all_eq_true.2 fun x hx => List.all_eq_true.1 h3 x (List.mem_of_mem_take hx)
  have hd : (joinP (l.take m)).length ≤ 100 := join_size _ (by rw [List.length_take]; omega) hall
  have hT : joinT l = joinT (l.take m) ++ 47 :: l[m] := by
    have := joinT_take l m hlt
    rwa [List.take_of_length_le (by omega)] at this
  rw [joinP, if_neg h0, hT] at h1
  refine ⟨_, _, hu, ?_, hd, hn8⟩
  by_cases hm0 : m = 0
  · left
    subst hm0
    rw [List.take_zero] at h1 ⊢
    exact ⟨rfl, h1⟩
  · right
    have hne : l.take m ≠ [] := by
      intro e
      have := congrArg List.length e
      rw [List.length_take, List.length_nil] at this; omega
    rw [joinP, if_neg hne]
    refine ⟨?_, h1⟩
    intro e
    cases hq : l.take m with
    | nil => exact hne hq
    | cons x r =>
      rw [hq] at e
      have e2 : 47 :: (x ++ joinT r) = [47] := e
      have hx : nameB x = true := List.all_eq_true.1 hall x (by rw [hq]; simp)
      have : x = [] := by
        cases x with
        | nil => rfl
        | cons a b => simp at e2
      subst this
      revert hx; decide
set_option maxHeartbeats 400000 in
theorem back_big (oa : Option Addr) (n cap : Nat) (p : ByteArray) (h : 100 < n ∨ 20000 < p.size) (w : World) :
    Calls Try.prog 6 #[.slice oa n cap, .string p] w fun e w' => e = .returned (.bool true) ∧ Below w.heap.size w w' := by
  by_cases h1 : 100 < n
  · clear h
    go_enter Try.func6, Try.ntmps6
    go_wp2_with (go_at_call 7; refine (wakes_any _).mono ?_; rintro e w1 ⟨rfl, hb⟩)
    go_ret
    exact ⟨rfl, hb⟩
  · have h2 : 20000 < p.size := by omega
    clear h
    go_enter Try.func6, Try.ntmps6
    go_wp2_with (go_at_call 7; refine (wakes_any _).mono ?_; rintro e w1 ⟨rfl, hb⟩)
    go_ret
    exact ⟨rfl, hb⟩
set_option maxHeartbeats 1600000 in
theorem back_ok_none (oa : Option Addr) (cap : Nat) (l : List (List UInt8)) (hl : l.length ≤ 100) (hz : ∀ x ∈ l, x.length ≤ 9223372036854775807) (p : ByteArray) (hp : p.size ≤ 20000) (hj : joinE l = 0) (hN : namesR p.data.toList = none) (w : World) (h : Came w oa cap l) :
    Calls Try.prog 6 #[.slice oa l.length cap, .string p] w fun e w' => e = .returned (.bool true) ∧ Below w.heap.size w w' := by
  obtain ⟨i0, hi, hz0, hz1, hz2⟩ := info_parts strinfo
  have d1 : decide (100 < (l.length : Int)) = false := decide_eq_false (by omega)
  have d2 : decide (20000 < (p.size : Int)) = false := decide_eq_false (by omega)
  have HP := Lib.hid (show p.size ≤ 140737488355328 by omega)
  have hps : (p.size : Int) ≤ 20000 := by omega
  have HR := Lib.hid h
  have HZ := Lib.hid hz
  clear h hz
  obtain ⟨hjs, hjn⟩ := joinE_ok l hj
  have HJ : Hid (joinS l = ⟨(joinP l).toArray⟩ ∧ joinE l = 0) := Lib.hid ⟨hjs, hj⟩
  obtain ⟨_, h8, hall⟩ := join_names _ l hjn
  have hjz := join_size l h8 hall
  have HN1 : Hid (namesR (⟨(joinP l).toArray⟩ : ByteArray).data.toList = some l) := Lib.hid hjn
  have HZ1 : Hid ((⟨(joinP l).toArray⟩ : ByteArray).size ≤ 140737488355328) := Lib.hid (by rw [strV_size]; omega)
  generalize (⟨(joinP l).toArray⟩ : ByteArray) = J at *
  clear hjs hjn h8 hall hjz hj
  have HN := Lib.hid hN
  have HG : Hid ((namesR p.data.toList).isSome = false) := Lib.hid (by rw [hN]; rfl)
  clear hN
  go_enter Try.func6, Try.ntmps6
  go_wp2_with (first
        | (at_builtin; refine wpList_append_copy rfl _ _ 22 rfl 9 i0 (.string ⟨#[]⟩) 1 16 Try.underlying22 hi hz0 hz1 hz2 rfl (by decide) (by rfl) oa l.length cap (l.map strV) (by rfl) HR.out.nil (by simp) (came_news HR.out) (one_str l) (by unfold maxLen; omega) (by omega) ?_; intro oa2 cap2 w2 hown2 hb2; have hcap2 : l.length ≤ cap2 := (Strs.cap (n := l.length) (l := l) hown2).2; have HR2 := Lib.hid (Rds.of_strs (n := l.length) (cap := cap2) hown2); have HR1 := Lib.hid (HR.out.rds.grow hb2); have HB2 := Lib.hid hb2; clear hown2 hb2))
  refine (join_is _ _ _ l rfl (by omega) hcap2 HZ.out _ _ HJ.out _ HR2.out).mono ?_
  rintro e w3 ⟨rfl, hb3⟩
  have HR4 := Lib.hid (HR1.out.grow hb3)
  have HB3 := Lib.hid (bstep HB2.out hb3)
  clear hb3
  go_wp2_with fail
  refine (split_ok J HZ1.out l HN1.out _).mono ?_
  rintro e w4 ⟨ob, cb, rfl, hr4, _, hb4⟩
  have HR5 := Lib.hid hr4
  have HR6 := Lib.hid (HR4.out.grow hb4)
  have HB4 := Lib.hid (bstep HB3.out hb4)
  clear hr4 hb4
  go_wp2_with (go_at_call 10; refine (texts_same _ _ _ _ _ _ l rfl rfl (by omega) _ HR5.out HR6.out).mono ?_; rintro e w5 ⟨rfl, hb5⟩; have HB5 := Lib.hid (bstep HB4.out hb5); clear hb5)
  refine (split_no p HP.out HN.out _).mono ?_
  rintro e w6 ⟨oc, cc, rfl, hb6⟩
  have HB6 := Lib.hid (bstep HB5.out hb6)
  clear hb6
  go_wp2_with (first
    | (go_at_call 13; refine (good_is p HP.out false HG.out _).mono ?_; rintro e w7 ⟨rfl, hb7⟩; have HB7 := Lib.hid (bstep HB6.out hb7); clear hb7)
    | (go_at_call 7; refine (wakes_any _).mono ?_; rintro e w8 ⟨rfl, hb8⟩; have HB8 := Lib.hid (bstep HB7.out hb8); clear hb8))
  go_ret
  exact ⟨rfl, HB8.out⟩
set_option maxHeartbeats 1600000 in
theorem back_ok_root (oa : Option Addr) (cap : Nat) (l : List (List UInt8)) (hl : l.length ≤ 100) (hz : ∀ x ∈ l, x.length ≤ 9223372036854775807) (p : ByteArray) (hp : p.size ≤ 20000) (hj : joinE l = 0) (hN : namesR p.data.toList = some []) (w : World) (h : Came w oa cap l) :
    Calls Try.prog 6 #[.slice oa l.length cap, .string p] w fun e w' => e = .returned (.bool true) ∧ Below w.heap.size w w' := by
  obtain ⟨i0, hi, hz0, hz1, hz2⟩ := info_parts strinfo
  have d1 : decide (100 < (l.length : Int)) = false := decide_eq_false (by omega)
  have d2 : decide (20000 < (p.size : Int)) = false := decide_eq_false (by omega)
  have HP := Lib.hid (show p.size ≤ 140737488355328 by omega)
  have hps : (p.size : Int) ≤ 20000 := by omega
  have HR := Lib.hid h
  have HZ := Lib.hid hz
  clear h hz
  obtain ⟨hjs, hjn⟩ := joinE_ok l hj
  have HJ : Hid (joinS l = ⟨(joinP l).toArray⟩ ∧ joinE l = 0) := Lib.hid ⟨hjs, hj⟩
  obtain ⟨_, h8, hall⟩ := join_names _ l hjn
  have hjz := join_size l h8 hall
  have HN1 : Hid (namesR (⟨(joinP l).toArray⟩ : ByteArray).data.toList = some l) := Lib.hid hjn
  have HZ1 : Hid ((⟨(joinP l).toArray⟩ : ByteArray).size ≤ 140737488355328) := Lib.hid (by rw [strV_size]; omega)
  generalize (⟨(joinP l).toArray⟩ : ByteArray) = J at *
  clear hjs hjn h8 hall hjz hj
  have HN := Lib.hid hN
  have HJ2 := Lib.hid (join_of_names p [] hN)
  have hp47 : p.data.toList = [47] := (join_names _ _ hN).1.symm
  have HU : Hid (upR p.data.toList = ((⟨#[]⟩ : ByteArray).data.toList, (⟨#[]⟩ : ByteArray).data.toList, false)) := Lib.hid (by rw [upR, hN]; rfl)
  have hb47 : (p.toList == [47]) = true := by rw [Lib.toList_data, hp47]; rfl
  have hb48 : (!(p.toList == [47])) = false := by rw [hb47]; rfl
  have HRN := Lib.hid (fun (W : World) (oa : Option Addr) => (fun i hi => absurd hi (Nat.not_lt_zero _) : Rds W.heap.size W oa []))
  clear hN hp47
  go_enter Try.func6, Try.ntmps6
  go_wp2_with (first
        | (at_builtin; refine wpList_append_copy rfl _ _ 22 rfl 9 i0 (.string ⟨#[]⟩) 1 16 Try.underlying22 hi hz0 hz1 hz2 rfl (by decide) (by rfl) oa l.length cap (l.map strV) (by rfl) HR.out.nil (by simp) (came_news HR.out) (one_str l) (by unfold maxLen; omega) (by omega) ?_; intro oa2 cap2 w2 hown2 hb2; have hcap2 : l.length ≤ cap2 := (Strs.cap (n := l.length) (l := l) hown2).2; have HR2 := Lib.hid (Rds.of_strs (n := l.length) (cap := cap2) hown2); have HR1 := Lib.hid (HR.out.rds.grow hb2); have HB2 := Lib.hid hb2; clear hown2 hb2))
  refine (join_is _ _ _ l rfl (by omega) hcap2 HZ.out _ _ HJ.out _ HR2.out).mono ?_
  rintro e w3 ⟨rfl, hb3⟩
  have HR4 := Lib.hid (HR1.out.grow hb3)
  have HB3 := Lib.hid (bstep HB2.out hb3)
  clear hb3
  go_wp2_with fail
  refine (split_ok J HZ1.out l HN1.out _).mono ?_
  rintro e w4 ⟨ob, cb, rfl, hr4, _, hb4⟩
  have HR5 := Lib.hid hr4
  have HR6 := Lib.hid (HR4.out.grow hb4)
  have HB4 := Lib.hid (bstep HB3.out hb4)
  clear hr4 hb4
  go_wp2_with (go_at_call 10; refine (texts_same _ _ _ _ _ _ l rfl rfl (by omega) _ HR5.out HR6.out).mono ?_; rintro e w5 ⟨rfl, hb5⟩; have HB5 := Lib.hid (bstep HB4.out hb5); clear hb5)
  refine (split_ok p HP.out [] HN.out _).mono ?_
  rintro e w6 ⟨oc, cc, rfl, hr6, hc6, hb6⟩
  have HB6 := Lib.hid (bstep HB5.out hb6)
  clear hb6 hr6
  go_wp2_with fail
  refine (join_is _ _ _ [] rfl (by simp) hc6 (fun x hx => by simp at hx) _ _ HJ2.out _ (HRN.out _ _)).mono ?_
  rintro e w7 ⟨rfl, hb7⟩
  have HB7 := Lib.hid (bstep HB6.out hb7)
  clear hb7
  go_wp2_with (first
    | (go_at_call 16; refine (up_is p HP.out ⟨#[]⟩ ⟨#[]⟩ false HU.out _).mono ?_; rintro e w8 ⟨rfl, hb8⟩; have HB8 := Lib.hid (bstep HB7.out hb8); clear hb8)
    | (go_at_call 7; refine (wakes_any _).mono ?_; rintro e w9 ⟨rfl, hb9⟩; have HB9 := Lib.hid (bstep HB8.out hb9); clear hb9))
  go_ret
  exact ⟨rfl, HB9.out⟩
set_option maxHeartbeats 1600000 in
theorem back_ok_more (oa : Option Addr) (cap : Nat) (l : List (List UInt8)) (hl : l.length ≤ 100) (hz : ∀ x ∈ l, x.length ≤ 9223372036854775807) (p : ByteArray) (hp : p.size ≤ 20000) (hj : joinE l = 0) (m : List (List UInt8)) (hm0 : m ≠ []) (hN : namesR p.data.toList = some m) (w : World) (h : Came w oa cap l) :
    Calls Try.prog 6 #[.slice oa l.length cap, .string p] w fun e w' => e = .returned (.bool true) ∧ Below w.heap.size w w' := by
  obtain ⟨i0, hi, hz0, hz1, hz2⟩ := info_parts strinfo
  have d1 : decide (100 < (l.length : Int)) = false := decide_eq_false (by omega)
  have d2 : decide (20000 < (p.size : Int)) = false := decide_eq_false (by omega)
  have HP := Lib.hid (show p.size ≤ 140737488355328 by omega)
  have hps : (p.size : Int) ≤ 20000 := by omega
  have HR := Lib.hid h
  have HZ := Lib.hid hz
  clear h hz
  obtain ⟨hjs, hjn⟩ := joinE_ok l hj
  have HJ : Hid (joinS l = ⟨(joinP l).toArray⟩ ∧ joinE l = 0) := Lib.hid ⟨hjs, hj⟩
  obtain ⟨_, h8, hall⟩ := join_names _ l hjn
  have hjz := join_size l h8 hall
  have HN1 : Hid (namesR (⟨(joinP l).toArray⟩ : ByteArray).data.toList = some l) := Lib.hid hjn
  have HZ1 : Hid ((⟨(joinP l).toArray⟩ : ByteArray).size ≤ 140737488355328) := Lib.hid (by rw [strV_size]; omega)
  generalize (⟨(joinP l).toArray⟩ : ByteArray) = J at *
  clear hjs hjn h8 hall hjz hj
  have HN := Lib.hid hN
  have HJ2 := Lib.hid (join_of_names p m hN)
  have hm8 := (join_names _ _ hN).2.1
  have HMZ : Hid (∀ x ∈ m, x.length ≤ 9223372036854775807) := Lib.hid (by have := names_short p.data.toList; rw [hN] at this; exact this)
  have hp47 : p.data.toList ≠ [47] := by
    intro e
    rw [e] at hN
    injection hN with hN
    exact hm0 hN.symm
  have hb47 : (p.toList == [47]) = false := by rw [Lib.toList_data, beq_eq_false_iff_ne]; exact hp47
  have hb48 : (!(p.toList == [47])) = true := by rw [hb47]; rfl
  obtain ⟨d, n, hu, hdn, hdl, hnl⟩ := up_last _ m hN hm0
  have HU : Hid (upR p.data.toList = ((⟨d.toArray⟩ : ByteArray).data.toList, (⟨n.toArray⟩ : ByteArray).data.toList, true)) := Lib.hid hu
  have HI : Hid (insideR p.data.toList (⟨#[47]⟩ : ByteArray).data.toList = true) := Lib.hid (by rw [insideR, hN]; simp [namesR])
  have hdz : (⟨d.toArray⟩ : ByteArray).size ≤ 100 := by rw [strV_size]; exact hdl
  have hnz : (⟨n.toArray⟩ : ByteArray).size ≤ 8 := by rw [strV_size]; exact hnl
  have hcase : (((⟨d.toArray⟩ : ByteArray).toList == [47]) = true ∧ Hid ((((⟨#[]⟩ : ByteArray) ++ ⟨#[47]⟩ ++ (⟨n.toArray⟩ : ByteArray)).toList == p.toList) = true)) ∨ (((⟨d.toArray⟩ : ByteArray).toList == [47]) = false ∧ Hid ((((⟨d.toArray⟩ : ByteArray) ++ ⟨#[47]⟩ ++ (⟨n.toArray⟩ : ByteArray)).toList == p.toList) = true)) := by
    rcases hdn with ⟨rfl, hq⟩ | ⟨hd, hq⟩
    · refine .inl ⟨by rw [Lib.toList_data]; rfl, Lib.hid ?_⟩
      rw [Lib.toList_data, Lib.toList_data, beq_iff_eq, ByteArray.data_append, Array.toList_append, ByteArray.data_append, Array.toList_append, ← hq]; rfl
    · refine .inr ⟨by rw [Lib.toList_data, beq_eq_false_iff_ne]; exact hd, Lib.hid ?_⟩
      rw [Lib.toList_data, Lib.toList_data, beq_iff_eq, ByteArray.data_append, Array.toList_append, ByteArray.data_append, Array.toList_append, ← hq]; simp
  generalize (⟨d.toArray⟩ : ByteArray) = D at *
  generalize (⟨n.toArray⟩ : ByteArray) = M at *
  clear hN hp47 hu hdn hm0
  go_enter Try.func6, Try.ntmps6
  go_wp2_with (first
        | (at_builtin; refine wpList_append_copy rfl _ _ 22 rfl 9 i0 (.string ⟨#[]⟩) 1 16 Try.underlying22 hi hz0 hz1 hz2 rfl (by decide) (by rfl) oa l.length cap (l.map strV) (by rfl) HR.out.nil (by simp) (came_news HR.out) (one_str l) (by unfold maxLen; omega) (by omega) ?_; intro oa2 cap2 w2 hown2 hb2; have hcap2 : l.length ≤ cap2 := (Strs.cap (n := l.length) (l := l) hown2).2; have HR2 := Lib.hid (Rds.of_strs (n := l.length) (cap := cap2) hown2); have HR1 := Lib.hid (HR.out.rds.grow hb2); have HB2 := Lib.hid hb2; clear hown2 hb2))
  refine (join_is _ _ _ l rfl (by omega) hcap2 HZ.out _ _ HJ.out _ HR2.out).mono ?_
  rintro e w3 ⟨rfl, hb3⟩
  have HR4 := Lib.hid (HR1.out.grow hb3)
  have HB3 := Lib.hid (bstep HB2.out hb3)
  clear hb3
  go_wp2_with fail
  refine (split_ok J HZ1.out l HN1.out _).mono ?_
  rintro e w4 ⟨ob, cb, rfl, hr4, _, hb4⟩
  have HR5 := Lib.hid hr4
  have HR6 := Lib.hid (HR4.out.grow hb4)
  have HB4 := Lib.hid (bstep HB3.out hb4)
  clear hr4 hb4
  go_wp2_with (go_at_call 10; refine (texts_same _ _ _ _ _ _ l rfl rfl (by omega) _ HR5.out HR6.out).mono ?_; rintro e w5 ⟨rfl, hb5⟩; have HB5 := Lib.hid (bstep HB4.out hb5); clear hb5)
  refine (split_ok p HP.out m HN.out _).mono ?_
  rintro e w6 ⟨oc, cc, rfl, hr6, hc6, hb6⟩
  have HR7 := Lib.hid hr6
  have HB6 := Lib.hid (bstep HB5.out hb6)
  clear hb6 hr6
  go_wp2_with fail
  refine (join_is _ _ _ m rfl (by omega) hc6 HMZ.out _ _ HJ2.out _ HR7.out).mono ?_
  rintro e w7 ⟨rfl, hb7⟩
  have HB7 := Lib.hid (bstep HB6.out hb7)
  clear hb7
  rcases hcase with ⟨hd, HE⟩ | ⟨hd, HE⟩
  all_goals
    have hE := HE.out
    go_wp2_with (first
      | (go_at_call 16; refine (up_is p HP.out _ _ _ HU.out _).mono ?_; rintro e w8 ⟨rfl, hb8⟩; have HB8 := Lib.hid (bstep HB7.out hb8); clear hb8)
      | (go_at_call 11; refine (inside_is p ⟨#[47]⟩ HP.out (by decide) _ HI.out _).mono ?_; rintro e w10 ⟨rfl, hb10⟩; have HB10 := Lib.hid (bstep HB8.out hb10); clear hb10)
      | (go_at_call 7; refine (wakes_any _).mono ?_; rintro e w9 ⟨rfl, hb9⟩; have HB9 := Lib.hid (bstep HB10.out hb9); clear hb9))
    go_ret
    exact ⟨rfl, HB9.out⟩
set_option maxHeartbeats 1600000 in
theorem back_no_none (oa : Option Addr) (cap : Nat) (l : List (List UInt8)) (hl : l.length ≤ 100) (hz : ∀ x ∈ l, x.length ≤ 9223372036854775807) (p : ByteArray) (hp : p.size ≤ 20000) (hj : joinE l = 11) (hN : namesR p.data.toList = none) (w : World) (h : Came w oa cap l) :
    Calls Try.prog 6 #[.slice oa l.length cap, .string p] w fun e w' => e = .returned (.bool true) ∧ Below w.heap.size w w' := by
  obtain ⟨i0, hi, hz0, hz1, hz2⟩ := info_parts strinfo
  have d1 : decide (100 < (l.length : Int)) = false := decide_eq_false (by omega)
  have d2 : decide (20000 < (p.size : Int)) = false := decide_eq_false (by omega)
  have HP := Lib.hid (show p.size ≤ 140737488355328 by omega)
  have hps : (p.size : Int) ≤ 20000 := by omega
  have HR := Lib.hid h
  have HZ := Lib.hid hz
  clear h hz
  obtain ⟨J, hJ⟩ : ∃ J, joinS l = J := ⟨_, rfl⟩
  have HJ : Hid (joinS l = J ∧ joinE l = 11) := Lib.hid ⟨hJ, hj⟩
  clear hJ
  clear hj
  have HN := Lib.hid hN
  have HG : Hid ((namesR p.data.toList).isSome = false) := Lib.hid (by rw [hN]; rfl)
  clear hN
  go_enter Try.func6, Try.ntmps6
  go_wp2_with (first
        | (at_builtin; refine wpList_append_copy rfl _ _ 22 rfl 9 i0 (.string ⟨#[]⟩) 1 16 Try.underlying22 hi hz0 hz1 hz2 rfl (by decide) (by rfl) oa l.length cap (l.map strV) (by rfl) HR.out.nil (by simp) (came_news HR.out) (one_str l) (by unfold maxLen; omega) (by omega) ?_; intro oa2 cap2 w2 hown2 hb2; have hcap2 : l.length ≤ cap2 := (Strs.cap (n := l.length) (l := l) hown2).2; have HR2 := Lib.hid (Rds.of_strs (n := l.length) (cap := cap2) hown2); have HR1 := Lib.hid (HR.out.rds.grow hb2); have HB2 := Lib.hid hb2; clear hown2 hb2))
  refine (join_is _ _ _ l rfl (by omega) hcap2 HZ.out _ _ HJ.out _ HR2.out).mono ?_
  rintro e w3 ⟨rfl, hb3⟩
  have HR4 := Lib.hid (HR1.out.grow hb3)
  have HB3 := Lib.hid (bstep HB2.out hb3)
  clear hb3
  go_wp2_with fail
  have HB5 := HB3
  refine (split_no p HP.out HN.out _).mono ?_
  rintro e w6 ⟨oc, cc, rfl, hb6⟩
  have HB6 := Lib.hid (bstep HB5.out hb6)
  clear hb6
  go_wp2_with (first
    | (go_at_call 13; refine (good_is p HP.out false HG.out _).mono ?_; rintro e w7 ⟨rfl, hb7⟩; have HB7 := Lib.hid (bstep HB6.out hb7); clear hb7)
    | (go_at_call 7; refine (wakes_any _).mono ?_; rintro e w8 ⟨rfl, hb8⟩; have HB8 := Lib.hid (bstep HB7.out hb8); clear hb8))
  go_ret
  exact ⟨rfl, HB8.out⟩
set_option maxHeartbeats 1600000 in
theorem back_no_root (oa : Option Addr) (cap : Nat) (l : List (List UInt8)) (hl : l.length ≤ 100) (hz : ∀ x ∈ l, x.length ≤ 9223372036854775807) (p : ByteArray) (hp : p.size ≤ 20000) (hj : joinE l = 11) (hN : namesR p.data.toList = some []) (w : World) (h : Came w oa cap l) :
    Calls Try.prog 6 #[.slice oa l.length cap, .string p] w fun e w' => e = .returned (.bool true) ∧ Below w.heap.size w w' := by
  obtain ⟨i0, hi, hz0, hz1, hz2⟩ := info_parts strinfo
  have d1 : decide (100 < (l.length : Int)) = false := decide_eq_false (by omega)
  have d2 : decide (20000 < (p.size : Int)) = false := decide_eq_false (by omega)
  have HP := Lib.hid (show p.size ≤ 140737488355328 by omega)
  have hps : (p.size : Int) ≤ 20000 := by omega
  have HR := Lib.hid h
  have HZ := Lib.hid hz
  clear h hz
  obtain ⟨J, hJ⟩ : ∃ J, joinS l = J := ⟨_, rfl⟩
  have HJ : Hid (joinS l = J ∧ joinE l = 11) := Lib.hid ⟨hJ, hj⟩
  clear hJ
  clear hj
  have HN := Lib.hid hN
  have HJ2 := Lib.hid (join_of_names p [] hN)
  have hp47 : p.data.toList = [47] := (join_names _ _ hN).1.symm
  have HU : Hid (upR p.data.toList = ((⟨#[]⟩ : ByteArray).data.toList, (⟨#[]⟩ : ByteArray).data.toList, false)) := Lib.hid (by rw [upR, hN]; rfl)
  have hb47 : (p.toList == [47]) = true := by rw [Lib.toList_data, hp47]; rfl
  have hb48 : (!(p.toList == [47])) = false := by rw [hb47]; rfl
  have HRN := Lib.hid (fun (W : World) (oa : Option Addr) => (fun i hi => absurd hi (Nat.not_lt_zero _) : Rds W.heap.size W oa []))
  clear hN hp47
  go_enter Try.func6, Try.ntmps6
  go_wp2_with (first
        | (at_builtin; refine wpList_append_copy rfl _ _ 22 rfl 9 i0 (.string ⟨#[]⟩) 1 16 Try.underlying22 hi hz0 hz1 hz2 rfl (by decide) (by rfl) oa l.length cap (l.map strV) (by rfl) HR.out.nil (by simp) (came_news HR.out) (one_str l) (by unfold maxLen; omega) (by omega) ?_; intro oa2 cap2 w2 hown2 hb2; have hcap2 : l.length ≤ cap2 := (Strs.cap (n := l.length) (l := l) hown2).2; have HR2 := Lib.hid (Rds.of_strs (n := l.length) (cap := cap2) hown2); have HR1 := Lib.hid (HR.out.rds.grow hb2); have HB2 := Lib.hid hb2; clear hown2 hb2))
  refine (join_is _ _ _ l rfl (by omega) hcap2 HZ.out _ _ HJ.out _ HR2.out).mono ?_
  rintro e w3 ⟨rfl, hb3⟩
  have HR4 := Lib.hid (HR1.out.grow hb3)
  have HB3 := Lib.hid (bstep HB2.out hb3)
  clear hb3
  go_wp2_with fail
  have HB5 := HB3
  refine (split_ok p HP.out [] HN.out _).mono ?_
  rintro e w6 ⟨oc, cc, rfl, hr6, hc6, hb6⟩
  have HB6 := Lib.hid (bstep HB5.out hb6)
  clear hb6 hr6
  go_wp2_with fail
  refine (join_is _ _ _ [] rfl (by simp) hc6 (fun x hx => by simp at hx) _ _ HJ2.out _ (HRN.out _ _)).mono ?_
  rintro e w7 ⟨rfl, hb7⟩
  have HB7 := Lib.hid (bstep HB6.out hb7)
  clear hb7
  go_wp2_with (first
    | (go_at_call 16; refine (up_is p HP.out ⟨#[]⟩ ⟨#[]⟩ false HU.out _).mono ?_; rintro e w8 ⟨rfl, hb8⟩; have HB8 := Lib.hid (bstep HB7.out hb8); clear hb8)
    | (go_at_call 7; refine (wakes_any _).mono ?_; rintro e w9 ⟨rfl, hb9⟩; have HB9 := Lib.hid (bstep HB8.out hb9); clear hb9))
  go_ret
  exact ⟨rfl, HB9.out⟩
set_option maxHeartbeats 1600000 in
theorem back_no_more (oa : Option Addr) (cap : Nat) (l : List (List UInt8)) (hl : l.length ≤ 100) (hz : ∀ x ∈ l, x.length ≤ 9223372036854775807) (p : ByteArray) (hp : p.size ≤ 20000) (hj : joinE l = 11) (m : List (List UInt8)) (hm0 : m ≠ []) (hN : namesR p.data.toList = some m) (w : World) (h : Came w oa cap l) :
    Calls Try.prog 6 #[.slice oa l.length cap, .string p] w fun e w' => e = .returned (.bool true) ∧ Below w.heap.size w w' := by
  obtain ⟨i0, hi, hz0, hz1, hz2⟩ := info_parts strinfo
  have d1 : decide (100 < (l.length : Int)) = false := decide_eq_false (by omega)
  have d2 : decide (20000 < (p.size : Int)) = false := decide_eq_false (by omega)
  have HP := Lib.hid (show p.size ≤ 140737488355328 by omega)
  have hps : (p.size : Int) ≤ 20000 := by omega
  have HR := Lib.hid h
  have HZ := Lib.hid hz
  clear h hz
  obtain ⟨J, hJ⟩ : ∃ J, joinS l = J := ⟨_, rfl⟩
  have HJ : Hid (joinS l = J ∧ joinE l = 11) := Lib.hid ⟨hJ, hj⟩
  clear hJ
  clear hj
  have HN := Lib.hid hN
  have HJ2 := Lib.hid (join_of_names p m hN)
  have hm8 := (join_names _ _ hN).2.1
  have HMZ : Hid (∀ x ∈ m, x.length ≤ 9223372036854775807) := Lib.hid (by have := names_short p.data.toList; rw [hN] at this; exact this)
  have hp47 : p.data.toList ≠ [47] := by
    intro e
    rw [e] at hN
    injection hN with hN
    exact hm0 hN.symm
  have hb47 : (p.toList == [47]) = false := by rw [Lib.toList_data, beq_eq_false_iff_ne]; exact hp47
  have hb48 : (!(p.toList == [47])) = true := by rw [hb47]; rfl
  obtain ⟨d, n, hu, hdn, hdl, hnl⟩ := up_last _ m hN hm0
  have HU : Hid (upR p.data.toList = ((⟨d.toArray⟩ : ByteArray).data.toList, (⟨n.toArray⟩ : ByteArray).data.toList, true)) := Lib.hid hu
  have HI : Hid (insideR p.data.toList (⟨#[47]⟩ : ByteArray).data.toList = true) := Lib.hid (by rw [insideR, hN]; simp [namesR])
  have hdz : (⟨d.toArray⟩ : ByteArray).size ≤ 100 := by rw [strV_size]; exact hdl
  have hnz : (⟨n.toArray⟩ : ByteArray).size ≤ 8 := by rw [strV_size]; exact hnl
  have hcase : (((⟨d.toArray⟩ : ByteArray).toList == [47]) = true ∧ Hid ((((⟨#[]⟩ : ByteArray) ++ ⟨#[47]⟩ ++ (⟨n.toArray⟩ : ByteArray)).toList == p.toList) = true)) ∨ (((⟨d.toArray⟩ : ByteArray).toList == [47]) = false ∧ Hid ((((⟨d.toArray⟩ : ByteArray) ++ ⟨#[47]⟩ ++ (⟨n.toArray⟩ : ByteArray)).toList == p.toList) = true)) := by
    rcases hdn with ⟨rfl, hq⟩ | ⟨hd, hq⟩
    · refine .inl ⟨by rw [Lib.toList_data]; rfl, Lib.hid ?_⟩
      rw [Lib.toList_data, Lib.toList_data, beq_iff_eq, ByteArray.data_append, Array.toList_append, ByteArray.data_append, Array.toList_append, ← hq]; rfl
    · refine .inr ⟨by rw [Lib.toList_data, beq_eq_false_iff_ne]; exact hd, Lib.hid ?_⟩
      rw [Lib.toList_data, Lib.toList_data, beq_iff_eq, ByteArray.data_append, Array.toList_append, ByteArray.data_append, Array.toList_append, ← hq]; simp
  generalize (⟨d.toArray⟩ : ByteArray) = D at *
  generalize (⟨n.toArray⟩ : ByteArray) = M at *
  clear hN hp47 hu hdn hm0
  go_enter Try.func6, Try.ntmps6
  go_wp2_with (first
        | (at_builtin; refine wpList_append_copy rfl _ _ 22 rfl 9 i0 (.string ⟨#[]⟩) 1 16 Try.underlying22 hi hz0 hz1 hz2 rfl (by decide) (by rfl) oa l.length cap (l.map strV) (by rfl) HR.out.nil (by simp) (came_news HR.out) (one_str l) (by unfold maxLen; omega) (by omega) ?_; intro oa2 cap2 w2 hown2 hb2; have hcap2 : l.length ≤ cap2 := (Strs.cap (n := l.length) (l := l) hown2).2; have HR2 := Lib.hid (Rds.of_strs (n := l.length) (cap := cap2) hown2); have HR1 := Lib.hid (HR.out.rds.grow hb2); have HB2 := Lib.hid hb2; clear hown2 hb2))
  refine (join_is _ _ _ l rfl (by omega) hcap2 HZ.out _ _ HJ.out _ HR2.out).mono ?_
  rintro e w3 ⟨rfl, hb3⟩
  have HR4 := Lib.hid (HR1.out.grow hb3)
  have HB3 := Lib.hid (bstep HB2.out hb3)
  clear hb3
  go_wp2_with fail
  have HB5 := HB3
  refine (split_ok p HP.out m HN.out _).mono ?_
  rintro e w6 ⟨oc, cc, rfl, hr6, hc6, hb6⟩
  have HR7 := Lib.hid hr6
  have HB6 := Lib.hid (bstep HB5.out hb6)
  clear hb6 hr6
  go_wp2_with fail
  refine (join_is _ _ _ m rfl (by omega) hc6 HMZ.out _ _ HJ2.out _ HR7.out).mono ?_
  rintro e w7 ⟨rfl, hb7⟩
  have HB7 := Lib.hid (bstep HB6.out hb7)
  clear hb7
  rcases hcase with ⟨hd, HE⟩ | ⟨hd, HE⟩
  all_goals
    have hE := HE.out
    go_wp2_with (first
      | (go_at_call 16; refine (up_is p HP.out _ _ _ HU.out _).mono ?_; rintro e w8 ⟨rfl, hb8⟩; have HB8 := Lib.hid (bstep HB7.out hb8); clear hb8)
      | (go_at_call 11; refine (inside_is p ⟨#[47]⟩ HP.out (by decide) _ HI.out _).mono ?_; rintro e w10 ⟨rfl, hb10⟩; have HB10 := Lib.hid (bstep HB8.out hb10); clear hb10)
      | (go_at_call 7; refine (wakes_any _).mono ?_; rintro e w9 ⟨rfl, hb9⟩; have HB9 := Lib.hid (bstep HB10.out hb9); clear hb9))
    go_ret
    exact ⟨rfl, HB9.out⟩
theorem joinE_cases (l : List (List UInt8)) : joinE l = 0 ∨ joinE l = 11 := by
  unfold joinE
  split
  · exact .inl rfl
  · exact .inr rfl
theorem back_walk (oa : Option Addr) (cap : Nat) (l : List (List UInt8)) (hz : ∀ x ∈ l, x.length ≤ 9223372036854775807) (_ : l.length ≤ maxLen) (p : ByteArray) (_ : p.size ≤ maxLen) (w : World) (h : Came w oa cap l) :
    Calls Try.prog 6 #[.slice oa l.length cap, .string p] w fun e w' => e = .returned (.bool true) ∧ Below w.heap.size w w' := by
  by_cases hb : 100 < l.length ∨ 20000 < p.size
  · exact back_big oa l.length cap p hb w
  · have hl : l.length ≤ 100 := by omega
    have hp : p.size ≤ 20000 := by omega
    rcases joinE_cases l with hj | hj
    · cases hN : namesR p.data.toList with
      | none => exact back_ok_none oa cap l hl hz p hp hj hN w h
      | some m =>
        by_cases hm : m = []
        · subst hm; exact back_ok_root oa cap l hl hz p hp hj hN w h
        · exact back_ok_more oa cap l hl hz p hp hj m hm hN w h
    · cases hN : namesR p.data.toList with
      | none => exact back_no_none oa cap l hl hz p hp hj hN w h
      | some m =>
        by_cases hm : m = []
        · subst hm; exact back_no_root oa cap l hl hz p hp hj hN w h
        · exact back_no_more oa cap l hl hz p hp hj m hm hN w h
end Go.Proofs.Ytgpaneboohiojaa.PathW
