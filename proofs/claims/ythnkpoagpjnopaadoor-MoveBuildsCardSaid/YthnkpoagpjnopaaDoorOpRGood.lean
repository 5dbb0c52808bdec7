/- escheatref06.Good. -/
import Derived.Test.YthnkpoagpjnopaaDoorOpGood
namespace Go.Proofs.YthnkpoagpjnopaaDoor.OpW
set_option maxRecDepth 100000
open Go.RowKit OpP
theorem good_no {r : Rec} (h : headB r = false ∨ formB r = false ∨ sameB r (only r) = false) : goodB r = false := by
  unfold goodB
  rcases h with h | h | h <;> rw [h] <;> simp
theorem good_yes {r : Rec} (h1 : headB r = true) (h3 : sameB r (only r) = true) : goodB r = formB r := by
  unfold goodB; rw [h1, h3]; simp
set_option maxHeartbeats 1600000 in
theorem rgood_cl (r : Rec) (h : ¬ (0 ≤ r.cl ∧ r.cl ≤ 7)) (hr : Fit r) (oa : Option Addr) (n c : Nat) (hn : n = r.m.length) (w : World) (hm : MvAt w oa r.m) : Calls Tryd.prog 24 #[.agg #[.int .i64 r.cl, .int .i64 r.sq, .int .i64 r.k, .string r.p, .string r.t, .int .i64 r.sz, .int .i64 r.h, .int .i64 r.o, .string r.d, .int .i64 r.tk, .int .i64 r.i, .slice oa n c]] w (GoodPost r w) := by
  have HG := Lib.hid (good_no (r := r) (.inl (decide_eq_false (by omega))))
  have HR := Lib.hid hr
  have HN := Lib.hid hn
  have HM := Lib.hid hm
  have H0 := Lib.hid (below_alloc w (.cells #[.int .i64 r.cl, .int .i64 r.sq, .int .i64 r.k, .string r.p, .string r.t, .int .i64 r.sz, .int .i64 r.h, .int .i64 r.o, .string r.d, .int .i64 r.tk, .int .i64 r.i, .slice oa n c] 34))
  have HBX : Hid (OBox (w.alloc (.cells #[.int .i64 r.cl, .int .i64 r.sq, .int .i64 r.k, .string r.p, .string r.t, .int .i64 r.sz, .int .i64 r.h, .int .i64 r.o, .string r.d, .int .i64 r.tk, .int .i64 r.i, .slice oa n c] 34)) w.heap.size r (.slice oa n c)) := Lib.hid (heap_alloc_new w _)
  clear hr hn hm
  go_enter Tryd.func24, Tryd.ntmps24
  go_wp2_with fail
  refine held_below (by kernel_rfl) (by kernel_rfl) ?_
  repeat first
    | (refine held_skip ?_ ?_; (· first | rfl | (go_simp; done)); simp only [Act.put, List.setIfInBounds_toArray, List.set_cons_zero, List.set_cons_succ])
    | (refine held_val (v := ?_) ?_ ?_ ?_
       rotate_left
       · first | rfl | (go_simp; done)
       · intro wq hq
         obtain ⟨e0, e1, e2, e3, e4, e5, e6, e7, e8, e9, e10, e11⟩ := (OBox.keep (HBX.out) hq).cells
         go_simp
         with_reducible rfl
       simp only [Act.put, List.setIfInBounds_toArray, List.set_cons_zero, List.set_cons_succ])
    | (refine held_call (v := ?_) (f := ?_) (args := ?_) ?_ ?_ ?_ ?_
       rotate_left 3
       · first | rfl | (go_simp; done)
       · intro wq
         go_simp
         constructor
         · rfl
         · rfl
       · intro wq hq
         first
           | (go_at_call 47
              refine (in_any _ _ _ _).mono ?_
              rintro e w4 ⟨he, rfl⟩
              (first | rw [decide_eq_true (by omega)] at he | rw [decide_eq_false (by omega)] at he)
              subst he
              constructor
              · rfl
              · exact hq)
       simp only [Act.put, List.setIfInBounds_toArray, List.set_cons_zero, List.set_cons_succ])
  refine held_nil ?_
  intro w2 hb2
  go_wp2_with fail
  go_ret
  exact ⟨by rw [HG.out]; rfl, bstep H0.out hb2⟩
set_option maxHeartbeats 1600000 in
theorem rgood_sq (r : Rec) (h0 : 0 ≤ r.cl ∧ r.cl ≤ 7) (h : ¬ (1 ≤ r.sq ∧ r.sq ≤ 2147483647)) (hr : Fit r) (oa : Option Addr) (n c : Nat) (hn : n = r.m.length) (w : World) (hm : MvAt w oa r.m) : Calls Tryd.prog 24 #[.agg #[.int .i64 r.cl, .int .i64 r.sq, .int .i64 r.k, .string r.p, .string r.t, .int .i64 r.sz, .int .i64 r.h, .int .i64 r.o, .string r.d, .int .i64 r.tk, .int .i64 r.i, .slice oa n c]] w (GoodPost r w) := by
  have HG := Lib.hid (good_no (r := r) (.inl (decide_eq_false (by omega))))
  have HR := Lib.hid hr
  have HN := Lib.hid hn
  have HM := Lib.hid hm
  have H0 := Lib.hid (below_alloc w (.cells #[.int .i64 r.cl, .int .i64 r.sq, .int .i64 r.k, .string r.p, .string r.t, .int .i64 r.sz, .int .i64 r.h, .int .i64 r.o, .string r.d, .int .i64 r.tk, .int .i64 r.i, .slice oa n c] 34))
  have HBX : Hid (OBox (w.alloc (.cells #[.int .i64 r.cl, .int .i64 r.sq, .int .i64 r.k, .string r.p, .string r.t, .int .i64 r.sz, .int .i64 r.h, .int .i64 r.o, .string r.d, .int .i64 r.tk, .int .i64 r.i, .slice oa n c] 34)) w.heap.size r (.slice oa n c)) := Lib.hid (heap_alloc_new w _)
  clear hr hn hm
  go_enter Tryd.func24, Tryd.ntmps24
  go_wp2_with fail
  refine held_below (by kernel_rfl) (by kernel_rfl) ?_
  repeat first
    | (refine held_skip ?_ ?_; (· first | rfl | (go_simp; done)); simp only [Act.put, List.setIfInBounds_toArray, List.set_cons_zero, List.set_cons_succ])
    | (refine held_val (v := ?_) ?_ ?_ ?_
       rotate_left
       · first | rfl | (go_simp; done)
       · intro wq hq
         obtain ⟨e0, e1, e2, e3, e4, e5, e6, e7, e8, e9, e10, e11⟩ := (OBox.keep (HBX.out) hq).cells
         go_simp
         with_reducible rfl
       simp only [Act.put, List.setIfInBounds_toArray, List.set_cons_zero, List.set_cons_succ])
    | (refine held_call (v := ?_) (f := ?_) (args := ?_) ?_ ?_ ?_ ?_
       rotate_left 3
       · first | rfl | (go_simp; done)
       · intro wq
         go_simp
         constructor
         · rfl
         · rfl
       · intro wq hq
         first
           | (go_at_call 47
              refine (in_any _ _ _ _).mono ?_
              rintro e w4 ⟨he, rfl⟩
              (first | rw [decide_eq_true (by omega)] at he | rw [decide_eq_false (by omega)] at he)
              subst he
              constructor
              · rfl
              · exact hq)
       simp only [Act.put, List.setIfInBounds_toArray, List.set_cons_zero, List.set_cons_succ])
  refine held_nil ?_
  intro w2 hb2
  go_wp2_with fail
  go_ret
  exact ⟨by rw [HG.out]; rfl, bstep H0.out hb2⟩
set_option maxHeartbeats 1600000 in
theorem rgood_same (r : Rec) (h0 : 0 ≤ r.cl ∧ r.cl ≤ 7) (h : 1 ≤ r.sq ∧ r.sq ≤ 2147483647) (hs : sameB r (only r) = false) (hr : Fit r) (oa : Option Addr) (n c : Nat) (hn : n = r.m.length) (w : World) (hm : MvAt w oa r.m) : Calls Tryd.prog 24 #[.agg #[.int .i64 r.cl, .int .i64 r.sq, .int .i64 r.k, .string r.p, .string r.t, .int .i64 r.sz, .int .i64 r.h, .int .i64 r.o, .string r.d, .int .i64 r.tk, .int .i64 r.i, .slice oa n c]] w (GoodPost r w) := by
  have HG := Lib.hid (good_no (r := r) (.inr (.inr hs)))
  have HR := Lib.hid hr
  have HN := Lib.hid hn
  have HM := Lib.hid hm
  have H0 := Lib.hid (below_alloc w (.cells #[.int .i64 r.cl, .int .i64 r.sq, .int .i64 r.k, .string r.p, .string r.t, .int .i64 r.sz, .int .i64 r.h, .int .i64 r.o, .string r.d, .int .i64 r.tk, .int .i64 r.i, .slice oa n c] 34))
  have HBX : Hid (OBox (w.alloc (.cells #[.int .i64 r.cl, .int .i64 r.sq, .int .i64 r.k, .string r.p, .string r.t, .int .i64 r.sz, .int .i64 r.h, .int .i64 r.o, .string r.d, .int .i64 r.tk, .int .i64 r.i, .slice oa n c] 34)) w.heap.size r (.slice oa n c)) := Lib.hid (heap_alloc_new w _)
  have HSB := Lib.hid hs
  clear hs
  clear hr hn hm
  go_enter Tryd.func24, Tryd.ntmps24
  go_wp2_with fail
  refine held_below (by kernel_rfl) (by kernel_rfl) ?_
  repeat first
    | (refine held_skip ?_ ?_; (· first | rfl | (go_simp; done)); simp only [Act.put, List.setIfInBounds_toArray, List.set_cons_zero, List.set_cons_succ])
    | (refine held_val (v := ?_) ?_ ?_ ?_
       rotate_left
       · first | rfl | (go_simp; done)
       · intro wq hq
         obtain ⟨e0, e1, e2, e3, e4, e5, e6, e7, e8, e9, e10, e11⟩ := (OBox.keep (HBX.out) hq).cells
         go_simp
         with_reducible rfl
       simp only [Act.put, List.setIfInBounds_toArray, List.set_cons_zero, List.set_cons_succ])
    | (refine held_call (v := ?_) (f := ?_) (args := ?_) ?_ ?_ ?_ ?_
       rotate_left 3
       · first | rfl | (go_simp; done)
       · intro wq
         go_simp
         constructor
         · rfl
         · rfl
       · intro wq hq
         first
           | (go_at_call 47
              refine (in_any _ _ _ _).mono ?_
              rintro e w4 ⟨he, rfl⟩
              (first | rw [decide_eq_true (by omega)] at he | rw [decide_eq_false (by omega)] at he)
              subst he
              constructor
              · rfl
              · exact hq)
           | (go_at_call 48
              refine (only_any r oa n c wq).mono ?_
              rintro e w4 ⟨rfl, hb4⟩
              constructor
              · rfl
              · exact bstep hq hb4)
           | (go_at_call 12
              (have hmv := HM.out.grow (bstep H0.out hq))
              refine (keep_is r (only r) _ HSB.out oa (onlyA r oa) n (onlyN r n) c (onlyN r c) HN.out (only_len r n HN.out) HR.out.2.2.2 (only_fit HR.out) wq hmv (only_mv r oa wq hmv)).mono ?_
              rintro e w4 ⟨rfl, hb4⟩
              constructor
              · rfl
              · exact bstep hq hb4)
       simp only [Act.put, List.setIfInBounds_toArray, List.set_cons_zero, List.set_cons_succ])
  refine held_nil ?_
  intro w2 hb2
  go_wp2_with fail
  go_ret
  exact ⟨by rw [HG.out]; rfl, bstep H0.out hb2⟩
set_option maxHeartbeats 12800000 in
theorem rgood_ok (r : Rec) (h0 : 0 ≤ r.cl ∧ r.cl ≤ 7) (h : 1 ≤ r.sq ∧ r.sq ≤ 2147483647) (hs : sameB r (only r) = true) (hk : r.k ≠ 13) (hr : Fit r) (oa : Option Addr) (n c : Nat) (hn : n = r.m.length) (w : World) (hm : MvAt w oa r.m) : Calls Tryd.prog 24 #[.agg #[.int .i64 r.cl, .int .i64 r.sq, .int .i64 r.k, .string r.p, .string r.t, .int .i64 r.sz, .int .i64 r.h, .int .i64 r.o, .string r.d, .int .i64 r.tk, .int .i64 r.i, .slice oa n c]] w (GoodPost r w) := by
  have HG := Lib.hid (good_yes (r := r) (decide_eq_true (by omega)) hs)
  have HR := Lib.hid hr
  have HN := Lib.hid hn
  have HM := Lib.hid hm
  have H0 := Lib.hid (below_alloc w (.cells #[.int .i64 r.cl, .int .i64 r.sq, .int .i64 r.k, .string r.p, .string r.t, .int .i64 r.sz, .int .i64 r.h, .int .i64 r.o, .string r.d, .int .i64 r.tk, .int .i64 r.i, .slice oa n c] 34))
  have HBX : Hid (OBox (w.alloc (.cells #[.int .i64 r.cl, .int .i64 r.sq, .int .i64 r.k, .string r.p, .string r.t, .int .i64 r.sz, .int .i64 r.h, .int .i64 r.o, .string r.d, .int .i64 r.tk, .int .i64 r.i, .slice oa n c] 34)) w.heap.size r (.slice oa n c)) := Lib.hid (heap_alloc_new w _)
  have HSB := Lib.hid hs
  have HK := Lib.hid hk
  clear hs hr hn hm hk
  go_enter Tryd.func24, Tryd.ntmps24
  go_wp2_with fail
  refine held_below (by kernel_rfl) (by kernel_rfl) ?_
  repeat first
    | (refine held_skip ?_ ?_; (· first | rfl | (go_simp; done)); simp only [Act.put, List.setIfInBounds_toArray, List.set_cons_zero, List.set_cons_succ])
    | (refine held_val (v := ?_) ?_ ?_ ?_
       rotate_left
       · first | rfl | (go_simp; done)
       · intro wq hq
         obtain ⟨e0, e1, e2, e3, e4, e5, e6, e7, e8, e9, e10, e11⟩ := (OBox.keep (HBX.out) hq).cells
         go_simp
         with_reducible rfl
       simp only [Act.put, List.setIfInBounds_toArray, List.set_cons_zero, List.set_cons_succ])
    | (refine held_call (v := ?_) (f := ?_) (args := ?_) ?_ ?_ ?_ ?_
       rotate_left 3
       · first | rfl | (go_simp; done)
       · intro wq
         go_simp
         constructor
         · rfl
         · rfl
       · intro wq hq
         first
           | (go_at_call 47
              refine (in_any _ _ _ _).mono ?_
              rintro e w4 ⟨he, rfl⟩
              (first | rw [decide_eq_true (by omega)] at he | rw [decide_eq_false (by omega)] at he)
              subst he
              constructor
              · rfl
              · exact hq)
           | (go_at_call 48
              refine (only_any r oa n c wq).mono ?_
              rintro e w4 ⟨rfl, hb4⟩
              constructor
              · rfl
              · exact bstep hq hb4)
           | (go_at_call 12
              (have hmv := HM.out.grow (bstep H0.out hq))
              refine (keep_is r (only r) _ HSB.out oa (onlyA r oa) n (onlyN r n) c (onlyN r c) HN.out (only_len r n HN.out) HR.out.2.2.2 (only_fit HR.out) wq hmv (only_mv r oa wq hmv)).mono ?_
              rintro e w4 ⟨rfl, hb4⟩
              constructor
              · rfl
              · exact bstep hq hb4)
       simp only [Act.put, List.setIfInBounds_toArray, List.set_cons_zero, List.set_cons_succ])
  refine held_nil ?_
  intro w2 hb2
  have HB2 := Lib.hid (bstep H0.out hb2)
  have HX2 := Lib.hid (HBX.out.keep hb2)
  obtain ⟨e0, e1, e2, e3, e4, e5, e6, e7, e8, e9, e10, e11⟩ := HX2.out.cells
  clear hb2 h0 h
  by_cases hk2 : 1 ≤ r.k ∧ r.k ≤ 14
  · rcases kinds r.k hk2 with e | e | e | e | e | e | e | e | e | e | e | e | e | e
    · have HE := Lib.hid e
      have q1 : (r.k == 1) = true := by rw [e]; rfl
      have q2 : (r.k == 2) = false := by rw [e]; rfl
      have q3 : (r.k == 3) = false := by rw [e]; rfl
      have q4 : (r.k == 4) = false := by rw [e]; rfl
      have q5 : (r.k == 5) = false := by rw [e]; rfl
      have q6 : (r.k == 6) = false := by rw [e]; rfl
      have q7 : (r.k == 7) = false := by rw [e]; rfl
      have q8 : (r.k == 8) = false := by rw [e]; rfl
      have q9 : (r.k == 9) = false := by rw [e]; rfl
      have q10 : (r.k == 10) = false := by rw [e]; rfl
      have q11 : (r.k == 11) = false := by rw [e]; rfl
      have q12 : (r.k == 12) = false := by rw [e]; rfl
      have q13 : (r.k == 13) = false := by rw [e]; rfl
      have q14 : (r.k == 14) = false := by rw [e]; rfl
      clear e hk2
      have HF := Lib.hid (form_one (r := r) (by simp [HE.out]))
      go_wp2_with (go_at_call 49; refine (rpath_is _ _ rfl HR.out.1 _).mono ?_; rintro e w3 ⟨rfl, hb3⟩; have HB3 := Lib.hid (bstep HB2.out hb3); have hx3 := HX2.out.keep hb3; obtain ⟨g0, g1, g2, g3, g4, g5, g6, g7, g8, g9, g10, g11⟩ := hx3.cells; clear hb3 hx3)
      go_ret
      exact ⟨ret_bool (by rw [HG.out, HF.out]), HB3.out⟩
    · have HE := Lib.hid e
      have q1 : (r.k == 1) = false := by rw [e]; rfl
      have q2 : (r.k == 2) = true := by rw [e]; rfl
      have q3 : (r.k == 3) = false := by rw [e]; rfl
      have q4 : (r.k == 4) = false := by rw [e]; rfl
      have q5 : (r.k == 5) = false := by rw [e]; rfl
      have q6 : (r.k == 6) = false := by rw [e]; rfl
      have q7 : (r.k == 7) = false := by rw [e]; rfl
      have q8 : (r.k == 8) = false := by rw [e]; rfl
      have q9 : (r.k == 9) = false := by rw [e]; rfl
      have q10 : (r.k == 10) = false := by rw [e]; rfl
      have q11 : (r.k == 11) = false := by rw [e]; rfl
      have q12 : (r.k == 12) = false := by rw [e]; rfl
      have q13 : (r.k == 13) = false := by rw [e]; rfl
      have q14 : (r.k == 14) = false := by rw [e]; rfl
      clear e hk2
      have HF := Lib.hid (form_one (r := r) (by simp [HE.out]))
      go_wp2_with (go_at_call 49; refine (rpath_is _ _ rfl HR.out.1 _).mono ?_; rintro e w3 ⟨rfl, hb3⟩; have HB3 := Lib.hid (bstep HB2.out hb3); have hx3 := HX2.out.keep hb3; obtain ⟨g0, g1, g2, g3, g4, g5, g6, g7, g8, g9, g10, g11⟩ := hx3.cells; clear hb3 hx3)
      go_ret
      exact ⟨ret_bool (by rw [HG.out, HF.out]), HB3.out⟩
    · have HE := Lib.hid e
      have q1 : (r.k == 1) = false := by rw [e]; rfl
      have q2 : (r.k == 2) = false := by rw [e]; rfl
      have q3 : (r.k == 3) = true := by rw [e]; rfl
      have q4 : (r.k == 4) = false := by rw [e]; rfl
      have q5 : (r.k == 5) = false := by rw [e]; rfl
      have q6 : (r.k == 6) = false := by rw [e]; rfl
      have q7 : (r.k == 7) = false := by rw [e]; rfl
      have q8 : (r.k == 8) = false := by rw [e]; rfl
      have q9 : (r.k == 9) = false := by rw [e]; rfl
      have q10 : (r.k == 10) = false := by rw [e]; rfl
      have q11 : (r.k == 11) = false := by rw [e]; rfl
      have q12 : (r.k == 12) = false := by rw [e]; rfl
      have q13 : (r.k == 13) = false := by rw [e]; rfl
      have q14 : (r.k == 14) = false := by rw [e]; rfl
      clear e hk2
      have HF := Lib.hid (form_one (r := r) (by simp [HE.out]))
      go_wp2_with (go_at_call 49; refine (rpath_is _ _ rfl HR.out.1 _).mono ?_; rintro e w3 ⟨rfl, hb3⟩; have HB3 := Lib.hid (bstep HB2.out hb3); have hx3 := HX2.out.keep hb3; obtain ⟨g0, g1, g2, g3, g4, g5, g6, g7, g8, g9, g10, g11⟩ := hx3.cells; clear hb3 hx3)
      go_ret
      exact ⟨ret_bool (by rw [HG.out, HF.out]), HB3.out⟩
    · have HE := Lib.hid e
      have q1 : (r.k == 1) = false := by rw [e]; rfl
      have q2 : (r.k == 2) = false := by rw [e]; rfl
      have q3 : (r.k == 3) = false := by rw [e]; rfl
      have q4 : (r.k == 4) = true := by rw [e]; rfl
      have q5 : (r.k == 5) = false := by rw [e]; rfl
      have q6 : (r.k == 6) = false := by rw [e]; rfl
      have q7 : (r.k == 7) = false := by rw [e]; rfl
      have q8 : (r.k == 8) = false := by rw [e]; rfl
      have q9 : (r.k == 9) = false := by rw [e]; rfl
      have q10 : (r.k == 10) = false := by rw [e]; rfl
      have q11 : (r.k == 11) = false := by rw [e]; rfl
      have q12 : (r.k == 12) = false := by rw [e]; rfl
      have q13 : (r.k == 13) = false := by rw [e]; rfl
      have q14 : (r.k == 14) = false := by rw [e]; rfl
      clear e hk2
      have HF := Lib.hid (form_both (r := r) (by simp [HE.out]))
      cases ha : pathB r.p with
      | false =>
        have HA := Lib.hid ha
        clear ha
        go_wp2_with (go_at_call 49; refine (rpath_is _ _ HA.out HR.out.1 _).mono ?_; rintro e w3 ⟨rfl, hb3⟩; have HB3 := Lib.hid (bstep HB2.out hb3); have hx3 := HX2.out.keep hb3; obtain ⟨g0, g1, g2, g3, g4, g5, g6, g7, g8, g9, g10, g11⟩ := hx3.cells; clear hb3 hx3)
        go_ret
        exact ⟨ret_bool (by rw [HG.out, HF.out, HA.out]; rfl), HB3.out⟩
      | true =>
        have HA := Lib.hid ha
        clear ha
        go_wp2_with (first | (have hz := HB3.out; clear hz; go_at_call 49; refine (rpath_is _ _ rfl HR.out.2.1 _).mono ?_; rintro e w5 ⟨rfl, hb5⟩; have HB5 := Lib.hid (bstep HB3.out hb5); clear hb5) | (go_at_call 49; refine (rpath_is _ _ HA.out HR.out.1 _).mono ?_; rintro e w3 ⟨rfl, hb3⟩; have HB3 := Lib.hid (bstep HB2.out hb3); have hx3 := HX2.out.keep hb3; obtain ⟨g0, g1, g2, g3, g4, g5, g6, g7, g8, g9, g10, g11⟩ := hx3.cells; clear hb3 hx3))
        go_ret
        exact ⟨ret_bool (by rw [HG.out, HF.out, HA.out]; rfl), HB5.out⟩
    · have HE := Lib.hid e
      have q1 : (r.k == 1) = false := by rw [e]; rfl
      have q2 : (r.k == 2) = false := by rw [e]; rfl
      have q3 : (r.k == 3) = false := by rw [e]; rfl
      have q4 : (r.k == 4) = false := by rw [e]; rfl
      have q5 : (r.k == 5) = true := by rw [e]; rfl
      have q6 : (r.k == 6) = false := by rw [e]; rfl
      have q7 : (r.k == 7) = false := by rw [e]; rfl
      have q8 : (r.k == 8) = false := by rw [e]; rfl
      have q9 : (r.k == 9) = false := by rw [e]; rfl
      have q10 : (r.k == 10) = false := by rw [e]; rfl
      have q11 : (r.k == 11) = false := by rw [e]; rfl
      have q12 : (r.k == 12) = false := by rw [e]; rfl
      have q13 : (r.k == 13) = false := by rw [e]; rfl
      have q14 : (r.k == 14) = false := by rw [e]; rfl
      clear e hk2
      have HF := Lib.hid (form_one (r := r) (by simp [HE.out]))
      go_wp2_with (go_at_call 49; refine (rpath_is _ _ rfl HR.out.1 _).mono ?_; rintro e w3 ⟨rfl, hb3⟩; have HB3 := Lib.hid (bstep HB2.out hb3); have hx3 := HX2.out.keep hb3; obtain ⟨g0, g1, g2, g3, g4, g5, g6, g7, g8, g9, g10, g11⟩ := hx3.cells; clear hb3 hx3)
      go_ret
      exact ⟨ret_bool (by rw [HG.out, HF.out]), HB3.out⟩
    · have HE := Lib.hid e
      have q1 : (r.k == 1) = false := by rw [e]; rfl
      have q2 : (r.k == 2) = false := by rw [e]; rfl
      have q3 : (r.k == 3) = false := by rw [e]; rfl
      have q4 : (r.k == 4) = false := by rw [e]; rfl
      have q5 : (r.k == 5) = false := by rw [e]; rfl
      have q6 : (r.k == 6) = true := by rw [e]; rfl
      have q7 : (r.k == 7) = false := by rw [e]; rfl
      have q8 : (r.k == 8) = false := by rw [e]; rfl
      have q9 : (r.k == 9) = false := by rw [e]; rfl
      have q10 : (r.k == 10) = false := by rw [e]; rfl
      have q11 : (r.k == 11) = false := by rw [e]; rfl
      have q12 : (r.k == 12) = false := by rw [e]; rfl
      have q13 : (r.k == 13) = false := by rw [e]; rfl
      have q14 : (r.k == 14) = false := by rw [e]; rfl
      clear e hk2
      have HF := Lib.hid (form_both (r := r) (by simp [HE.out]))
      cases ha : pathB r.p with
      | false =>
        have HA := Lib.hid ha
        clear ha
        go_wp2_with (go_at_call 49; refine (rpath_is _ _ HA.out HR.out.1 _).mono ?_; rintro e w3 ⟨rfl, hb3⟩; have HB3 := Lib.hid (bstep HB2.out hb3); have hx3 := HX2.out.keep hb3; obtain ⟨g0, g1, g2, g3, g4, g5, g6, g7, g8, g9, g10, g11⟩ := hx3.cells; clear hb3 hx3)
        go_ret
        exact ⟨ret_bool (by rw [HG.out, HF.out, HA.out]; rfl), HB3.out⟩
      | true =>
        have HA := Lib.hid ha
        clear ha
        go_wp2_with (first | (have hz := HB3.out; clear hz; go_at_call 49; refine (rpath_is _ _ rfl HR.out.2.1 _).mono ?_; rintro e w5 ⟨rfl, hb5⟩; have HB5 := Lib.hid (bstep HB3.out hb5); clear hb5) | (go_at_call 49; refine (rpath_is _ _ HA.out HR.out.1 _).mono ?_; rintro e w3 ⟨rfl, hb3⟩; have HB3 := Lib.hid (bstep HB2.out hb3); have hx3 := HX2.out.keep hb3; obtain ⟨g0, g1, g2, g3, g4, g5, g6, g7, g8, g9, g10, g11⟩ := hx3.cells; clear hb3 hx3))
        go_ret
        exact ⟨ret_bool (by rw [HG.out, HF.out, HA.out]; rfl), HB5.out⟩
    · have HE := Lib.hid e
      have q1 : (r.k == 1) = false := by rw [e]; rfl
      have q2 : (r.k == 2) = false := by rw [e]; rfl
      have q3 : (r.k == 3) = false := by rw [e]; rfl
      have q4 : (r.k == 4) = false := by rw [e]; rfl
      have q5 : (r.k == 5) = false := by rw [e]; rfl
      have q6 : (r.k == 6) = false := by rw [e]; rfl
      have q7 : (r.k == 7) = true := by rw [e]; rfl
      have q8 : (r.k == 8) = false := by rw [e]; rfl
      have q9 : (r.k == 9) = false := by rw [e]; rfl
      have q10 : (r.k == 10) = false := by rw [e]; rfl
      have q11 : (r.k == 11) = false := by rw [e]; rfl
      have q12 : (r.k == 12) = false := by rw [e]; rfl
      have q13 : (r.k == 13) = false := by rw [e]; rfl
      have q14 : (r.k == 14) = false := by rw [e]; rfl
      clear e hk2
      have HF := Lib.hid (form_cut HE.out)
      cases ha : pathB r.p with
      | false =>
        have HA := Lib.hid ha
        clear ha
        go_wp2_with (go_at_call 49; refine (rpath_is _ _ HA.out HR.out.1 _).mono ?_; rintro e w3 ⟨rfl, hb3⟩; have HB3 := Lib.hid (bstep HB2.out hb3); have hx3 := HX2.out.keep hb3; obtain ⟨g0, g1, g2, g3, g4, g5, g6, g7, g8, g9, g10, g11⟩ := hx3.cells; clear hb3 hx3)
        go_ret
        exact ⟨ret_bool (by rw [HG.out, HF.out, HA.out]; rfl), HB3.out⟩
      | true =>
        have HA := Lib.hid ha
        clear ha
        go_wp2_with (first | (go_at_call 47; refine (in_any _ _ _ _).mono ?_; rintro e w5 ⟨rfl, rfl⟩) | (go_at_call 49; refine (rpath_is _ _ HA.out HR.out.1 _).mono ?_; rintro e w3 ⟨rfl, hb3⟩; have HB3 := Lib.hid (bstep HB2.out hb3); have hx3 := HX2.out.keep hb3; obtain ⟨g0, g1, g2, g3, g4, g5, g6, g7, g8, g9, g10, g11⟩ := hx3.cells; clear hb3 hx3))
        go_ret
        exact ⟨ret_bool (by rw [HG.out, HF.out, HA.out]; simp), HB3.out⟩
    · have HE := Lib.hid e
      have q1 : (r.k == 1) = false := by rw [e]; rfl
      have q2 : (r.k == 2) = false := by rw [e]; rfl
      have q3 : (r.k == 3) = false := by rw [e]; rfl
      have q4 : (r.k == 4) = false := by rw [e]; rfl
      have q5 : (r.k == 5) = false := by rw [e]; rfl
      have q6 : (r.k == 6) = false := by rw [e]; rfl
      have q7 : (r.k == 7) = false := by rw [e]; rfl
      have q8 : (r.k == 8) = true := by rw [e]; rfl
      have q9 : (r.k == 9) = false := by rw [e]; rfl
      have q10 : (r.k == 10) = false := by rw [e]; rfl
      have q11 : (r.k == 11) = false := by rw [e]; rfl
      have q12 : (r.k == 12) = false := by rw [e]; rfl
      have q13 : (r.k == 13) = false := by rw [e]; rfl
      have q14 : (r.k == 14) = false := by rw [e]; rfl
      clear e hk2
      have HF := Lib.hid (form_one (r := r) (by simp [HE.out]))
      go_wp2_with (go_at_call 49; refine (rpath_is _ _ rfl HR.out.1 _).mono ?_; rintro e w3 ⟨rfl, hb3⟩; have HB3 := Lib.hid (bstep HB2.out hb3); have hx3 := HX2.out.keep hb3; obtain ⟨g0, g1, g2, g3, g4, g5, g6, g7, g8, g9, g10, g11⟩ := hx3.cells; clear hb3 hx3)
      go_ret
      exact ⟨ret_bool (by rw [HG.out, HF.out]), HB3.out⟩
    · have HE := Lib.hid e
      have q1 : (r.k == 1) = false := by rw [e]; rfl
      have q2 : (r.k == 2) = false := by rw [e]; rfl
      have q3 : (r.k == 3) = false := by rw [e]; rfl
      have q4 : (r.k == 4) = false := by rw [e]; rfl
      have q5 : (r.k == 5) = false := by rw [e]; rfl
      have q6 : (r.k == 6) = false := by rw [e]; rfl
      have q7 : (r.k == 7) = false := by rw [e]; rfl
      have q8 : (r.k == 8) = false := by rw [e]; rfl
      have q9 : (r.k == 9) = true := by rw [e]; rfl
      have q10 : (r.k == 10) = false := by rw [e]; rfl
      have q11 : (r.k == 11) = false := by rw [e]; rfl
      have q12 : (r.k == 12) = false := by rw [e]; rfl
      have q13 : (r.k == 13) = false := by rw [e]; rfl
      have q14 : (r.k == 14) = false := by rw [e]; rfl
      clear e hk2
      have HF := Lib.hid (form_close HE.out)
      have h3 := HR.out.2.2.1
      go_wp2_with (go_at_call 47; refine (in_any _ _ _ _).mono ?_; rintro e w5 ⟨rfl, rfl⟩)
      all_goals go_ret
      all_goals refine ⟨ret_bool ?_, HB2.out⟩
      all_goals rw [HG.out, HF.out, Bool.eq_iff_iff]
      all_goals simp
    · have HE := Lib.hid e
      have q1 : (r.k == 1) = false := by rw [e]; rfl
      have q2 : (r.k == 2) = false := by rw [e]; rfl
      have q3 : (r.k == 3) = false := by rw [e]; rfl
      have q4 : (r.k == 4) = false := by rw [e]; rfl
      have q5 : (r.k == 5) = false := by rw [e]; rfl
      have q6 : (r.k == 6) = false := by rw [e]; rfl
      have q7 : (r.k == 7) = false := by rw [e]; rfl
      have q8 : (r.k == 8) = false := by rw [e]; rfl
      have q9 : (r.k == 9) = false := by rw [e]; rfl
      have q10 : (r.k == 10) = true := by rw [e]; rfl
      have q11 : (r.k == 11) = false := by rw [e]; rfl
      have q12 : (r.k == 12) = false := by rw [e]; rfl
      have q13 : (r.k == 13) = false := by rw [e]; rfl
      have q14 : (r.k == 14) = false := by rw [e]; rfl
      clear e hk2
      have HF := Lib.hid (form_write HE.out)
      have h3 := HR.out.2.2.1
      go_wp2_with (go_at_call 47; refine (in_any _ _ _ _).mono ?_; rintro e w5 ⟨rfl, rfl⟩)
      all_goals go_ret
      all_goals refine ⟨ret_bool ?_, HB2.out⟩
      all_goals rw [HG.out, HF.out, Bool.eq_iff_iff]
      all_goals simp
      all_goals omega
    · have HE := Lib.hid e
      have q1 : (r.k == 1) = false := by rw [e]; rfl
      have q2 : (r.k == 2) = false := by rw [e]; rfl
      have q3 : (r.k == 3) = false := by rw [e]; rfl
      have q4 : (r.k == 4) = false := by rw [e]; rfl
      have q5 : (r.k == 5) = false := by rw [e]; rfl
      have q6 : (r.k == 6) = false := by rw [e]; rfl
      have q7 : (r.k == 7) = false := by rw [e]; rfl
      have q8 : (r.k == 8) = false := by rw [e]; rfl
      have q9 : (r.k == 9) = false := by rw [e]; rfl
      have q10 : (r.k == 10) = false := by rw [e]; rfl
      have q11 : (r.k == 11) = true := by rw [e]; rfl
      have q12 : (r.k == 12) = false := by rw [e]; rfl
      have q13 : (r.k == 13) = false := by rw [e]; rfl
      have q14 : (r.k == 14) = false := by rw [e]; rfl
      clear e hk2
      have HF := Lib.hid (form_tick (r := r) (by simp [HE.out]))
      have h3 := HR.out.2.2.1
      go_wp2_with (go_at_call 47; refine (in_any _ _ _ _).mono ?_; rintro e w5 ⟨rfl, rfl⟩)
      all_goals go_ret
      all_goals refine ⟨ret_bool ?_, HB2.out⟩
      all_goals rw [HG.out, HF.out, Bool.eq_iff_iff]
      all_goals simp
      all_goals omega
    · have HE := Lib.hid e
      have q1 : (r.k == 1) = false := by rw [e]; rfl
      have q2 : (r.k == 2) = false := by rw [e]; rfl
      have q3 : (r.k == 3) = false := by rw [e]; rfl
      have q4 : (r.k == 4) = false := by rw [e]; rfl
      have q5 : (r.k == 5) = false := by rw [e]; rfl
      have q6 : (r.k == 6) = false := by rw [e]; rfl
      have q7 : (r.k == 7) = false := by rw [e]; rfl
      have q8 : (r.k == 8) = false := by rw [e]; rfl
      have q9 : (r.k == 9) = false := by rw [e]; rfl
      have q10 : (r.k == 10) = false := by rw [e]; rfl
      have q11 : (r.k == 11) = false := by rw [e]; rfl
      have q12 : (r.k == 12) = true := by rw [e]; rfl
      have q13 : (r.k == 13) = false := by rw [e]; rfl
      have q14 : (r.k == 14) = false := by rw [e]; rfl
      clear e hk2
      have HF := Lib.hid (form_tick (r := r) (by simp [HE.out]))
      have h3 := HR.out.2.2.1
      go_wp2_with (go_at_call 47; refine (in_any _ _ _ _).mono ?_; rintro e w5 ⟨rfl, rfl⟩)
      all_goals go_ret
      all_goals refine ⟨ret_bool ?_, HB2.out⟩
      all_goals rw [HG.out, HF.out, Bool.eq_iff_iff]
      all_goals simp
      all_goals omega
    · exact absurd e HK.out
    · have HE := Lib.hid e
      have q1 : (r.k == 1) = false := by rw [e]; rfl
      have q2 : (r.k == 2) = false := by rw [e]; rfl
      have q3 : (r.k == 3) = false := by rw [e]; rfl
      have q4 : (r.k == 4) = false := by rw [e]; rfl
      have q5 : (r.k == 5) = false := by rw [e]; rfl
      have q6 : (r.k == 6) = false := by rw [e]; rfl
      have q7 : (r.k == 7) = false := by rw [e]; rfl
      have q8 : (r.k == 8) = false := by rw [e]; rfl
      have q9 : (r.k == 9) = false := by rw [e]; rfl
      have q10 : (r.k == 10) = false := by rw [e]; rfl
      have q11 : (r.k == 11) = false := by rw [e]; rfl
      have q12 : (r.k == 12) = false := by rw [e]; rfl
      have q13 : (r.k == 13) = false := by rw [e]; rfl
      have q14 : (r.k == 14) = true := by rw [e]; rfl
      clear e hk2
      have HF := Lib.hid (form_image HE.out)
      have h3 := HR.out.2.2.1
      go_wp2_with (go_at_call 47; refine (in_any _ _ _ _).mono ?_; rintro e w5 ⟨rfl, rfl⟩)
      all_goals go_ret
      all_goals refine ⟨ret_bool ?_, HB2.out⟩
      all_goals rw [HG.out, HF.out, Bool.eq_iff_iff]
      all_goals simp
      all_goals omega
  · have HF : Hid (formB r = false) := Lib.hid (by
      cases hf : formB r with
      | false => rfl
      | true => exact absurd (formB_kind hf) hk2)
    have q1 : (r.k == 1) = false := beq_eq_false_iff_ne.2 (by omega)
    have q2 : (r.k == 2) = false := beq_eq_false_iff_ne.2 (by omega)
    have q3 : (r.k == 3) = false := beq_eq_false_iff_ne.2 (by omega)
    have q4 : (r.k == 4) = false := beq_eq_false_iff_ne.2 (by omega)
    have q5 : (r.k == 5) = false := beq_eq_false_iff_ne.2 (by omega)
    have q6 : (r.k == 6) = false := beq_eq_false_iff_ne.2 (by omega)
    have q7 : (r.k == 7) = false := beq_eq_false_iff_ne.2 (by omega)
    have q8 : (r.k == 8) = false := beq_eq_false_iff_ne.2 (by omega)
    have q9 : (r.k == 9) = false := beq_eq_false_iff_ne.2 (by omega)
    have q10 : (r.k == 10) = false := beq_eq_false_iff_ne.2 (by omega)
    have q11 : (r.k == 11) = false := beq_eq_false_iff_ne.2 (by omega)
    have q12 : (r.k == 12) = false := beq_eq_false_iff_ne.2 (by omega)
    have q13 : (r.k == 13) = false := beq_eq_false_iff_ne.2 (by omega)
    have q14 : (r.k == 14) = false := beq_eq_false_iff_ne.2 (by omega)
    clear hk2
    go_wp2_with fail
    go_ret
    exact ⟨ret_bool (by rw [HG.out, HF.out]), HB2.out⟩
set_option maxHeartbeats 12800000 in
theorem rgood_13 (r : Rec) (h0 : 0 ≤ r.cl ∧ r.cl ≤ 7) (h : 1 ≤ r.sq ∧ r.sq ≤ 2147483647) (hs : sameB r (only r) = true) (hk : r.k = 13) (hr : Fit r) (oa : Option Addr) (n c : Nat) (hn : n = r.m.length) (w : World) (hm : MvAt w oa r.m) : Calls Tryd.prog 24 #[.agg #[.int .i64 r.cl, .int .i64 r.sq, .int .i64 r.k, .string r.p, .string r.t, .int .i64 r.sz, .int .i64 r.h, .int .i64 r.o, .string r.d, .int .i64 r.tk, .int .i64 r.i, .slice oa n c]] w (GoodPost r w) := by
  have HG := Lib.hid (good_yes (r := r) (decide_eq_true (by omega)) hs)
  have HR := Lib.hid hr
  have HN := Lib.hid hn
  have HM := Lib.hid hm
  have H0 := Lib.hid (below_alloc w (.cells #[.int .i64 r.cl, .int .i64 r.sq, .int .i64 r.k, .string r.p, .string r.t, .int .i64 r.sz, .int .i64 r.h, .int .i64 r.o, .string r.d, .int .i64 r.tk, .int .i64 r.i, .slice oa n c] 34))
  have HBX : Hid (OBox (w.alloc (.cells #[.int .i64 r.cl, .int .i64 r.sq, .int .i64 r.k, .string r.p, .string r.t, .int .i64 r.sz, .int .i64 r.h, .int .i64 r.o, .string r.d, .int .i64 r.tk, .int .i64 r.i, .slice oa n c] 34)) w.heap.size r (.slice oa n c)) := Lib.hid (heap_alloc_new w _)
  have HSB := Lib.hid hs
  have HK := Lib.hid hk
  clear hs hr hn hm hk
  go_enter Tryd.func24, Tryd.ntmps24
  go_wp2_with fail
  refine held_below (by kernel_rfl) (by kernel_rfl) ?_
  repeat first
    | (refine held_skip ?_ ?_; (· first | rfl | (go_simp; done)); simp only [Act.put, List.setIfInBounds_toArray, List.set_cons_zero, List.set_cons_succ])
    | (refine held_val (v := ?_) ?_ ?_ ?_
       rotate_left
       · first | rfl | (go_simp; done)
       · intro wq hq
         obtain ⟨e0, e1, e2, e3, e4, e5, e6, e7, e8, e9, e10, e11⟩ := (OBox.keep (HBX.out) hq).cells
         go_simp
         with_reducible rfl
       simp only [Act.put, List.setIfInBounds_toArray, List.set_cons_zero, List.set_cons_succ])
    | (refine held_call (v := ?_) (f := ?_) (args := ?_) ?_ ?_ ?_ ?_
       rotate_left 3
       · first | rfl | (go_simp; done)
       · intro wq
         go_simp
         constructor
         · rfl
         · rfl
       · intro wq hq
         first
           | (go_at_call 47
              refine (in_any _ _ _ _).mono ?_
              rintro e w4 ⟨he, rfl⟩
              (first | rw [decide_eq_true (by omega)] at he | rw [decide_eq_false (by omega)] at he)
              subst he
              constructor
              · rfl
              · exact hq)
           | (go_at_call 48
              refine (only_any r oa n c wq).mono ?_
              rintro e w4 ⟨rfl, hb4⟩
              constructor
              · rfl
              · exact bstep hq hb4)
           | (go_at_call 12
              (have hmv := HM.out.grow (bstep H0.out hq))
              refine (keep_is r (only r) _ HSB.out oa (onlyA r oa) n (onlyN r n) c (onlyN r c) HN.out (only_len r n HN.out) HR.out.2.2.2 (only_fit HR.out) wq hmv (only_mv r oa wq hmv)).mono ?_
              rintro e w4 ⟨rfl, hb4⟩
              constructor
              · rfl
              · exact bstep hq hb4)
       simp only [Act.put, List.setIfInBounds_toArray, List.set_cons_zero, List.set_cons_succ])
  refine held_nil ?_
  intro w2 hb2
  have HB2 := Lib.hid (bstep H0.out hb2)
  have HX2 := Lib.hid (HBX.out.keep hb2)
  obtain ⟨e0, e1, e2, e3, e4, e5, e6, e7, e8, e9, e10, e11⟩ := HX2.out.cells
  clear hb2 h0 h
  have q1 : (r.k == 1) = false := by rw [HK.out]; rfl
  have q2 : (r.k == 2) = false := by rw [HK.out]; rfl
  have q3 : (r.k == 3) = false := by rw [HK.out]; rfl
  have q4 : (r.k == 4) = false := by rw [HK.out]; rfl
  have q5 : (r.k == 5) = false := by rw [HK.out]; rfl
  have q6 : (r.k == 6) = false := by rw [HK.out]; rfl
  have q7 : (r.k == 7) = false := by rw [HK.out]; rfl
  have q8 : (r.k == 8) = false := by rw [HK.out]; rfl
  have q9 : (r.k == 9) = false := by rw [HK.out]; rfl
  have q10 : (r.k == 10) = false := by rw [HK.out]; rfl
  have q11 : (r.k == 11) = false := by rw [HK.out]; rfl
  have q12 : (r.k == 12) = false := by rw [HK.out]; rfl
  have q13 : (r.k == 13) = true := by rw [HK.out]; rfl
  have q14 : (r.k == 14) = false := by rw [HK.out]; rfl
  have HF := Lib.hid (form_move HK.out)
  have hnn : n ≤ 1000000 := by have := HN.out; have := HR.out.2.2.2; omega
  have hdd : r.d.size ≤ 1000000 := HR.out.2.2.1
  go_wp2_with (go_at_call 47; refine (in_any _ _ _ _).mono ?_; rintro e w5 ⟨rfl, rfl⟩)
  all_goals first
    | (go_ret
       refine ⟨ret_bool ?_, HB2.out⟩
       rw [HG.out, HF.out]
       symm
       rw [Bool.and_eq_false_iff]
       left
       exact decide_eq_false (by have := HN.out; omega))
    | skip
  have HD : Hid (decide (1 ≤ r.i ∧ r.i ≤ 2147483647 ∧ 1 ≤ r.m.length ∧ r.m.length ≤ 16 ∧ r.d.size ≤ 1024) = true) := Lib.hid (decide_eq_true (by have := HN.out; omega))
  have HRET : Hid (formB r = r.m.all (mvB r.d.size)) := Lib.hid (by rw [HF.out, HD.out]; simp)
  have HMW := Lib.hid (HM.out.grow HB2.out)
  clear q1 q2 q3 q4 q5 q6 q7 q8 q9 q10 q11 q12 q13 q14 e0 e1 e2 e3 e4 e5 e6 e7 e8 e9 e10 e11
  go_loopw [3] (fun i wr => ∃ k : Nat, k ≤ n ∧ i = .int .i64 (k : Int) ∧ (r.m.take k).all (mvB r.d.size) = true ∧ Below w2.heap.size w2 wr) (fun i _ => ((n : Int) - intOf i).toNat)
  case atStart => exact ⟨0, by omega, rfl, rfl, Below.refl _ _⟩
  case round =>
    obtain ⟨k, hk, rfl, hall, hbel⟩ := hrel
    have HB := Lib.hid hbel
    have HA := Lib.hid hall
    have hxx := HX2.out.keep hbel
    obtain ⟨e0, e1, e2, e3, e4, e5, e6, e7, e8, e9, e10, e11⟩ := hxx.cells
    clear hbel hall hxx e0 e1 e2 e3 e4 e5 e6 e7 e9 e10
    have hlb := World.block_lt_of_cell? _ _ e8
    by_cases hlt : k < n
    · obtain ⟨x, hx⟩ : ∃ x, r.m[k]? = some x := ⟨_, List.getElem?_eq_getElem (by have := HN.out; omega)⟩
      obtain ⟨a, rfl, hab, c0, c1, c2, c3⟩ := mv_cells (HMW.out.grow HB.out) hx
      have hk0 : (0 : Int) ≤ (k : Int) := by omega
      have hkl : (k : Int) < (n : Int) := by omega
      have z0 : (a.add (k * 4)).block < wr.heap.size := by rw [add_block]; exact hab
      have HYES : Hid (mvB r.d.size x = true → (r.m.take (k + 1)).all (mvB r.d.size) = true) := Lib.hid fun h => by rw [List.take_add_one, hx, List.all_append, HA.out]; simp [h]
      have HNO : Hid (mvB r.d.size x = false → goodB r = false) := Lib.hid fun h => by
        rw [HG.out, HRET.out, List.all_eq_false]
        exact ⟨x, List.mem_of_getElem? hx, by rw [h]; simp⟩
      clear hx
      go_wp2_with (go_at_call 47; refine (in_any _ _ _ _).mono ?_; rintro e w5 ⟨rfl, rfl⟩)
      all_goals first
        | (go_ret
           exact ⟨ret_bool (HNO.out (decide_eq_false (by omega))).symm, HB2.out.trans ((HB.out.trans ((below_alloc wr _).mono HB.out.size)).mono HB2.out.size)⟩)
        | exact ⟨⟨k + 1, by omega, by simp, HYES.out (decide_eq_true (by omega)), HB.out.trans ((below_alloc wr _).mono HB.out.size)⟩, by simp [intOf]; omega⟩
    · have hk1 : ¬ ((k : Int) < (n : Int)) := by omega
      have HE : Hid (r.m.all (mvB r.d.size) = true) := Lib.hid (by have := HA.out; rwa [List.take_of_length_le (by have := HN.out; omega)] at this)
      go_wp2_with fail
      go_ret
      exact ⟨ret_bool (by rw [HG.out, HRET.out, HE.out]), HB2.out.trans (HB.out.mono HB2.out.size)⟩
theorem rgood_any (r : Rec) (hr : Fit r) (oa : Option Addr) (n c : Nat) (hn : n = r.m.length) (w : World) (hm : MvAt w oa r.m) : Calls Tryd.prog 24 #[.agg #[.int .i64 r.cl, .int .i64 r.sq, .int .i64 r.k, .string r.p, .string r.t, .int .i64 r.sz, .int .i64 r.h, .int .i64 r.o, .string r.d, .int .i64 r.tk, .int .i64 r.i, .slice oa n c]] w (GoodPost r w) := by
  by_cases h0 : 0 ≤ r.cl ∧ r.cl ≤ 7
  · by_cases h : 1 ≤ r.sq ∧ r.sq ≤ 2147483647
    · cases hs : sameB r (only r) with
      | false => exact rgood_same r h0 h hs hr oa n c hn w hm
      | true =>
        by_cases hk : r.k = 13
        · exact rgood_13 r h0 h hs hk hr oa n c hn w hm
        · exact rgood_ok r h0 h hs hk hr oa n c hn w hm
    · exact rgood_sq r h0 h hr oa n c hn w hm
  · exact rgood_cl r h0 hr oa n c hn w hm
end Go.Proofs.YthnkpoagpjnopaaDoor.OpW
