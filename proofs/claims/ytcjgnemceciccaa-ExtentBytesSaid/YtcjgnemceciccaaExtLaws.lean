/- The laws of extent: Tells, Puts, Plans, Moves. -/
import Derived.Test.YtcjgnemceciccaaExtWakes
import Derived.Test.YtcjgnemceciccaaExtRef4
import Derived.Test.YtcjgnemceciccaaExtRef5
namespace Go.Proofs.Ytcjgnemceciccaa.ExtW
open Go.RowKit
theorem rend_is (oa : Option Addr) (n cap : Nat) (l : List Pt) (r : Int) (hr : endS l = r) (hn : n = l.length) (hl : l.length ≤ 9223372036854775807) (w : World) (h : PtsAt w.heap.size oa l w) :
    Calls Try.prog 15 #[.slice oa n cap] w fun e w' => e = .returned (.int .i64 r) ∧ Below w.heap.size w w' := by
  rw [← hr]; exact rend_any oa n cap l hn hl w h
theorem rcut_is2 (oa : Option Addr) (n cap : Nat) (l m : List Pt) (s : Int) (hm : cutS l s = m) (hn : n = l.length) (hs : -9223372036854775808 ≤ s ∧ s ≤ 9223372036854775807) (hl : l.length ≤ 9223372036854775807) (w : World) (h : PtsAt w.heap.size oa l w) :
    Calls Try.prog 18 #[.slice oa n cap, .int .i64 s] w fun e w' => ∃ oa2 cap2, e = .returned (.slice oa2 m.length cap2) ∧ PtsAt w'.heap.size oa2 m w' ∧ Below w.heap.size w w' := by
  subst hn; subst hm
  refine (rcut_any oa cap l s hs hl w h).mono ?_
  rintro e w' ⟨v, rfl, h1, h2⟩
  obtain ⟨oa2, cap2, rfl, _⟩ := h1.form
  exact ⟨oa2, cap2, rfl, h1.pts, h2⟩
theorem rput_is (oa : Option Addr) (n cap : Nat) (l m : List Pt) (x : Pt) (er : Int) (hm : putL l x = m) (he : putE l x = er) (hn : n = l.length) (hl : l.length ≤ 9223372036854775807) (w : World) (h : PtsAt w.heap.size oa l w) :
    Calls Try.prog 20 #[.slice oa n cap, .agg #[.int .i64 x.o, .int .i64 x.n, .int .i64 x.a, .int .i64 x.f]] w fun e w' => ∃ oa2 cap2, e = .returned (.tuple #[.slice oa2 m.length cap2, .int .i64 er]) ∧ PtsAt w'.heap.size oa2 m w' ∧ Below w.heap.size w w' := by
  subst hn; subst hm; subst he
  refine (rput_any oa cap l x hl w h).mono ?_
  rintro e w' ⟨v, rfl, h1, h2⟩
  obtain ⟨oa2, cap2, rfl, _⟩ := h1.form
  exact ⟨oa2, cap2, rfl, h1.pts, h2⟩
theorem rmove_is (oa : Option Addr) (n cap : Nat) (l m : List Pt) (ma mf mn mt tt er : Int) (hm : moveL l ma mf mn mt tt = m) (he : moveE l ma mf mn mt tt = er) (hn : n = l.length) (hl : l.length ≤ 9223372036854775807) (w : World) (h : PtsAt w.heap.size oa l w) :
    Calls Try.prog 24 #[.slice oa n cap, .agg #[.int .i64 ma, .int .i64 mf, .int .i64 mn, .int .i64 mt], .int .i64 tt] w fun e w' => ∃ oa2 cap2, e = .returned (.tuple #[.slice oa2 m.length cap2, .int .i64 er]) ∧ PtsAt w'.heap.size oa2 m w' ∧ Below w.heap.size w w' := by
  subst hn; subst hm; subst he
  refine (rmove_any oa cap l ma mf mn mt tt hl w h).mono ?_
  rintro e w' ⟨v, rfl, h1, h2⟩
  obtain ⟨oa2, cap2, rfl, _⟩ := h1.form
  exact ⟨oa2, cap2, rfl, h1.pts, h2⟩
theorem rplan_is (oa : Option Addr) (n cap : Nat) (l m : List Pt) (off k : Int) (hm : planS l off k = m) (hn : n = l.length) (hl : l.length ≤ 9223372036854775807) (w : World) (h : PtsAt w.heap.size oa l w) :
    Calls Try.prog 22 #[.slice oa n cap, .int .i64 off, .int .i64 k] w fun e w' => ∃ oa2 cap2, e = .returned (.slice oa2 m.length cap2) ∧ PtsAt w'.heap.size oa2 m w' ∧ Below w.heap.size w w' := by
  subst hn; subst hm
  refine (rplan_any oa cap l off k hl w h).mono ?_
  rintro e w' ⟨v, rfl, h1, h2⟩
  obtain ⟨oa2, cap2, rfl, _⟩ := h1.form
  exact ⟨oa2, cap2, rfl, h1.pts, h2⟩
theorem fewL_len (l : List Pt) : (fewL l).length ≤ 64 := by
  unfold fewL; split
  · simp
  · omega
theorem putL_len (l : List Pt) (x : Pt) : (putL l x).length ≤ 64 := by
  unfold putL; split
  · split
    · exact fewL_len _
    · simp
  · simp
theorem moveL_len (l : List Pt) (ma mf mn mt tt : Int) : (moveL l ma mf mn mt tt).length ≤ 64 := by
  unfold moveL; split
  · split
    · exact fewL_len _
    · simp
  · simp
theorem cutS_len (l : List Pt) (s : Int) : (cutS l s).length ≤ 64 := by
  unfold cutS; split
  · rename_i h; exact Nat.le_trans (cut_len l s) h.1
  · simp
theorem planS_len (l : List Pt) (off n : Int) : (planS l off n).length ≤ 129 := by
  unfold planS; split
  · rename_i h
    split
    · unfold planL planF
      have h1 := plan_len off (off + n) l [] off
      have h2 := h.1
      have : ∀ a b, (holeL a b).length ≤ 1 := fun a b => by unfold holeL; split <;> simp
      have := this (l.foldl (planStep off (off + n)) ([], off)).2 (off + n)
      simp only [List.length_append, List.length_nil] at *
      omega
    · simp
  · simp
set_option maxHeartbeats 1600000 in
theorem tells_walk (oa : Option Addr) (cap : Nat) (l : List Pt) (hl : l.length ≤ maxLen) (s : Int) (hs : (Lit.int .i64 s).wf = true) (w : World) (h : Came w oa cap l) :
    Calls Try.prog 3 #[.slice oa l.length cap, .int .i64 s] w fun e w' => e = .returned (.bool true) ∧ Below w.heap.size w w' := by
  unfold maxLen at hl
  have HSB := Lib.hid (i64_bd' hs)
  have HC := Lib.hid h
  clear h hs
  by_cases hbig : 200 < l.length
  · go_enter Try.func3, Try.ntmps3
    go_wp2_with (go_at_call 10; refine (wakes_any _).mono ?_; rintro e w1 ⟨rfl, hb⟩)
    go_ret
    exact ⟨rfl, hb⟩
  · have hl2 : l.length ≤ 200 := by omega
    obtain ⟨m, hm⟩ : ∃ m, cutS l s = m := ⟨_, rfl⟩
    have hml : m.length ≤ 64 := by rw [← hm]; exact cutS_len l s
    obtain ⟨b, hb0⟩ : ∃ b, decide (Good l) = b := ⟨_, rfl⟩
    obtain ⟨r, hr⟩ : ∃ r, endS l = r := ⟨_, rfl⟩
    have HM := Lib.hid hm
    have HBG := Lib.hid hb0
    have HE := Lib.hid hr
    have tok1 : True := trivial
    clear hm hb0 hr hl
    go_enter Try.func3, Try.ntmps3
    go_wp2_with (first
      | (go_at_call 11; go_loud (refine (few_any _ _ l (by omega) HC.out.nil _ HC.out.pts).mono ?_; rintro e w1 ⟨oa1, cap1, rfl, hr1, hb1⟩; have HI := Lib.hid hr1.pts; have HL := Lib.hid (HC.out.pts.grow hb1); have HB := Lib.hid hb1; clear hr1 hb1))
      | (go_at_call 12; go_loud (refine (good_is2 _ _ _ l b HBG.out rfl (by omega) _ HI.out).mono ?_; rintro e w2 ⟨rfl, hb2⟩; replace HI := Lib.hid (HI.out.grow hb2); replace HL := Lib.hid (HL.out.grow hb2); replace HB := Lib.hid (bstep HB.out hb2); clear hb2))
      | (go_at_call 13; go_loud (refine (rgood_is _ _ _ l b HBG.out rfl (by omega) _ HL.out).mono ?_; rintro e w2 ⟨rfl, hb2⟩; replace HI := Lib.hid (HI.out.grow hb2); replace HL := Lib.hid (HL.out.grow hb2); replace HB := Lib.hid (bstep HB.out hb2); clear hb2))
      | (go_at_call 14; go_loud (refine (end_is _ _ _ l r HE.out rfl (by omega) _ HI.out).mono ?_; rintro e w2 ⟨rfl, hb2⟩; replace HI := Lib.hid (HI.out.grow hb2); replace HL := Lib.hid (HL.out.grow hb2); replace HB := Lib.hid (bstep HB.out hb2); clear hb2))
      | (go_at_call 15; go_loud (refine (rend_is _ _ _ l r HE.out rfl (by omega) _ HL.out).mono ?_; rintro e w2 ⟨rfl, hb2⟩; replace HI := Lib.hid (HI.out.grow hb2); replace HL := Lib.hid (HL.out.grow hb2); replace HB := Lib.hid (bstep HB.out hb2); clear hb2))
      | (go_at_call 17; go_loud (refine (cut_is2 _ _ _ l m s HM.out rfl HSB.out (by omega) _ HI.out).mono ?_; rintro e w2 ⟨oa2, cap2, rfl, _, hp2, hb2⟩; have HX := Lib.hid hp2; replace HI := Lib.hid (HI.out.grow hb2); replace HL := Lib.hid (HL.out.grow hb2); replace HB := Lib.hid (bstep HB.out hb2); clear hb2 hp2))
      | (go_at_call 18; go_loud (refine (rcut_is2 _ _ _ l m s HM.out rfl HSB.out (by omega) _ HL.out).mono ?_; rintro e w2 ⟨oa3, cap3, rfl, hp2, hb2⟩; have HY := Lib.hid hp2; replace HX := Lib.hid (HX.out.grow hb2); replace HI := Lib.hid (HI.out.grow hb2); replace HL := Lib.hid (HL.out.grow hb2); replace HB := Lib.hid (bstep HB.out hb2); clear hb2 hp2))
      | (go_at_call 16; have _t := tok1; clear _t tok1; go_loud (refine (parts_same _ _ _ _ _ _ m rfl rfl (by omega) _ HX.out HY.out).mono ?_; rintro e w2 ⟨rfl, hb2⟩; replace HI := Lib.hid (HI.out.grow hb2); replace HL := Lib.hid (HL.out.grow hb2); replace HB := Lib.hid (bstep HB.out hb2); clear hb2; have tok2 : True := trivial))
      | (go_at_call 16; have _t := tok2; clear _t tok2; go_loud (refine (parts_same _ _ _ _ _ _ l rfl rfl (by omega) _ HI.out HL.out).mono ?_; rintro e w2 ⟨rfl, hb2⟩; replace HB := Lib.hid (bstep HB.out hb2); clear hb2))
      | (go_at_call 10; refine (wakes_any _).mono ?_; rintro e w9 ⟨rfl, hb9⟩; have HB9 := Lib.hid (bstep HB.out hb9); clear hb9))
    go_ret
    exact ⟨rfl, HB9.out⟩
set_option maxHeartbeats 1600000 in
theorem puts_walk (oa : Option Addr) (cap : Nat) (l : List Pt) (hl : l.length ≤ maxLen) (x : Pt) (w : World) (h : Came w oa cap l) (_ : True) :
    Calls Try.prog 4 #[.slice oa l.length cap, .agg #[.int .i64 x.o, .int .i64 x.n, .int .i64 x.a, .int .i64 x.f]] w fun e w' => e = .returned (.bool true) ∧ Below w.heap.size w w' := by
  unfold maxLen at hl
  have HC := Lib.hid h
  clear h
  by_cases hbig : 200 < l.length
  · go_enter Try.func4, Try.ntmps4
    go_wp2_with (go_at_call 10; refine (wakes_any _).mono ?_; rintro e w1 ⟨rfl, hb⟩)
    go_ret
    exact ⟨rfl, (below_alloc w _).trans (hb.mono (by simp))⟩
  · have hl2 : l.length ≤ 200 := by omega
    obtain ⟨m, hm⟩ : ∃ m, putL l x = m := ⟨_, rfl⟩
    have hml : m.length ≤ 64 := by rw [← hm]; exact putL_len l x
    obtain ⟨r, hr⟩ : ∃ r, putE l x = r := ⟨_, rfl⟩
    have HM := Lib.hid hm
    have HE := Lib.hid hr
    have tok1 : True := trivial
    clear hm hr hl
    go_enter Try.func4, Try.ntmps4
    have HP0 := Lib.hid (HC.out.pts.grow (below_alloc w (.cells #[.int .i64 x.o, .int .i64 x.n, .int .i64 x.a, .int .i64 x.f] 31)))
    have HBX := Lib.hid (Box.made w x)
    go_wp2_with (first
      | (go_at_call 11; go_loud (refine (few_any _ _ l (by omega) HC.out.nil _ HP0.out).mono ?_; rintro e w1 ⟨oa1, cap1, rfl, hr1, hb1⟩; have HI := Lib.hid hr1.pts; have HL := Lib.hid (HP0.out.grow hb1); have HB := Lib.hid (bstep (below_alloc w _) hb1); have HBX1 := Lib.hid (HBX.out.grow hb1); clear hr1 hb1; obtain ⟨p0, p1, p2, p3⟩ := HBX1.out.cells))
      | (go_at_call 19; go_loud (refine (put_is _ _ _ l m x r HM.out HE.out rfl (by omega) _ HI.out).mono ?_; rintro e w2 ⟨oa2, cap2, rfl, _, hp2, hb2⟩; have HX := Lib.hid hp2; replace HI := Lib.hid (HI.out.grow hb2); replace HL := Lib.hid (HL.out.grow hb2); replace HB := Lib.hid (bstep HB.out hb2); have HBX2 := Lib.hid (HBX1.out.grow hb2); clear hb2 hp2 p0 p1 p2 p3; obtain ⟨p0, p1, p2, p3⟩ := HBX2.out.cells))
      | (go_at_call 20; go_loud (refine (rput_is _ _ _ l m x r HM.out HE.out rfl (by omega) _ HL.out).mono ?_; rintro e w3 ⟨oa3, cap3, rfl, hp2, hb2⟩; have HY := Lib.hid hp2; replace HX := Lib.hid (HX.out.grow hb2); replace HI := Lib.hid (HI.out.grow hb2); replace HL := Lib.hid (HL.out.grow hb2); replace HB := Lib.hid (bstep HB.out hb2); clear hb2 hp2))
      | (go_at_call 16; have _t := tok1; clear _t tok1; go_loud (refine (parts_same _ _ _ _ _ _ m rfl rfl (by omega) _ HX.out HY.out).mono ?_; rintro e w2 ⟨rfl, hb2⟩; replace HI := Lib.hid (HI.out.grow hb2); replace HL := Lib.hid (HL.out.grow hb2); replace HB := Lib.hid (bstep HB.out hb2); clear hb2; have tok2 : True := trivial))
      | (go_at_call 16; have _t := tok2; clear _t tok2; go_loud (refine (parts_same _ _ _ _ _ _ l rfl rfl (by omega) _ HI.out HL.out).mono ?_; rintro e w2 ⟨rfl, hb2⟩; replace HB := Lib.hid (bstep HB.out hb2); clear hb2))
      | (go_at_call 10; refine (wakes_any _).mono ?_; rintro e w9 ⟨rfl, hb9⟩; have HB9 := Lib.hid (bstep HB.out hb9); clear hb9))
    go_ret
    exact ⟨rfl, HB9.out⟩
set_option maxHeartbeats 1600000 in
theorem plans_walk (oa : Option Addr) (cap : Nat) (l : List Pt) (hl : l.length ≤ maxLen) (off : Int) (_ : (Lit.int .i64 off).wf = true) (k : Int) (_ : (Lit.int .i64 k).wf = true) (w : World) (h : Came w oa cap l) :
    Calls Try.prog 5 #[.slice oa l.length cap, .int .i64 off, .int .i64 k] w fun e w' => e = .returned (.bool true) ∧ Below w.heap.size w w' := by
  unfold maxLen at hl
  have HC := Lib.hid h
  clear h
  by_cases hbig : 200 < l.length
  · go_enter Try.func5, Try.ntmps5
    go_wp2_with (go_at_call 10; refine (wakes_any _).mono ?_; rintro e w1 ⟨rfl, hb⟩)
    go_ret
    exact ⟨rfl, hb⟩
  · have hl2 : l.length ≤ 200 := by omega
    obtain ⟨m, hm⟩ : ∃ m, planS l off k = m := ⟨_, rfl⟩
    have hml : m.length ≤ 129 := by rw [← hm]; exact planS_len l off k
    have HM := Lib.hid hm
    have tok1 : True := trivial
    clear hm hl
    go_enter Try.func5, Try.ntmps5
    go_wp2_with (first
      | (go_at_call 11; go_loud (refine (few_any _ _ l (by omega) HC.out.nil _ HC.out.pts).mono ?_; rintro e w1 ⟨oa1, cap1, rfl, hr1, hb1⟩; have HI := Lib.hid hr1.pts; have HL := Lib.hid (HC.out.pts.grow hb1); have HB := Lib.hid hb1; clear hr1 hb1))
      | (go_at_call 21; go_loud (refine (plan_is _ _ _ l m off k HM.out rfl (by omega) _ HI.out).mono ?_; rintro e w2 ⟨oa2, cap2, rfl, _, hp2, hb2⟩; have HX := Lib.hid hp2; replace HI := Lib.hid (HI.out.grow hb2); replace HL := Lib.hid (HL.out.grow hb2); replace HB := Lib.hid (bstep HB.out hb2); clear hb2 hp2))
      | (go_at_call 22; go_loud (refine (rplan_is _ _ _ l m off k HM.out rfl (by omega) _ HL.out).mono ?_; rintro e w3 ⟨oa3, cap3, rfl, hp2, hb2⟩; have HY := Lib.hid hp2; replace HX := Lib.hid (HX.out.grow hb2); replace HI := Lib.hid (HI.out.grow hb2); replace HL := Lib.hid (HL.out.grow hb2); replace HB := Lib.hid (bstep HB.out hb2); clear hb2 hp2))
      | (go_at_call 16; have _t := tok1; clear _t tok1; go_loud (refine (parts_same _ _ _ _ _ _ m rfl rfl (by omega) _ HX.out HY.out).mono ?_; rintro e w2 ⟨rfl, hb2⟩; replace HI := Lib.hid (HI.out.grow hb2); replace HL := Lib.hid (HL.out.grow hb2); replace HB := Lib.hid (bstep HB.out hb2); clear hb2; have tok2 : True := trivial))
      | (go_at_call 16; have _t := tok2; clear _t tok2; go_loud (refine (parts_same _ _ _ _ _ _ l rfl rfl (by omega) _ HI.out HL.out).mono ?_; rintro e w2 ⟨rfl, hb2⟩; replace HB := Lib.hid (bstep HB.out hb2); clear hb2))
      | (go_at_call 10; refine (wakes_any _).mono ?_; rintro e w9 ⟨rfl, hb9⟩; have HB9 := Lib.hid (bstep HB.out hb9); clear hb9))
    go_ret
    exact ⟨rfl, HB9.out⟩
set_option maxHeartbeats 1600000 in
theorem moves_walk (oa : Option Addr) (cap : Nat) (l : List Pt) (hl : l.length ≤ maxLen) (ma mf mn mt : Int) (hmf : (Lit.int .i64 mf).wf = true) (tt : Int) (_ : (Lit.int .i64 tt).wf = true) (w : World) (h : Came w oa cap l) :
    Calls Try.prog 6 #[.slice oa l.length cap, .agg #[.int .i64 ma, .int .i64 mf, .int .i64 mn, .int .i64 mt], .int .i64 tt] w fun e w' => e = .returned (.bool true) ∧ Below w.heap.size w w' := by
  unfold maxLen at hl
  have HMF := Lib.hid (i64_bd' hmf)
  have HC := Lib.hid h
  clear h hmf
  by_cases hbig : 200 < l.length
  · go_enter Try.func6, Try.ntmps6
    go_wp2_with (go_at_call 10; refine (wakes_any _).mono ?_; rintro e w1 ⟨rfl, hb⟩)
    go_ret
    exact ⟨rfl, (below_alloc w _).trans (hb.mono (by simp))⟩
  · have hl2 : l.length ≤ 200 := by omega
    obtain ⟨m, hm⟩ : ∃ m, moveL l ma mf mn mt tt = m := ⟨_, rfl⟩
    have hml : m.length ≤ 64 := by rw [← hm]; exact moveL_len l ma mf mn mt tt
    obtain ⟨r, hr⟩ : ∃ r, moveE l ma mf mn mt tt = r := ⟨_, rfl⟩
    have HM := Lib.hid hm
    have HE := Lib.hid hr
    have tok1 : True := trivial
    have HP0 := Lib.hid (HC.out.pts.grow (below_alloc w (.cells #[.int .i64 ma, .int .i64 mf, .int .i64 mn, .int .i64 mt] 41)))
    have HBX := Lib.hid (MBox.made w ma mf mn mt)
    clear hm hr hl
    go_enter Try.func6, Try.ntmps6
    go_wp2_with (first
      | (go_at_call 11; go_loud (refine (few_any _ _ l (by omega) HC.out.nil _ HP0.out).mono ?_; rintro e w1 ⟨oa1, cap1, rfl, hr1, hb1⟩; have HI := Lib.hid hr1.pts; have HL := Lib.hid (HP0.out.grow hb1); have HB := Lib.hid (bstep (below_alloc w _) hb1); have HBX1 := Lib.hid (HBX.out.grow hb1); clear hr1 hb1; obtain ⟨p0, p1, p2, p3⟩ := HBX1.out.cells))
      | (go_at_call 23; go_loud (refine (move_is _ _ _ l m ma mf mn mt tt r HM.out HE.out rfl HMF.out (by omega) _ HI.out).mono ?_; rintro e w2 ⟨oa2, cap2, rfl, _, hp2, hb2⟩; have HX := Lib.hid hp2; replace HI := Lib.hid (HI.out.grow hb2); replace HL := Lib.hid (HL.out.grow hb2); replace HB := Lib.hid (bstep HB.out hb2); have HBX2 := Lib.hid (HBX1.out.grow hb2); clear hb2 hp2 p0 p1 p2 p3; obtain ⟨p0, p1, p2, p3⟩ := HBX2.out.cells))
      | (go_at_call 24; go_loud (refine (rmove_is _ _ _ l m ma mf mn mt tt r HM.out HE.out rfl (by omega) _ HL.out).mono ?_; rintro e w3 ⟨oa3, cap3, rfl, hp2, hb2⟩; have HY := Lib.hid hp2; replace HX := Lib.hid (HX.out.grow hb2); replace HI := Lib.hid (HI.out.grow hb2); replace HL := Lib.hid (HL.out.grow hb2); replace HB := Lib.hid (bstep HB.out hb2); clear hb2 hp2))
      | (go_at_call 16; have _t := tok1; clear _t tok1; go_loud (refine (parts_same _ _ _ _ _ _ m rfl rfl (by omega) _ HX.out HY.out).mono ?_; rintro e w2 ⟨rfl, hb2⟩; replace HI := Lib.hid (HI.out.grow hb2); replace HL := Lib.hid (HL.out.grow hb2); replace HB := Lib.hid (bstep HB.out hb2); clear hb2; have tok2 : True := trivial))
      | (go_at_call 16; have _t := tok2; clear _t tok2; go_loud (refine (parts_same _ _ _ _ _ _ l rfl rfl (by omega) _ HI.out HL.out).mono ?_; rintro e w2 ⟨rfl, hb2⟩; replace HB := Lib.hid (bstep HB.out hb2); clear hb2))
      | (go_at_call 10; refine (wakes_any _).mono ?_; rintro e w9 ⟨rfl, hb9⟩; have HB9 := Lib.hid (bstep HB.out hb9); clear hb9))
    go_ret
    exact ⟨rfl, HB9.out⟩
end Go.Proofs.Ytcjgnemceciccaa.ExtW
