/- op.Good: has a record a form? -/
import Derived.Test.YthnkpoagpjnopaaDoorOpMoves
import Derived.Test.YthnkpoagpjnopaaDoorOpKeep
import Derived.Laws.EntriesVeiled
namespace Go.Proofs.YthnkpoagpjnopaaDoor.OpW
set_option maxRecDepth 100000
open Go.RowKit OpP
theorem formsSize : (Tryd.prog.info? 99).map (·.size) = some 15 := by kernel_rfl
def formsV (z : Value) (p : Nat) : Array Value := #[z, .func (.func 63) #[] #[], .func (.func 63) #[] #[], .func (.func 63) #[] #[], .func (.func 65) #[] #[], .func (.func 63) #[] #[], .func (.func 65) #[] #[],
      .func (.func 67) #[] #[.pointer (some ⟨p, 0, none⟩)], .func (.func 63) #[] #[], .func (.func 68) #[] #[], .func (.func 69) #[] #[], .func (.func 66) #[] #[], .func (.func 66) #[] #[], .func (.func 70) #[] #[], .func (.func 73) #[] #[]]
set_option maxHeartbeats 800000 in
theorem forms_any (w : World) : Calls Tryd.prog 44 #[] w fun e w' => e = .returned (.agg (formsV .nilFunc (w.heap.size + 1))) ∧
    w'.cell? ⟨w.heap.size + 1, 0, none⟩ = some (.func (.func 63) #[] #[]) ∧ Below w.heap.size w w' := by
  have hmf : ∀ (fn : Fn) (first cap : Array Value) (w : World), (Instr.makeFunc fn first cap).run Tryd.prog w = .ok (.func fn first cap) w := fun _ _ _ _ => rfl
  go_enter Tryd.func44, Tryd.ntmps44
  go_wp2_with fail
  refine ret_row1 (p := 0) rfl rfl rfl ((heap_alloc_old _ _ (by simp)).trans (heap_alloc_new w _)) Tryd.underlying99 rfl formsSize ?_
  exact ⟨rfl, by rw [Lib.cell_of_heap (heap_alloc2_new w _ _)]; rfl, two_new' w _ _⟩
/-- the closure of a kind, and what it tells -/
def FormIs (k : Int) (p : Nat) (K : FuncId) (C : Array Value) : Prop := ∀ (r : Rec) (oa : Option Addr) (n c : Nat) (W : World), r.k = k → Fit r → n = r.m.length → MvAt W oa r.m → W.cell? ⟨p, 0, none⟩ = some (.func (.func 63) #[] #[]) →
  Calls Tryd.prog K (#[.agg #[.int .i64 r.cl, .int .i64 r.sq, .int .i64 r.k, .string r.p, .string r.t, .int .i64 r.sz, .int .i64 r.h, .int .i64 r.o, .string r.d, .int .i64 r.tk, .int .i64 r.i, .slice oa n c]] ++ C) W (FormPost r W)
theorem form_at (k : Int) (hk : 1 ≤ k ∧ k ≤ 14) (z : Value) (p : Nat) : ∃ K C, (C = #[] ∨ C = #[.pointer (some ⟨p, 0, none⟩)]) ∧ (∀ W : World, (Instr.index 99 (.agg (formsV z p)) (.int .i64 k)).run Tryd.prog W = .ok (.func (.func K) #[] C) W) ∧ (∀ (args : Array Value) (W : World), (callFunc K args).run Tryd.prog W = .ok (.enter K args) W) ∧ FormIs k p K C := by
  rcases kinds k hk with rfl | rfl | rfl | rfl | rfl | rfl | rfl | rfl | rfl | rfl | rfl | rfl | rfl | rfl
  · exact ⟨_, _, .inl rfl, fun _ => by kernel_rfl, fun _ _ => by go_simp, fun r oa n c W e hr _ _ _ => one_k r (by simp [e]) hr _ W⟩
  · exact ⟨_, _, .inl rfl, fun _ => by kernel_rfl, fun _ _ => by go_simp, fun r oa n c W e hr _ _ _ => one_k r (by simp [e]) hr _ W⟩
  · exact ⟨_, _, .inl rfl, fun _ => by kernel_rfl, fun _ _ => by go_simp, fun r oa n c W e hr _ _ _ => one_k r (by simp [e]) hr _ W⟩
  · exact ⟨_, _, .inl rfl, fun _ => by kernel_rfl, fun _ _ => by go_simp, fun r oa n c W e hr _ _ _ => both_k r (by simp [e]) hr _ W⟩
  · exact ⟨_, _, .inl rfl, fun _ => by kernel_rfl, fun _ _ => by go_simp, fun r oa n c W e hr _ _ _ => one_k r (by simp [e]) hr _ W⟩
  · exact ⟨_, _, .inl rfl, fun _ => by kernel_rfl, fun _ _ => by go_simp, fun r oa n c W e hr _ _ _ => both_k r (by simp [e]) hr _ W⟩
  · exact ⟨_, _, .inr rfl, fun _ => by kernel_rfl, fun _ _ => by go_simp, fun r oa n c W e hr _ _ hc => cut_k r e hr _ p W hc⟩
  · exact ⟨_, _, .inl rfl, fun _ => by kernel_rfl, fun _ _ => by go_simp, fun r oa n c W e hr _ _ _ => one_k r (by simp [e]) hr _ W⟩
  · exact ⟨_, _, .inl rfl, fun _ => by kernel_rfl, fun _ _ => by go_simp, fun r oa n c W e _ _ _ _ => close_k r e _ W⟩
  · exact ⟨_, _, .inl rfl, fun _ => by kernel_rfl, fun _ _ => by go_simp, fun r oa n c W e hr _ _ _ => write_k r e hr _ W⟩
  · exact ⟨_, _, .inl rfl, fun _ => by kernel_rfl, fun _ _ => by go_simp, fun r oa n c W e _ _ _ _ => tick_k r (by simp [e]) _ W⟩
  · exact ⟨_, _, .inl rfl, fun _ => by kernel_rfl, fun _ _ => by go_simp, fun r oa n c W e _ _ _ _ => tick_k r (by simp [e]) _ W⟩
  · exact ⟨_, _, .inl rfl, fun _ => by kernel_rfl, fun _ _ => by go_simp, fun r oa n c W e hr hn hm _ => move_k r e hr oa n c hn W hm⟩
  · exact ⟨_, _, .inl rfl, fun _ => by kernel_rfl, fun _ _ => by go_simp, fun r oa n c W e hr _ _ _ => image_k r e hr _ W⟩
theorem only_fit {r : Rec} (h : Fit r) : (only r).m.length ≤ 1000000 := by
  unfold only
  cases hasM r.k with
  | true => exact h.2.2.2
  | false => simp
theorem FormIs.nil {k : Int} {p : Nat} {K : FuncId} (h : FormIs k p K #[]) (r : Rec) (oa : Option Addr) (n c : Nat) (W : World) (e : r.k = k) (hr : Fit r) (hn : n = r.m.length) (hm : MvAt W oa r.m) (hc : W.cell? ⟨p, 0, none⟩ = some (.func (.func 63) #[] #[])) :
    Calls Tryd.prog K #[.agg #[.int .i64 r.cl, .int .i64 r.sq, .int .i64 r.k, .string r.p, .string r.t, .int .i64 r.sz, .int .i64 r.h, .int .i64 r.o, .string r.d, .int .i64 r.tk, .int .i64 r.i, .slice oa n c]] W (FormPost r W) := h r oa n c W e hr hn hm hc
theorem FormIs.one {k : Int} {p : Nat} {K : FuncId} {v : Value} (h : FormIs k p K #[v]) (r : Rec) (oa : Option Addr) (n c : Nat) (W : World) (e : r.k = k) (hr : Fit r) (hn : n = r.m.length) (hm : MvAt W oa r.m) (hc : W.cell? ⟨p, 0, none⟩ = some (.func (.func 63) #[] #[])) :
    Calls Tryd.prog K #[.agg #[.int .i64 r.cl, .int .i64 r.sq, .int .i64 r.k, .string r.p, .string r.t, .int .i64 r.sz, .int .i64 r.h, .int .i64 r.o, .string r.d, .int .i64 r.tk, .int .i64 r.i, .slice oa n c], v] W (FormPost r W) := h r oa n c W e hr hn hm hc
def GoodPost (r : Rec) (w : World) (e : Ending) (w' : World) : Prop := e = .returned (.bool (goodB r)) ∧ Below w.heap.size w w'
theorem good_head {r : Rec} (h : ¬ (1 ≤ r.k ∧ r.k ≤ 14 ∧ 0 ≤ r.cl ∧ r.cl ≤ 7 ∧ 1 ≤ r.sq ∧ r.sq ≤ 2147483647)) : goodB r = false := by
  unfold goodB
  cases hf : formB r with
  | false => rw [Bool.and_false]; rfl
  | true =>
    have hk := formB_kind hf
    have : headB r = false := decide_eq_false (by omega)
    rw [this]; rfl
set_option maxHeartbeats 1600000 in
theorem good_bad (r : Rec) (h : ¬ (1 ≤ r.k ∧ r.k ≤ 14 ∧ 0 ≤ r.cl ∧ r.cl ≤ 7 ∧ 1 ≤ r.sq ∧ r.sq ≤ 2147483647)) (v : Value) (w : World) : Calls Tryd.prog 22 #[.agg #[.int .i64 r.cl, .int .i64 r.sq, .int .i64 r.k, .string r.p, .string r.t, .int .i64 r.sz, .int .i64 r.h, .int .i64 r.o, .string r.d, .int .i64 r.tk, .int .i64 r.i, v]] w (GoodPost r w) := by
  have HG := Lib.hid (good_head h)
  have HH := Lib.hid h
  have H0 := Lib.hid (below_alloc w (.cells #[.int .i64 r.cl, .int .i64 r.sq, .int .i64 r.k, .string r.p, .string r.t, .int .i64 r.sz, .int .i64 r.h, .int .i64 r.o, .string r.d, .int .i64 r.tk, .int .i64 r.i, v] 34))
  clear h
  go_enter Tryd.func22, Tryd.ntmps22
  go_wp2_with (first
    | (go_at_call 42; refine (known_any _ _).mono ?_; rintro e w2 ⟨rfl, rfl⟩)
    | (go_at_call 43; refine (within_any _ _ _ _).mono ?_; rintro e w2 ⟨rfl, rfl⟩))
  all_goals first
    | (exfalso; have hh := HH.out; simp only [Bool.not_eq_false', decide_eq_true_eq] at *; omega)
    | skip
  all_goals go_ret
  all_goals exact ⟨ret_bool HG.out.symm, H0.out⟩
set_option maxHeartbeats 3200000 in
theorem good_ok (r : Rec) (h : 1 ≤ r.k ∧ r.k ≤ 14 ∧ 0 ≤ r.cl ∧ r.cl ≤ 7 ∧ 1 ≤ r.sq ∧ r.sq ≤ 2147483647) (hr : Fit r) (oa : Option Addr) (n c : Nat) (hn : n = r.m.length) (w : World) (hf : Fl w) (hm : MvAt w oa r.m) : Calls Tryd.prog 22 #[.agg #[.int .i64 r.cl, .int .i64 r.sq, .int .i64 r.k, .string r.p, .string r.t, .int .i64 r.sz, .int .i64 r.h, .int .i64 r.o, .string r.d, .int .i64 r.tk, .int .i64 r.i, .slice oa n c]] w (GoodPost r w) := by
  obtain ⟨k1, k2, c1, c2, s1, s2⟩ := h
  have q1 : decide (1 ≤ r.k) = true := decide_eq_true k1
  have q2 : decide (r.k ≤ 14) = true := decide_eq_true k2
  have q3 : decide (0 ≤ r.cl) = true := decide_eq_true c1
  have q4 : decide (r.cl ≤ 7) = true := decide_eq_true c2
  have q5 : decide (1 ≤ r.sq) = true := decide_eq_true s1
  have q6 : decide (r.sq ≤ 2147483647) = true := decide_eq_true s2
  have HR := Lib.hid hr
  have HN := Lib.hid hn
  have HF := Lib.hid hf
  have HM := Lib.hid hm
  have H0 := Lib.hid (below_alloc w (.cells #[.int .i64 r.cl, .int .i64 r.sq, .int .i64 r.k, .string r.p, .string r.t, .int .i64 r.sz, .int .i64 r.h, .int .i64 r.o, .string r.d, .int .i64 r.tk, .int .i64 r.i, .slice oa n c] 34))
  obtain ⟨K, C, hC, hidx, hcall, hform⟩ := form_at r.k ⟨k1, k2⟩ .nilFunc (w.heap.size + 1 + 1)
  have HFM := Lib.hid hform
  clear hn hf hm hr hform
  go_enter Tryd.func22, Tryd.ntmps22
  go_wp2_with (first
    | (go_at_call 42; refine (known_any _ _).mono ?_; rintro e w2 ⟨rfl, rfl⟩)
    | (go_at_call 43; refine (within_any _ _ _ _).mono ?_; rintro e w2 ⟨rfl, rfl⟩))
  go_region_with (go_at_call 44; go_loud (refine (forms_any _).mono ?_; rintro e w3 ⟨rfl, hp, hb3⟩; have HB3 := Lib.hid hb3; have HP := Lib.hid hp; have hbx : OBox w3 w.heap.size r (.slice oa n c) := (hb3.block _ (by simp)).trans (heap_alloc_new w _); have HBX := Lib.hid hbx; obtain ⟨b0, b1, b2, b3, b4, b5, b6, b7, b8, b9, b10, b11⟩ := hbx.cells; clear hb3 hp hbx b0 b1 b3 b4 b5 b6 b7 b8 b9 b10 b11))
  all_goals go_wp2_with fail
  all_goals
    have HP2 : Hid (w3.cell? ⟨w.heap.size + 1 + 1, 0, none⟩ = some (.func (.func 63) #[] #[])) := Lib.hid (by have := HP.out; simpa using this)
    have HB4 : Hid (Below w.heap.size w w3) := Lib.hid (by first | exact bstep H0.out HB3.out | exact H0.out.drew.trans (HB3.out.mono (by simp)))
    clear hidx b2 q1 q2 q3 q4 q5 q6
    simp only [List.getElem_toArray, List.getElem_cons_succ, List.getElem_cons_zero]
    go_frame
    rcases hC with rfl | rfl
    · cases hfb : formB r with
      | false =>
        have HFB := Lib.hid hfb
        clear hfb
        refine held_below (by kernel_rfl) (by kernel_rfl) ?_
        repeat first
          | (refine held_skip ?_ ?_; (· first | rfl | (go_simp; done)); simp only [Act.put, List.setIfInBounds_toArray, List.set_cons_zero, List.set_cons_succ])
          | (refine held_val (v := ?_) ?_ ?_ ?_
             rotate_left
             · first | rfl | (go_simp; done)
             · intro wq hq
               have hq3 : Below w3.heap.size w3 wq := by first | exact hq | exact ((below_refl w3).drew).trans hq
               obtain ⟨e0, e1, e2, e3, e4, e5, e6, e7, e8, e9, e10, e11⟩ := (HBX.out.keep hq3).cells
               go_simp
               with_reducible rfl
             simp only [Act.put, List.setIfInBounds_toArray, List.set_cons_zero, List.set_cons_succ])
          | (refine held_call (v := ?_) (f := ?_) (args := ?_) ?_ ?_ ?_ ?_
             rotate_left 3
             · first | rfl | (go_simp; done)
             · intro wq
               go_simp
               constructor
               · rfl
               · rfl
             · intro wq hq
               first
                 | ((have hq3 : Below w3.heap.size w3 wq := by first | exact hq | exact ((below_refl w3).drew).trans hq)
                    refine (HFM.out.nil r oa n c wq rfl HR.out HN.out (HM.out.grow (bstep HB4.out hq3)) (cell_step hq3 HP2.out)).mono ?_
                    rintro e w4 ⟨he, hb4⟩
                    rw [HFB.out] at he
                    subst he
                    constructor
                    · rfl
                    · exact bstep hq hb4)
             simp only [Act.put, List.setIfInBounds_toArray, List.set_cons_zero, List.set_cons_succ])
        refine held_nil ?_
        intro w2 hb2
        go_wp2_with fail
        go_ret
        have hg : goodB r = false := by unfold goodB; rw [HFB.out, Bool.and_false]; rfl
        exact ⟨by rw [hg]; rfl, bstep HB4.out (by first | exact hb2 | exact ((below_refl w3).drew).trans hb2)⟩
      | true =>
        have HFB := Lib.hid hfb
        clear hfb
        have HH : Hid (headB r = true) := Lib.hid (decide_eq_true ⟨c1, c2, s1, s2⟩)
        cases hsb : sameB r (only r) with
        | false =>
          have HSB := Lib.hid hsb
          clear hsb
          refine held_below (by kernel_rfl) (by kernel_rfl) ?_
          repeat first
            | (refine held_skip ?_ ?_; (· first | rfl | (go_simp; done)); simp only [Act.put, List.setIfInBounds_toArray, List.set_cons_zero, List.set_cons_succ])
            | (refine held_val (v := ?_) ?_ ?_ ?_
               rotate_left
               · first | rfl | (go_simp; done)
               · intro wq hq
                 have hq3 : Below w3.heap.size w3 wq := by first | exact hq | exact ((below_refl w3).drew).trans hq
                 obtain ⟨e0, e1, e2, e3, e4, e5, e6, e7, e8, e9, e10, e11⟩ := (HBX.out.keep hq3).cells
                 go_simp
                 with_reducible rfl
               simp only [Act.put, List.setIfInBounds_toArray, List.set_cons_zero, List.set_cons_succ])
            | (refine held_call (v := ?_) (f := ?_) (args := ?_) ?_ ?_ ?_ ?_
               rotate_left 3
               · first | rfl | (go_simp; done)
               · intro wq
                 go_simp
                 constructor
                 · rfl
                 · rfl
               · intro wq hq
                 first
                   | (go_at_call 46
                      (have hq3 : Below w3.heap.size w3 wq := by first | exact hq | exact ((below_refl w3).drew).trans hq)
                      refine (kept_any r ⟨k1, k2⟩ oa n c wq (HF.out.keep (bstep HB4.out hq3))).mono ?_
                      rintro e w4 ⟨rfl, hb4⟩
                      constructor
                      · rfl
                      · exact bstep hq hb4)
                   | (go_at_call 45
                      (have hq3 : Below w3.heap.size w3 wq := by first | exact hq | exact ((below_refl w3).drew).trans hq)
                      (have hmv := HM.out.grow (bstep HB4.out hq3))
                      refine (same_any r (only r) oa (onlyA r oa) n (onlyN r n) c (onlyN r c) HN.out (only_len r n HN.out) HR.out.2.2.2 (only_fit HR.out) wq hmv (only_mv r oa wq hmv)).mono ?_
                      rintro e w4 ⟨he, hb4⟩
                      rw [HSB.out] at he
                      subst he
                      constructor
                      · rfl
                      · exact bstep hq hb4)
                   | ((have hq3 : Below w3.heap.size w3 wq := by first | exact hq | exact ((below_refl w3).drew).trans hq)
                      refine (HFM.out.nil r oa n c wq rfl HR.out HN.out (HM.out.grow (bstep HB4.out hq3)) (cell_step hq3 HP2.out)).mono ?_
                      rintro e w4 ⟨he, hb4⟩
                      rw [HFB.out] at he
                      subst he
                      constructor
                      · rfl
                      · exact bstep hq hb4)
               simp only [Act.put, List.setIfInBounds_toArray, List.set_cons_zero, List.set_cons_succ])
          refine held_nil ?_
          intro w2 hb2
          go_wp2_with fail
          go_ret
          have hg : goodB r = false := by unfold goodB; rw [HSB.out, Bool.and_false]
          exact ⟨by rw [hg]; rfl, bstep HB4.out (by first | exact hb2 | exact ((below_refl w3).drew).trans hb2)⟩
        | true =>
          have HSB := Lib.hid hsb
          clear hsb
          refine held_below (by kernel_rfl) (by kernel_rfl) ?_
          repeat first
            | (refine held_skip ?_ ?_; (· first | rfl | (go_simp; done)); simp only [Act.put, List.setIfInBounds_toArray, List.set_cons_zero, List.set_cons_succ])
            | (refine held_val (v := ?_) ?_ ?_ ?_
               rotate_left
               · first | rfl | (go_simp; done)
               · intro wq hq
                 have hq3 : Below w3.heap.size w3 wq := by first | exact hq | exact ((below_refl w3).drew).trans hq
                 obtain ⟨e0, e1, e2, e3, e4, e5, e6, e7, e8, e9, e10, e11⟩ := (HBX.out.keep hq3).cells
                 go_simp
                 with_reducible rfl
               simp only [Act.put, List.setIfInBounds_toArray, List.set_cons_zero, List.set_cons_succ])
            | (refine held_call (v := ?_) (f := ?_) (args := ?_) ?_ ?_ ?_ ?_
               rotate_left 3
               · first | rfl | (go_simp; done)
               · intro wq
                 go_simp
                 constructor
                 · rfl
                 · rfl
               · intro wq hq
                 first
                   | (go_at_call 46
                      (have hq3 : Below w3.heap.size w3 wq := by first | exact hq | exact ((below_refl w3).drew).trans hq)
                      refine (kept_any r ⟨k1, k2⟩ oa n c wq (HF.out.keep (bstep HB4.out hq3))).mono ?_
                      rintro e w4 ⟨rfl, hb4⟩
                      constructor
                      · rfl
                      · exact bstep hq hb4)
                   | (go_at_call 45
                      (have hq3 : Below w3.heap.size w3 wq := by first | exact hq | exact ((below_refl w3).drew).trans hq)
                      (have hmv := HM.out.grow (bstep HB4.out hq3))
                      refine (same_any r (only r) oa (onlyA r oa) n (onlyN r n) c (onlyN r c) HN.out (only_len r n HN.out) HR.out.2.2.2 (only_fit HR.out) wq hmv (only_mv r oa wq hmv)).mono ?_
                      rintro e w4 ⟨he, hb4⟩
                      rw [HSB.out] at he
                      subst he
                      constructor
                      · rfl
                      · exact bstep hq hb4)
                   | ((have hq3 : Below w3.heap.size w3 wq := by first | exact hq | exact ((below_refl w3).drew).trans hq)
                      refine (HFM.out.nil r oa n c wq rfl HR.out HN.out (HM.out.grow (bstep HB4.out hq3)) (cell_step hq3 HP2.out)).mono ?_
                      rintro e w4 ⟨he, hb4⟩
                      rw [HFB.out] at he
                      subst he
                      constructor
                      · rfl
                      · exact bstep hq hb4)
               simp only [Act.put, List.setIfInBounds_toArray, List.set_cons_zero, List.set_cons_succ])
          refine held_nil ?_
          intro w2 hb2
          go_wp2_with fail
          go_ret
          have hg : goodB r = true := by unfold goodB; rw [HFB.out, HSB.out, HH.out]; rfl
          exact ⟨by rw [hg]; rfl, bstep HB4.out (by first | exact hb2 | exact ((below_refl w3).drew).trans hb2)⟩
    · cases hfb : formB r with
      | false =>
        have HFB := Lib.hid hfb
        clear hfb
        refine held_below (by kernel_rfl) (by kernel_rfl) ?_
        repeat first
          | (refine held_skip ?_ ?_; (· first | rfl | (go_simp; done)); simp only [Act.put, List.setIfInBounds_toArray, List.set_cons_zero, List.set_cons_succ])
          | (refine held_val (v := ?_) ?_ ?_ ?_
             rotate_left
             · first | rfl | (go_simp; done)
             · intro wq hq
               have hq3 : Below w3.heap.size w3 wq := by first | exact hq | exact ((below_refl w3).drew).trans hq
               obtain ⟨e0, e1, e2, e3, e4, e5, e6, e7, e8, e9, e10, e11⟩ := (HBX.out.keep hq3).cells
               go_simp
               with_reducible rfl
             simp only [Act.put, List.setIfInBounds_toArray, List.set_cons_zero, List.set_cons_succ])
          | (refine held_call (v := ?_) (f := ?_) (args := ?_) ?_ ?_ ?_ ?_
             rotate_left 3
             · first | rfl | (go_simp; done)
             · intro wq
               go_simp
               constructor
               · rfl
               · rfl
             · intro wq hq
               first
                 | ((have hq3 : Below w3.heap.size w3 wq := by first | exact hq | exact ((below_refl w3).drew).trans hq)
                    refine (HFM.out.one r oa n c wq rfl HR.out HN.out (HM.out.grow (bstep HB4.out hq3)) (cell_step hq3 HP2.out)).mono ?_
                    rintro e w4 ⟨he, hb4⟩
                    rw [HFB.out] at he
                    subst he
                    constructor
                    · rfl
                    · exact bstep hq hb4)
             simp only [Act.put, List.setIfInBounds_toArray, List.set_cons_zero, List.set_cons_succ])
        refine held_nil ?_
        intro w2 hb2
        go_wp2_with fail
        go_ret
        have hg : goodB r = false := by unfold goodB; rw [HFB.out, Bool.and_false]; rfl
        exact ⟨by rw [hg]; rfl, bstep HB4.out (by first | exact hb2 | exact ((below_refl w3).drew).trans hb2)⟩
      | true =>
        have HFB := Lib.hid hfb
        clear hfb
        have HH : Hid (headB r = true) := Lib.hid (decide_eq_true ⟨c1, c2, s1, s2⟩)
        cases hsb : sameB r (only r) with
        | false =>
          have HSB := Lib.hid hsb
          clear hsb
          refine held_below (by kernel_rfl) (by kernel_rfl) ?_
          repeat first
            | (refine held_skip ?_ ?_; (· first | rfl | (go_simp; done)); simp only [Act.put, List.setIfInBounds_toArray, List.set_cons_zero, List.set_cons_succ])
            | (refine held_val (v := ?_) ?_ ?_ ?_
               rotate_left
               · first | rfl | (go_simp; done)
               · intro wq hq
                 have hq3 : Below w3.heap.size w3 wq := by first | exact hq | exact ((below_refl w3).drew).trans hq
                 obtain ⟨e0, e1, e2, e3, e4, e5, e6, e7, e8, e9, e10, e11⟩ := (HBX.out.keep hq3).cells
                 go_simp
                 with_reducible rfl
               simp only [Act.put, List.setIfInBounds_toArray, List.set_cons_zero, List.set_cons_succ])
            | (refine held_call (v := ?_) (f := ?_) (args := ?_) ?_ ?_ ?_ ?_
               rotate_left 3
               · first | rfl | (go_simp; done)
               · intro wq
                 go_simp
                 constructor
                 · rfl
                 · rfl
               · intro wq hq
                 first
                   | (go_at_call 46
                      (have hq3 : Below w3.heap.size w3 wq := by first | exact hq | exact ((below_refl w3).drew).trans hq)
                      refine (kept_any r ⟨k1, k2⟩ oa n c wq (HF.out.keep (bstep HB4.out hq3))).mono ?_
                      rintro e w4 ⟨rfl, hb4⟩
                      constructor
                      · rfl
                      · exact bstep hq hb4)
                   | (go_at_call 45
                      (have hq3 : Below w3.heap.size w3 wq := by first | exact hq | exact ((below_refl w3).drew).trans hq)
                      (have hmv := HM.out.grow (bstep HB4.out hq3))
                      refine (same_any r (only r) oa (onlyA r oa) n (onlyN r n) c (onlyN r c) HN.out (only_len r n HN.out) HR.out.2.2.2 (only_fit HR.out) wq hmv (only_mv r oa wq hmv)).mono ?_
                      rintro e w4 ⟨he, hb4⟩
                      rw [HSB.out] at he
                      subst he
                      constructor
                      · rfl
                      · exact bstep hq hb4)
                   | ((have hq3 : Below w3.heap.size w3 wq := by first | exact hq | exact ((below_refl w3).drew).trans hq)
                      refine (HFM.out.one r oa n c wq rfl HR.out HN.out (HM.out.grow (bstep HB4.out hq3)) (cell_step hq3 HP2.out)).mono ?_
                      rintro e w4 ⟨he, hb4⟩
                      rw [HFB.out] at he
                      subst he
                      constructor
                      · rfl
                      · exact bstep hq hb4)
               simp only [Act.put, List.setIfInBounds_toArray, List.set_cons_zero, List.set_cons_succ])
          refine held_nil ?_
          intro w2 hb2
          go_wp2_with fail
          go_ret
          have hg : goodB r = false := by unfold goodB; rw [HSB.out, Bool.and_false]
          exact ⟨by rw [hg]; rfl, bstep HB4.out (by first | exact hb2 | exact ((below_refl w3).drew).trans hb2)⟩
        | true =>
          have HSB := Lib.hid hsb
          clear hsb
          refine held_below (by kernel_rfl) (by kernel_rfl) ?_
          repeat first
            | (refine held_skip ?_ ?_; (· first | rfl | (go_simp; done)); simp only [Act.put, List.setIfInBounds_toArray, List.set_cons_zero, List.set_cons_succ])
            | (refine held_val (v := ?_) ?_ ?_ ?_
               rotate_left
               · first | rfl | (go_simp; done)
               · intro wq hq
                 have hq3 : Below w3.heap.size w3 wq := by first | exact hq | exact ((below_refl w3).drew).trans hq
                 obtain ⟨e0, e1, e2, e3, e4, e5, e6, e7, e8, e9, e10, e11⟩ := (HBX.out.keep hq3).cells
                 go_simp
                 with_reducible rfl
               simp only [Act.put, List.setIfInBounds_toArray, List.set_cons_zero, List.set_cons_succ])
            | (refine held_call (v := ?_) (f := ?_) (args := ?_) ?_ ?_ ?_ ?_
               rotate_left 3
               · first | rfl | (go_simp; done)
               · intro wq
                 go_simp
                 constructor
                 · rfl
                 · rfl
               · intro wq hq
                 first
                   | (go_at_call 46
                      (have hq3 : Below w3.heap.size w3 wq := by first | exact hq | exact ((below_refl w3).drew).trans hq)
                      refine (kept_any r ⟨k1, k2⟩ oa n c wq (HF.out.keep (bstep HB4.out hq3))).mono ?_
                      rintro e w4 ⟨rfl, hb4⟩
                      constructor
                      · rfl
                      · exact bstep hq hb4)
                   | (go_at_call 45
                      (have hq3 : Below w3.heap.size w3 wq := by first | exact hq | exact ((below_refl w3).drew).trans hq)
                      (have hmv := HM.out.grow (bstep HB4.out hq3))
                      refine (same_any r (only r) oa (onlyA r oa) n (onlyN r n) c (onlyN r c) HN.out (only_len r n HN.out) HR.out.2.2.2 (only_fit HR.out) wq hmv (only_mv r oa wq hmv)).mono ?_
                      rintro e w4 ⟨he, hb4⟩
                      rw [HSB.out] at he
                      subst he
                      constructor
                      · rfl
                      · exact bstep hq hb4)
                   | ((have hq3 : Below w3.heap.size w3 wq := by first | exact hq | exact ((below_refl w3).drew).trans hq)
                      refine (HFM.out.one r oa n c wq rfl HR.out HN.out (HM.out.grow (bstep HB4.out hq3)) (cell_step hq3 HP2.out)).mono ?_
                      rintro e w4 ⟨he, hb4⟩
                      rw [HFB.out] at he
                      subst he
                      constructor
                      · rfl
                      · exact bstep hq hb4)
               simp only [Act.put, List.setIfInBounds_toArray, List.set_cons_zero, List.set_cons_succ])
          refine held_nil ?_
          intro w2 hb2
          go_wp2_with fail
          go_ret
          have hg : goodB r = true := by unfold goodB; rw [HFB.out, HSB.out, HH.out]; rfl
          exact ⟨by rw [hg]; rfl, bstep HB4.out (by first | exact hb2 | exact ((below_refl w3).drew).trans hb2)⟩
theorem good_any (r : Rec) (hr : Fit r) (oa : Option Addr) (n c : Nat) (hn : n = r.m.length) (w : World) (hf : Fl w) (hm : MvAt w oa r.m) : Calls Tryd.prog 22 #[.agg #[.int .i64 r.cl, .int .i64 r.sq, .int .i64 r.k, .string r.p, .string r.t, .int .i64 r.sz, .int .i64 r.h, .int .i64 r.o, .string r.d, .int .i64 r.tk, .int .i64 r.i, .slice oa n c]] w (GoodPost r w) := by
  by_cases h : 1 ≤ r.k ∧ r.k ≤ 14 ∧ 0 ≤ r.cl ∧ r.cl ≤ 7 ∧ 1 ≤ r.sq ∧ r.sq ≤ 2147483647
  · exact good_ok r h hr oa n c hn w hf hm
  · exact good_bad r h _ w
end Go.Proofs.YthnkpoagpjnopaaDoor.OpW
