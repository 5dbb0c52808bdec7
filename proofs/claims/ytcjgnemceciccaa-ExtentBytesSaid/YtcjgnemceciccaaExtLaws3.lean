/- The laws of extent: Keeps. -/
import Derived.Test.YtcjgnemceciccaaExtLaws2
namespace Go.Proofs.Ytcjgnemceciccaa.ExtW
open Go.RowKit
theorem look_at_part : ∀ {lo : Int} {l : List Pt} {hi : Int}, Sorted lo l hi → ∀ {k : Nat} {x : Pt}, l[k]? = some x → lo ≤ x.o ∧ ∀ i, x.o ≤ i → i < x.o + x.n → look l i = some (x.a, x.f + (i - x.o))
  | _, [], _, _, k, x, hx => by simp at hx
  | lo, y :: l, hi, h, 0, x, hx => by
    obtain rfl : y = x := by simpa using hx
    exact ⟨h.1, fun i a b => by rw [look, if_pos ⟨a, b⟩]⟩
  | lo, y :: l, hi, h, k + 1, x, hx => by
    obtain ⟨h1, h2⟩ := look_at_part h.2.2 (k := k) (x := x) (by simpa using hx)
    have h3 := h.1
    have h4 := h.2.1
    exact ⟨by omega, fun i a b => by rw [look, if_neg (by omega)]; exact h2 i a b⟩
theorem at_is (oa : Option Addr) (n cap : Nat) (l : List Pt) (i ra rf : Int) (hra : atA l i = ra) (hrf : atF l i = rf) (hn : n = l.length) (hi : -100000 ≤ i ∧ i ≤ 100000) (ho : ∀ x ∈ l, One x) (hl : l.length ≤ 1000000) (w : World) (h : PtsAt w.heap.size oa l w) :
    Calls Try.prog 25 #[.slice oa n cap, .int .i64 i] w fun e w' => e = .returned (.tuple #[.int .i64 ra, .int .i64 rf]) ∧ Below w.heap.size w w' := by
  rw [← hra, ← hrf]; exact at_any oa n cap l i hn hi ho hl w h
theorem move_no {l : List Pt} {ma mf mn mt tt : Int} (hg : Good l) (h : moveE l ma mf mn mt tt ≠ 0) : moveL l ma mf mn mt tt = [] := by
  unfold moveE at h
  unfold moveL
  rw [if_pos hg] at h ⊢
  by_cases hm : May ma mf mn mt tt
  · rw [if_pos hm] at h ⊢
    unfold fewE at h
    unfold fewL
    by_cases c : (movL l ma mf mn mt tt).length > 64
    · rw [if_pos c]
    · rw [if_neg c] at h; exact absurd rfl h
  · rw [if_neg hm]
theorem move_yes {l : List Pt} {ma mf mn mt tt : Int} (hg : Good l) (h : moveE l ma mf mn mt tt = 0) :
    May ma mf mn mt tt ∧ moveL l ma mf mn mt tt = movL l ma mf mn mt tt ∧ (movL l ma mf mn mt tt).length ≤ 64 := by
  unfold moveE at h
  unfold moveL
  rw [if_pos hg] at h ⊢
  by_cases hm : May ma mf mn mt tt
  · rw [if_pos hm] at h ⊢
    unfold fewE at h
    unfold fewL
    by_cases c : (movL l ma mf mn mt tt).length > 64
    · rw [if_pos c] at h; cases h
    · rw [if_neg c]; exact ⟨hm, rfl, by omega⟩
  · rw [if_neg hm] at h; cases h
set_option linter.constructorNameAsVariable false in
set_option maxHeartbeats 3200000 in
set_option maxRecDepth 100000 in
theorem keeps_walk (oa : Option Addr) (cap : Nat) (l : List Pt) (hl : l.length ≤ maxLen) (ma mf mn mt : Int) (hmf : (Lit.int .i64 mf).wf = true) (tt : Int) (_ : (Lit.int .i64 tt).wf = true) (w : World) (h : Came w oa cap l) :
    Calls Try.prog 8 #[.slice oa l.length cap, .agg #[.int .i64 ma, .int .i64 mf, .int .i64 mn, .int .i64 mt], .int .i64 tt] w fun e w' => e = .returned (.bool true) ∧ Below w.heap.size w w' := by
  unfold maxLen at hl
  have HMF := Lib.hid (i64_bd' hmf)
  have HC := Lib.hid h
  have HL := Lib.hid (HC.out.pts.grow (below_alloc w (.cells #[.int .i64 ma, .int .i64 mf, .int .i64 mn, .int .i64 mt] 41)))
  have HBX := Lib.hid (MBox.made w ma mf mn mt)
  have HB := Lib.hid (below_alloc w (.cells #[.int .i64 ma, .int .i64 mf, .int .i64 mn, .int .i64 mt] 41))
  clear h hmf
  by_cases hbig : 64 < l.length
  · have hbig' : decide ((64 : Int) < (l.length : Int)) = true := decide_eq_true (by omega)
    go_enter Try.func8, Try.ntmps8
    go_wp2_with (go_at_call 10; refine (wakes_any _).mono ?_; rintro e w1 ⟨rfl, hb⟩; have HB9 := Lib.hid (bstep HB.out hb); clear hb)
    go_ret
    exact ⟨rfl, HB9.out⟩
  · have hl2 : l.length ≤ 64 := by omega
    have hbig' : decide ((64 : Int) < (l.length : Int)) = false := decide_eq_false (by omega)
    clear hl hbig
    by_cases hg : Good l
    · have HG : Hid (decide (Good l) = true) := Lib.hid (decide_eq_true hg)
      have HGL := Lib.hid hg
      obtain ⟨m, hm⟩ : ∃ m, moveL l ma mf mn mt tt = m := ⟨_, rfl⟩
      have hml : m.length ≤ 64 := by rw [← hm]; exact moveL_len l ma mf mn mt tt
      obtain ⟨r, hr⟩ : ∃ r, moveE l ma mf mn mt tt = r := ⟨_, rfl⟩
      have HM := Lib.hid hm
      have HE := Lib.hid hr
      clear hg
      by_cases hr0 : r = 0
      · have b0 : (r == 0) = true := by rw [beq_iff_eq]; exact hr0
        obtain ⟨hmay, hmv, hm64⟩ := move_yes HGL.out (hr.trans hr0)
        obtain ⟨hms, hmc, hmlk⟩ := mov_fine HGL.out hmay
        have hmm : movL l ma mf mn mt tt = m := by rw [← hmv]; exact hm
        rw [hmm] at hms hmc hmlk hm64
        have hmg : Good m := ⟨hm64, hmc⟩
        have HGM : Hid (decide (Good m) = true) := Lib.hid (decide_eq_true hmg)
        have HOM : Hid (∀ x ∈ m, One x) := Lib.hid (chain_ones hmc)
        have HOL : Hid (∀ x ∈ l, One x) := Lib.hid (chain_ones HGL.out.2)
        have HLK := Lib.hid hmlk
        obtain ⟨en, hen⟩ : ∃ en, endS l = en := ⟨_, rfl⟩
        have HEL := Lib.hid hen
        have HEM : Hid (endS m = en) := Lib.hid (by
          rw [← hen]; unfold endS; rw [if_pos hmg, if_pos HGL.out, ← hmm, mov_end HGL.out])
        have hmb : 0 ≤ mf ∧ 1 ≤ mn ∧ mf + mn ≤ 1024 ∧ 0 ≤ mt ∧ mt + mn ≤ 1024 := by unfold May Whole at hmay; omega
        have hwmf : IntKind.i64.wrap (mf + mn) = mf + mn := IntWalk.i64_in _ (by omega)
        have tok1 : True := trivial
        subst hr0
        clear hm hr hmay hmv hms hmc hmlk hmm hmg hen hm64 b0
        go_enter Try.func8, Try.ntmps8
        go_wp2_with (first
          | (go_at_call 13; go_loud (refine (rgood_is _ _ _ l _ HG.out rfl (by omega) _ HL.out).mono ?_; rintro e w3 ⟨rfl, hb3⟩; replace HL := Lib.hid (HL.out.grow hb3); replace HBX := Lib.hid (HBX.out.grow hb3); replace HB := Lib.hid (bstep HB.out hb3); clear hb3; obtain ⟨p0, p1, p2, p3⟩ := HBX.out.cells)))
        go_region_with (first
          | (go_at_call 11; go_loud (refine (few_any _ _ l (by omega) HC.out.nil _ (HL.out.grow (Below.refl _ _).drew)).mono ?_; rintro e w5 ⟨oa5, cap5, rfl, hr5, hb5⟩; have HI := Lib.hid hr5.pts; replace HB := Lib.hid (bstep HB.out.drew hb5); replace HL := Lib.hid ((HL.out.grow (Below.refl _ _).drew).grow hb5); replace HBX := Lib.hid ((HBX.out.grow (Below.refl _ _).drew).grow hb5); clear hr5 hb5 p0 p1 p2 p3; obtain ⟨p0, p1, p2, p3⟩ := HBX.out.cells))
          | (go_at_call 23; go_loud (refine (move_is _ _ _ l m ma mf mn mt tt 0 HM.out HE.out rfl HMF.out (by omega) _ HI.out).mono ?_; rintro e w6 ⟨oa6, cap6, rfl, _, hp6, hb6⟩; have HX := Lib.hid hp6; replace HL := Lib.hid (HL.out.grow hb6); replace HB := Lib.hid (bstep HB.out hb6); replace HBX := Lib.hid (HBX.out.grow hb6); clear hb6 hp6 p0 p1 p2 p3; obtain ⟨p0, p1, p2, p3⟩ := HBX.out.cells)))
        all_goals
          go_wp2_with (first
            | (go_at_call 12; go_loud (refine (good_is2 _ _ _ m true HGM.out rfl (by omega) _ HX.out).mono ?_; rintro e w7 ⟨rfl, hb7⟩; replace HX := Lib.hid (HX.out.grow hb7); replace HL := Lib.hid (HL.out.grow hb7); replace HB := Lib.hid (bstep HB.out hb7); replace HBX := Lib.hid (HBX.out.grow hb7); clear hb7; have tok2 : True := trivial))
            | (go_at_call 14; have _t := tok2; clear _t tok2; go_loud (refine (end_is _ _ _ m en HEM.out rfl (by omega) _ HX.out).mono ?_; rintro e w8 ⟨rfl, hb7⟩; replace HX := Lib.hid (HX.out.grow hb7); replace HL := Lib.hid (HL.out.grow hb7); replace HB := Lib.hid (bstep HB.out hb7); replace HBX := Lib.hid (HBX.out.grow hb7); clear hb7; have tok3 : True := trivial))
            | (go_at_call 11; have _t := tok3; go_loud (refine (few_any _ _ l (by omega) HC.out.nil _ HL.out).mono ?_; rintro e w9 ⟨oa9, cap9, rfl, hr9, hb7⟩; have HI9 := Lib.hid hr9.pts; replace HX := Lib.hid (HX.out.grow hb7); replace HL := Lib.hid (HL.out.grow hb7); replace HB := Lib.hid (bstep HB.out hb7); replace HBX := Lib.hid (HBX.out.grow hb7); clear hb7 hr9))
            | (go_at_call 14; have _t := tok3; clear _t tok3; go_loud (refine (end_is _ _ _ l en HEL.out rfl (by omega) _ HI9.out).mono ?_; rintro e wz ⟨rfl, hb7⟩; replace HX := Lib.hid (HX.out.grow hb7); replace HL := Lib.hid (HL.out.grow hb7); replace HB := Lib.hid (bstep HB.out hb7); replace HBX := Lib.hid (HBX.out.grow hb7); clear hb7)))
          clear p0 p1 p2 p3
          go_loopw [9, 10] (fun i _ wr => ∃ k : Nat, k ≤ l.length ∧ i = .int .i64 (k : Int) ∧ Below wz.heap.size wz wr) (fun i _ _ => ((l.length : Int) - intOf i).toNat)
          case atStart => exact ⟨0, by omega, rfl, Below.refl _ _⟩
          case round =>
            obtain ⟨k, hk, rfl, hbel⟩ := hrel
            have HBR := Lib.hid hbel
            clear hbel
            by_cases hlt : k < l.length
            · obtain ⟨x, hx⟩ : ∃ x, l[k]? = some x := ⟨_, List.getElem?_eq_getElem hlt⟩
              have hk0 : (0 : Int) ≤ (k : Int) := by omega
              have hkl : (k : Int) < (l.length : Int) := by omega
              have HXS := Lib.hid (HOL.out x (List.mem_of_getElem? hx)).small
              have HLX := Lib.hid (look_at_part (good_sorted HGL.out) hx).2
              have HX0 := Lib.hid hx
              obtain ⟨N, hN⟩ : ∃ N : Nat, x.n = N := ⟨x.n.toNat, by have := HXS.out; omega⟩
              have HN := Lib.hid hN
              have hN2 : N ≤ 1024 := by have := HXS.out; omega
              clear hx hN
              go_wp2_with fail
              obtain ⟨w3, rfl⟩ : ∃ w3 : World, w3 = wr := ⟨_, rfl⟩
              go_loopw [10] (fun i wr => ∃ j : Nat, j ≤ N ∧ i = .int .i64 (j : Int) ∧ Below wz.heap.size wz wr) (fun i _ => ((N : Int) - intOf i).toNat)
              case atStart => exact ⟨0, by omega, rfl, HBR.out⟩
              case round =>
                obtain ⟨j, hj, rfl, hbel⟩ := hrel
                have HBJ := Lib.hid hbel
                clear hbel
                have hn := HN.out
                have hxs := HXS.out
                by_cases hjl : j < N
                · have hjl2 : (j : Int) < x.n := by omega
                  obtain ⟨al, rfl, _, c0, c1, c2, c3⟩ := (HL.out.grow HBJ.out) k x HX0.out
                  obtain ⟨P, hP⟩ : ∃ P, x.o + j = P := ⟨_, rfl⟩
                  obtain ⟨G, hG⟩ : ∃ G, x.f + j = G := ⟨_, rfl⟩
                  have hw1 : IntKind.i64.wrap (x.o + j) = P := by rw [← hP]; exact IntWalk.i64_in _ (by omega)
                  have hw2 : IntKind.i64.wrap (x.f + j) = G := by rw [← hG]; exact IntWalk.i64_in _ (by omega)
                  have hlp : look l P = some (x.a, G) := by rw [HLX.out P (by omega) (by omega)]; congr 2; omega
                  have hmp := HLK.out P
                  unfold movG at hmp
                  rw [hlp] at hmp
                  simp only at hmp
                  have HPB := Lib.hid (show -100000 ≤ P ∧ P ≤ 100000 by omega)
                  have hgb : 0 ≤ G ∧ G ≤ 1024 := by omega
                  clear hn hxs hP hG hlp
                  by_cases e1 : x.a = ma
                  · have b1 : (x.a == ma) = true := by rw [beq_iff_eq]; exact e1
                    by_cases e2 : mf ≤ G
                    · by_cases e3 : G < mf + mn
                      · obtain ⟨G1, hG1⟩ : ∃ G1, mt + G = G1 := ⟨_, rfl⟩
                        obtain ⟨G2, hG2⟩ : ∃ G2, G1 - mf = G2 := ⟨_, rfl⟩
                        have hw3 : IntKind.i64.wrap (mt + G) = G1 := by rw [← hG1]; exact IntWalk.i64_in _ (by omega)
                        have hw4 : IntKind.i64.wrap (G1 - mf) = G2 := by rw [← hG2]; exact IntWalk.i64_in _ (by omega)
                        rw [if_pos ⟨e1, e2, e3⟩] at hmp
                        have HA : Hid (atA m P = tt ∧ atF m P = G2) := Lib.hid (by unfold atA atF; rw [hmp]; exact ⟨rfl, by show G - mf + mt = G2; omega⟩)
                        clear hmp hG1 hG2 e1
                        go_wp2_with (go_at_call 25; go_loud (refine (at_is _ _ _ m P _ _ HA.out.1 HA.out.2 rfl HPB.out HOM.out (by omega) _ (HX.out.grow HBJ.out)).mono ?_; rintro e w5 ⟨rfl, hb5⟩; have HB1 := Lib.hid (bstep HBJ.out hb5); have HBX1 := Lib.hid ((HBX.out.grow HBJ.out).grow hb5); replace c0 := cell_step hb5 c0; replace c1 := cell_step hb5 c1; replace c2 := cell_step hb5 c2; replace c3 := cell_step hb5 c3; clear hb5))
                        refine held_below (by kernel_rfl) (by kernel_rfl) ?_
                        repeat first
                          | (refine held_skip ?_ ?_; (· first | rfl | (go_simp; done)); simp only [Act.put, List.setIfInBounds_toArray, List.set_cons_zero, List.set_cons_succ])
                          | (refine held_val (v := ?_) ?_ ?_ ?_
                             rotate_left
                             · first | rfl | (go_simp; done)
                             · intro wq hq
                               have y2 := cell_step hq c2
                               have y3 := cell_step hq c3
                               go_simp
                               with_reducible rfl
                             simp only [Act.put, List.setIfInBounds_toArray, List.set_cons_zero, List.set_cons_succ])
                        refine held_nil ?_
                        intro w2 hb2
                        have HB2 := Lib.hid (bstep HB1.out hb2)
                        have HBX2 := Lib.hid (HBX1.out.grow hb2)
                        clear hb2
                        obtain ⟨p0, p1, p2, p3⟩ := HBX2.out.cells
                        go_wp2_with fail
                        refine held_below (by kernel_rfl) (by kernel_rfl) ?_
                        repeat first
                          | (refine held_skip ?_ ?_; (· first | rfl | (go_simp; done)); simp only [Act.put, List.setIfInBounds_toArray, List.set_cons_zero, List.set_cons_succ])
                          | (refine held_val (v := ?_) ?_ ?_ ?_
                             rotate_left
                             · first | rfl | (go_simp; done)
                             · intro wq hq
                               have y0 := cell_step hq p0
                               have y1 := cell_step hq p1
                               have y2 := cell_step hq p2
                               have y3 := cell_step hq p3
                               go_simp
                               with_reducible rfl
                             simp only [Act.put, List.setIfInBounds_toArray, List.set_cons_zero, List.set_cons_succ])
                        refine held_nil ?_
                        intro w2 hb2
                        have HB3 := Lib.hid (bstep HB2.out hb2)
                        clear hb2 p0 p1 p2 p3
                        go_wp2_with fail
                        exact ⟨⟨j + 1, by omega, by simp, HB3.out⟩, by simp [intOf]; omega⟩
                      · have e3' : decide (G < mf + mn) = false := decide_eq_false e3
                        rw [if_neg (fun h => e3 h.2.2)] at hmp
                        have HA : Hid (atA m P = x.a ∧ atF m P = G) := Lib.hid (by unfold atA atF; rw [hmp]; exact ⟨rfl, rfl⟩)
                        clear hmp e1 e3
                        go_wp2_with (go_at_call 25; go_loud (refine (at_is _ _ _ m P _ _ HA.out.1 HA.out.2 rfl HPB.out HOM.out (by omega) _ (HX.out.grow HBJ.out)).mono ?_; rintro e w5 ⟨rfl, hb5⟩; have HB1 := Lib.hid (bstep HBJ.out hb5); have HBX1 := Lib.hid ((HBX.out.grow HBJ.out).grow hb5); replace c0 := cell_step hb5 c0; replace c1 := cell_step hb5 c1; replace c2 := cell_step hb5 c2; replace c3 := cell_step hb5 c3; clear hb5))
                        refine held_below (by kernel_rfl) (by kernel_rfl) ?_
                        repeat first
                          | (refine held_skip ?_ ?_; (· first | rfl | (go_simp; done)); simp only [Act.put, List.setIfInBounds_toArray, List.set_cons_zero, List.set_cons_succ])
                          | (refine held_val (v := ?_) ?_ ?_ ?_
                             rotate_left
                             · first | rfl | (go_simp; done)
                             · intro wq hq
                               have y2 := cell_step hq c2
                               have y3 := cell_step hq c3
                               go_simp
                               with_reducible rfl
                             simp only [Act.put, List.setIfInBounds_toArray, List.set_cons_zero, List.set_cons_succ])
                        refine held_nil ?_
                        intro w2 hb2
                        have HB2 := Lib.hid (bstep HB1.out hb2)
                        have HBX2 := Lib.hid (HBX1.out.grow hb2)
                        clear hb2
                        obtain ⟨p0, p1, p2, p3⟩ := HBX2.out.cells
                        go_wp2_with fail
                        exact ⟨⟨j + 1, by omega, by simp, HB2.out⟩, by simp [intOf]; omega⟩
                    · have e2' : decide (mf ≤ G) = false := decide_eq_false e2
                      rw [if_neg (fun h => e2 h.2.1)] at hmp
                      have HA : Hid (atA m P = x.a ∧ atF m P = G) := Lib.hid (by unfold atA atF; rw [hmp]; exact ⟨rfl, rfl⟩)
                      clear hmp e1 e2
                      go_wp2_with (go_at_call 25; go_loud (refine (at_is _ _ _ m P _ _ HA.out.1 HA.out.2 rfl HPB.out HOM.out (by omega) _ (HX.out.grow HBJ.out)).mono ?_; rintro e w5 ⟨rfl, hb5⟩; have HB1 := Lib.hid (bstep HBJ.out hb5); have HBX1 := Lib.hid ((HBX.out.grow HBJ.out).grow hb5); replace c0 := cell_step hb5 c0; replace c1 := cell_step hb5 c1; replace c2 := cell_step hb5 c2; replace c3 := cell_step hb5 c3; clear hb5))
                      refine held_below (by kernel_rfl) (by kernel_rfl) ?_
                      repeat first
                        | (refine held_skip ?_ ?_; (· first | rfl | (go_simp; done)); simp only [Act.put, List.setIfInBounds_toArray, List.set_cons_zero, List.set_cons_succ])
                        | (refine held_val (v := ?_) ?_ ?_ ?_
                           rotate_left
                           · first | rfl | (go_simp; done)
                           · intro wq hq
                             have y2 := cell_step hq c2
                             have y3 := cell_step hq c3
                             go_simp
                             with_reducible rfl
                           simp only [Act.put, List.setIfInBounds_toArray, List.set_cons_zero, List.set_cons_succ])
                      refine held_nil ?_
                      intro w2 hb2
                      have HB2 := Lib.hid (bstep HB1.out hb2)
                      have HBX2 := Lib.hid (HBX1.out.grow hb2)
                      clear hb2
                      obtain ⟨p0, p1, p2, p3⟩ := HBX2.out.cells
                      go_wp2_with fail
                      exact ⟨⟨j + 1, by omega, by simp, HB2.out⟩, by simp [intOf]; omega⟩
                  · have b1 : (x.a == ma) = false := by rw [beq_eq_false_iff_ne]; exact e1
                    rw [if_neg (fun h => e1 h.1)] at hmp
                    have HA : Hid (atA m P = x.a ∧ atF m P = G) := Lib.hid (by unfold atA atF; rw [hmp]; exact ⟨rfl, rfl⟩)
                    clear hmp e1
                    go_wp2_with (go_at_call 25; go_loud (refine (at_is _ _ _ m P _ _ HA.out.1 HA.out.2 rfl HPB.out HOM.out (by omega) _ (HX.out.grow HBJ.out)).mono ?_; rintro e w5 ⟨rfl, hb5⟩; have HB1 := Lib.hid (bstep HBJ.out hb5); have HBX1 := Lib.hid ((HBX.out.grow HBJ.out).grow hb5); replace c0 := cell_step hb5 c0; replace c1 := cell_step hb5 c1; replace c2 := cell_step hb5 c2; replace c3 := cell_step hb5 c3; clear hb5))
                    refine held_below (by kernel_rfl) (by kernel_rfl) ?_
                    repeat first
                      | (refine held_skip ?_ ?_; (· first | rfl | (go_simp; done)); simp only [Act.put, List.setIfInBounds_toArray, List.set_cons_zero, List.set_cons_succ])
                      | (refine held_val (v := ?_) ?_ ?_ ?_
                         rotate_left
                         · first | rfl | (go_simp; done)
                         · intro wq hq
                           have y2 := cell_step hq c2
                           have y3 := cell_step hq c3
                           go_simp
                           with_reducible rfl
                         simp only [Act.put, List.setIfInBounds_toArray, List.set_cons_zero, List.set_cons_succ])
                    refine held_nil ?_
                    intro w2 hb2
                    have HB2 := Lib.hid (bstep HB1.out hb2)
                    have HBX2 := Lib.hid (HBX1.out.grow hb2)
                    clear hb2
                    obtain ⟨p0, p1, p2, p3⟩ := HBX2.out.cells
                    go_wp2_with fail
                    exact ⟨⟨j + 1, by omega, by simp, HB2.out⟩, by simp [intOf]; omega⟩
                · have hjl2 : ¬ ((j : Int) < x.n) := by omega
                  obtain ⟨al, rfl, _, c0, c1, c2, c3⟩ := (HL.out.grow HBJ.out) k x HX0.out
                  clear hn hxs
                  go_wp2_with fail
                  exact ⟨⟨k + 1, by omega, by simp, HBJ.out⟩, by simp [intOf]; omega⟩
            · have hkl : ¬ ((k : Int) < (l.length : Int)) := by omega
              go_wp2_with (go_at_call 10; refine (wakes_any _).mono ?_; rintro e w9 ⟨rfl, hb⟩; have HB9 := Lib.hid (bstep (bstep HB.out HBR.out) hb); clear hb)
              go_ret
              exact ⟨rfl, HB9.out⟩
      · have b0 : (r == 0) = false := by rw [beq_eq_false_iff_ne]; exact hr0
        have hmn : m = [] := by rw [← hm]; exact move_no HGL.out (by rw [hr]; exact hr0)
        subst hmn
        have tok1 : True := trivial
        have HR0 := Lib.hid hr0
        clear hm hr hr0
        go_enter Try.func8, Try.ntmps8
        go_wp2_with (first
          | (go_at_call 13; go_loud (refine (rgood_is _ _ _ l _ HG.out rfl (by omega) _ HL.out).mono ?_; rintro e w3 ⟨rfl, hb3⟩; replace HL := Lib.hid (HL.out.grow hb3); replace HBX := Lib.hid (HBX.out.grow hb3); replace HB := Lib.hid (bstep HB.out hb3); clear hb3; obtain ⟨p0, p1, p2, p3⟩ := HBX.out.cells)))
        go_region_with (first
          | (go_at_call 11; go_loud (refine (few_any _ _ l (by omega) HC.out.nil _ (HL.out.grow (Below.refl _ _).drew)).mono ?_; rintro e w5 ⟨oa5, cap5, rfl, hr5, hb5⟩; have HI := Lib.hid hr5.pts; replace HB := Lib.hid (bstep HB.out.drew hb5); replace HL := Lib.hid ((HL.out.grow (Below.refl _ _).drew).grow hb5); replace HBX := Lib.hid ((HBX.out.grow (Below.refl _ _).drew).grow hb5); clear hr5 hb5 p0 p1 p2 p3; obtain ⟨p0, p1, p2, p3⟩ := HBX.out.cells))
          | (go_at_call 23; go_loud (refine (move_is _ _ _ l [] ma mf mn mt tt r HM.out HE.out rfl HMF.out (by omega) _ HI.out).mono ?_; rintro e w6 ⟨oa6, cap6, rfl, _, hp6, hb6⟩; replace HB := Lib.hid (bstep HB.out hb6); clear hb6 hp6 p0 p1 p2 p3)))
        all_goals
          go_wp2_with (go_at_call 10; refine (wakes_any _).mono ?_; rintro e w9 ⟨rfl, hb⟩; have HB9 := Lib.hid (bstep HB.out hb); clear hb)
          go_ret
          exact ⟨rfl, HB9.out⟩
    · have HG : Hid (decide (Good l) = false) := Lib.hid (decide_eq_false hg)
      clear hg
      go_enter Try.func8, Try.ntmps8
      go_wp2_with (first
        | (go_at_call 13; go_loud (refine (rgood_is _ _ _ l _ HG.out rfl (by omega) _ HL.out).mono ?_; rintro e w3 ⟨rfl, hb3⟩; replace HB := Lib.hid (bstep HB.out hb3); clear hb3))
        | (go_at_call 10; refine (wakes_any _).mono ?_; rintro e w1 ⟨rfl, hb⟩; have HB9 := Lib.hid (bstep HB.out hb); clear hb))
      go_ret
      exact ⟨rfl, HB9.out⟩
end Go.Proofs.Ytcjgnemceciccaa.ExtW
