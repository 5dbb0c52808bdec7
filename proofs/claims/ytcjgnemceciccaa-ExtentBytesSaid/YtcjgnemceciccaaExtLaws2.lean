/- The laws of extent: Holes. -/
import Derived.Test.YtcjgnemceciccaaExtLaws
import Derived.Test.YtcjgnemceciccaaKeep
namespace Go.Proofs.Ytcjgnemceciccaa.ExtW
open Go.RowKit
theorem covers_at {g : Int → Option (Int × Int)} : ∀ {lo : Int} {l : List Pt} {hi : Int}, Covers g lo l hi → ∀ {i : Nat} {x : Pt}, l[i]? = some x →
    lo ≤ x.o ∧ 1 ≤ x.n ∧ x.o + x.n ≤ hi ∧ (∀ j, x.o ≤ j → j < x.o + x.n → (x.a = -1 ∧ g j = none) ∨ (0 ≤ x.a ∧ g j = some (x.a, x.f + (j - x.o)))) ∧ Covers g x.o (l.drop i) hi
  | _, [], _, _, i, x, hx => by simp at hx
  | lo, y :: l, hi, h, 0, x, hx => by
    obtain rfl : y = x := by simpa using hx
    obtain ⟨h1, h2, h3, h4⟩ := h
    have hle : ∀ {lo : Int} {l : List Pt} {hi : Int}, Covers g lo l hi → lo ≤ hi := by
      intro lo l
      induction l generalizing lo with
      | nil => intro hi h; obtain rfl : lo = hi := h; exact Int.le_refl _
      | cons z l ih => intro hi h; have := ih h.2.2.2; have := h.2.1; omega
    have h5 := hle h4
    refine ⟨by omega, h2, by omega, fun j a b => by rw [h1]; exact h3 j (by omega) (by omega), ?_⟩
    rw [h1]; exact ⟨h1, h2, h3, h4⟩
  | lo, y :: l, hi, h, i + 1, x, hx => by
    obtain ⟨h1, h2, h3, h4⟩ := h
    have := covers_at h4 (i := i) (x := x) (by simpa using hx)
    exact ⟨by omega, this.2.1, this.2.2.1, this.2.2.2.1, this.2.2.2.2⟩
theorem good_nil : Good [] := by decide
theorem plan_nil (o m : Int) (h : Whole o m 8192) : planS [] o m = [⟨o, m, -1, 0⟩] := by
  unfold planS
  rw [if_pos good_nil, if_pos h]
  unfold Whole at h
  show holeL o (o + m) = _
  unfold holeL
  rw [if_pos (by omega), show o + m - o = m by omega]
theorem end_cut {l : List Pt} (h : Good l) (k : Int) (hk : 0 ≤ k) : endS (cutL l k) ≤ k := by
  unfold endS
  rw [if_pos (cut_good h k)]
  by_cases c : cutL l k = []
  · rw [c]; exact hk
  · exact end_le (cut_sorted (good_sorted h) k hk) c
set_option maxRecDepth 100000 in
set_option maxHeartbeats 3200000 in
theorem holes_walk (oa : Option Addr) (cap : Nat) (l : List Pt) (hl : l.length ≤ maxLen) (off : Int) (_ : (Lit.int .i64 off).wf = true) (n : Int) (_ : (Lit.int .i64 n).wf = true) (s : Int) (_ : (Lit.int .i64 s).wf = true) (w : World) (h : Came w oa cap l) :
    Calls Try.prog 9 #[.slice oa l.length cap, .agg #[.int .i64 off, .int .i64 n], .int .i64 s] w fun e w' => e = .returned (.bool true) ∧ Below w.heap.size w w' := by
  unfold maxLen at hl
  have HC := Lib.hid h
  have HP0 := Lib.hid (HC.out.pts.grow (below_alloc w (.cells #[.int .i64 off, .int .i64 n] 48)))
  clear h
  by_cases hbig : 64 < l.length
  · go_enter Try.func9, Try.ntmps9
    go_wp2_with fail
    refine held_below (by kernel_rfl) (by kernel_rfl) ?_
    repeat first
      | (refine held_skip ?_ ?_; (· first | rfl | (go_simp; done)); simp only [Act.put, List.setIfInBounds_toArray, List.set_cons_zero, List.set_cons_succ])
      | (refine held_val (v := ?_) ?_ ?_ ?_
         rotate_left
         · first | rfl | (go_simp; done)
         · intro wq hq
           have g0 := cell_step hq (alloc_cell w #[.int .i64 off, .int .i64 n] 48 0 _ rfl)
           have g1 := cell_step hq (alloc_cell w #[.int .i64 off, .int .i64 n] 48 1 _ rfl)
           go_simp
           with_reducible rfl
         simp only [Act.put, List.setIfInBounds_toArray, List.set_cons_zero, List.set_cons_succ])
    refine held_nil ?_
    intro w2 hb2
    have HB := Lib.hid (bstep (below_alloc w (.cells #[.int .i64 off, .int .i64 n] 48)) hb2)
    have HL := Lib.hid (HP0.out.grow hb2)
    clear hb2
    go_wp2_with (go_at_call 10; refine (wakes_any _).mono ?_; rintro e w1 ⟨rfl, hb⟩; have HB9 := Lib.hid (bstep HB.out hb); clear hb)
    go_ret
    exact ⟨rfl, HB9.out⟩
  · have hl2 : l.length ≤ 64 := by omega
    have hbig' : decide ((64 : Int) < (l.length : Int)) = false := decide_eq_false (by omega)
    clear hl hbig
    by_cases hg : Good l
    · have HG : Hid (decide (Good l) = true) := Lib.hid (decide_eq_true hg)
      obtain ⟨o, ho⟩ : ∃ o, off % 8192 = o := ⟨_, rfl⟩
      have hob : 0 ≤ o ∧ o ≤ 8191 := by omega
      obtain ⟨d, hd⟩ : ∃ d, 8192 - o = d := ⟨_, rfl⟩
      have hwd : IntKind.i64.wrap (8192 - o) = d := by rw [← hd]; exact IntWalk.i64_in _ (by omega)
      obtain ⟨m, hm⟩ : ∃ m, 1 + n % d = m := ⟨_, rfl⟩
      have hmb : 1 ≤ m ∧ o + m ≤ 8192 := by
        have h1 := Int.emod_nonneg n (b := d) (by omega)
        have h2 := Int.emod_lt_of_pos n (b := d) (by omega)
        omega
      have hwm : IntKind.i64.wrap (1 + n % d) = m := by rw [← hm]; exact IntWalk.i64_in _ (by omega)
      obtain ⟨k, hk⟩ : ∃ k, s % 8193 = k := ⟨_, rfl⟩
      have hkb : 0 ≤ k ∧ k ≤ 8192 := by omega
      obtain ⟨r, hr⟩ : ∃ r, n % d = r := ⟨_, rfl⟩
      rw [hr] at hwm
      have hdb : 1 ≤ d ∧ d ≤ 8192 := by omega
      have HM1 := Lib.hid (fun (w : World) => ho ▸ mod_any off 8192 w (by omega) (by omega))
      have HM2 := Lib.hid (fun (w : World) => hr ▸ mod_any n d w (by omega) (by omega))
      have HM3 := Lib.hid (fun (w : World) => hk ▸ mod_any s 8193 w (by omega) (by omega))
      have hwh : Whole o m 8192 := by unfold Whole; omega
      obtain ⟨c, hc⟩ : ∃ c, cutL l k = c := ⟨_, rfl⟩
      have HCS : Hid (cutS l k = c) := Lib.hid (by unfold cutS; rw [if_pos hg]; exact hc)
      have hcg : Good c := by rw [← hc]; exact cut_good hg k
      have HGC : Hid (decide (Good c) = true) := Lib.hid (decide_eq_true hcg)
      obtain ⟨en, hen⟩ : ∃ en, endS c = en := ⟨_, rfl⟩
      have henb : en ≤ k := by rw [← hen, ← hc]; exact end_cut hg k hkb.1
      obtain ⟨q, hq⟩ : ∃ q, planS c o m = q := ⟨_, rfl⟩
      have hq2 : planL o (o + m) c = q := by rw [← hq]; unfold planS; rw [if_pos hcg, if_pos hwh]
      have HCOV : Hid (Covers (look c) o q (o + m)) := Lib.hid (by rw [← hq2]; exact plan_covers hcg hwh)
      have hql : q.length ≤ 129 := by rw [← hq]; exact planS_len c o m
      have HLOOK : Hid (∀ j, k ≤ j → look c j = none) := Lib.hid fun j hj => by rw [← hc, look_cut, if_neg (by omega)]
      have HPN := Lib.hid (plan_nil o m hwh)
      have HQ := Lib.hid hq
      have HEN := Lib.hid hen
      have hcl : c.length ≤ 64 := hcg.1
      have tok1 : True := trivial
      have hkb2 : -9223372036854775808 ≤ k ∧ k ≤ 9223372036854775807 := by omega
      have HKB := Lib.hid hkb2
      clear hg ho hd hm hr hk hwh hc hcg hen hq hq2 hkb2
      have HOB := Lib.hid hob
      have HMB := Lib.hid hmb
      go_enter Try.func9, Try.ntmps9
      go_wp2_with fail
      refine held_below (by kernel_rfl) (by kernel_rfl) ?_
      repeat first
        | (refine held_skip ?_ ?_; (· first | rfl | (go_simp; done)); simp only [Act.put, List.setIfInBounds_toArray, List.set_cons_zero, List.set_cons_succ])
        | (refine held_val (v := ?_) ?_ ?_ ?_
           rotate_left
           · first | rfl | (go_simp; done)
           · intro wq hq
             have g0 := cell_step hq (alloc_cell w #[.int .i64 off, .int .i64 n] 48 0 _ rfl)
             have g1 := cell_step hq (alloc_cell w #[.int .i64 off, .int .i64 n] 48 1 _ rfl)
             go_simp
             with_reducible rfl
           simp only [Act.put, List.setIfInBounds_toArray, List.set_cons_zero, List.set_cons_succ])
      refine held_nil ?_
      intro w2 hb2
      have HB := Lib.hid (bstep (below_alloc w (.cells #[.int .i64 off, .int .i64 n] 48)) hb2)
      have HL := Lib.hid (HP0.out.grow hb2)
      clear hb2
      go_wp2_with (first
        | (go_at_call 13; go_loud (refine (rgood_is _ _ _ l _ HG.out rfl (by omega) _ HL.out).mono ?_; rintro e w3 ⟨rfl, hb3⟩; replace HL := Lib.hid (HL.out.grow hb3); replace HB := Lib.hid (bstep HB.out hb3); clear hb3))
        | (go_at_call_of 26 (Value.int IntKind.i64 8192); have _t := tok1; clear _t tok1; go_loud (refine (HM1.out _).mono ?_; rintro e w3 ⟨rfl, rfl⟩; have tok2 : True := trivial))
        | (go_at_call 26; have _t := tok2; clear _t tok2; go_loud (refine (HM2.out _).mono ?_; rintro e w3 ⟨rfl, rfl⟩; have tok3 : True := trivial))
        | (go_at_call 21; have _t := tok3; clear _t tok3; go_loud (refine (plan_is none 0 0 [] [⟨o, m, -1, 0⟩] o m HPN.out rfl (by simp) _ (fun i x hx => by simp at hx)).mono ?_; rintro e w4 ⟨oa4, cap4, rfl, _, hp4, hb4⟩; replace HL := Lib.hid (HL.out.grow hb4); replace HB := Lib.hid (bstep HB.out hb4); clear hb4; obtain ⟨a4, rfl, _, p0, p1, p2, p3⟩ := hp4 0 ⟨o, m, -1, 0⟩ rfl; replace p0 : w4.cell? a4 = some (.int .i64 o) := p0; replace p1 : w4.cell? ⟨a4.block, a4.off + 1, none⟩ = some (.int .i64 m) := p1; replace p2 : w4.cell? ⟨a4.block, a4.off + 2, none⟩ = some (.int .i64 (-1)) := p2; replace p3 : w4.cell? ⟨a4.block, a4.off + 3, none⟩ = some (.int .i64 0) := p3; clear hp4; have tok4 : True := trivial))
        | (go_at_call 26; have _t := tok4; clear _t tok4; go_loud (refine (HM3.out _).mono ?_; rintro e w3 ⟨rfl, rfl⟩; have tok5 : True := trivial))
        | (go_at_call 11; go_loud (refine (few_any _ _ l (by omega) HC.out.nil _ HL.out).mono ?_; rintro e w5 ⟨oa5, cap5, rfl, hr5, hb5⟩; have HI := Lib.hid hr5.pts; replace HB := Lib.hid (bstep HB.out hb5); clear hr5 hb5))
        | (go_at_call 17; go_loud (refine (cut_is2 _ _ _ l c k HCS.out rfl HKB.out (by omega) _ HI.out).mono ?_; rintro e w6 ⟨oa6, cap6, rfl, _, hp6, hb6⟩; have HX := Lib.hid hp6; replace HB := Lib.hid (bstep HB.out hb6); clear hb6 hp6))
        | (go_at_call 12; go_loud (refine (good_is2 _ _ _ c true HGC.out rfl (by omega) _ HX.out).mono ?_; rintro e w7 ⟨rfl, hb7⟩; replace HX := Lib.hid (HX.out.grow hb7); replace HB := Lib.hid (bstep HB.out hb7); clear hb7))
        | (go_at_call 14; go_loud (refine (end_is _ _ _ c en HEN.out rfl (by omega) _ HX.out).mono ?_; rintro e w7 ⟨rfl, hb7⟩; replace HX := Lib.hid (HX.out.grow hb7); replace HB := Lib.hid (bstep HB.out hb7); clear hb7))
        | (go_at_call 21; have _t := tok5; go_loud (refine (plan_is _ _ _ c q o m HQ.out rfl (by omega) _ HX.out).mono ?_; rintro e w8 ⟨oa8, cap8, rfl, _, hp8, hb8⟩; have HP8 := Lib.hid hp8; replace HB := Lib.hid (bstep HB.out hb8); clear hb8 hp8)))
      clear p0 p1 p2 p3 tok5
      go_loopw [15] (fun i wr => ∃ j : Nat, j ≤ q.length ∧ i = .int .i64 (j : Int) ∧ Below w8.heap.size w8 wr) (fun i _ => ((q.length : Int) - intOf i).toNat)
      case atStart => exact ⟨0, by omega, rfl, Below.refl _ _⟩
      case round =>
        obtain ⟨j, hj, rfl, hbel⟩ := hrel
        have HBR := Lib.hid hbel
        clear hbel
        by_cases hlt : j < q.length
        · obtain ⟨x, hx⟩ : ∃ x, q[j]? = some x := ⟨_, List.getElem?_eq_getElem hlt⟩
          obtain ⟨a9, rfl, hab, c0, c1, c2, c3⟩ := (HP8.out.below HBR.out) j x hx
          have hcv := covers_at HCOV.out hx
          have hj0 : (0 : Int) ≤ (j : Int) := by omega
          have hjl : (j : Int) < (q.length : Int) := by omega
          have hob := HOB.out
          have hmb := HMB.out
          have hws : IntKind.i64.wrap (x.o + x.n) = x.o + x.n := IntWalk.i64_in _ (by omega)
          by_cases hk2 : k < x.o + x.n
          · have hxa : decide (0 ≤ x.a) = false := by
              rcases hcv.2.2.2.1 (x.o + x.n - 1) (by omega) (by omega) with ⟨h1, _⟩ | ⟨_, h2⟩
              · exact decide_eq_false (by omega)
              · rw [HLOOK.out _ (by omega)] at h2; cases h2
            have hk3 : decide (k < x.o + x.n) = true := decide_eq_true hk2
            clear hcv hob hmb hx hk2
            go_wp2_with fail
            refine held_below (by kernel_rfl) (by kernel_rfl) ?_
            repeat first
              | (refine held_skip ?_ ?_; (· first | rfl | (go_simp; done)); simp only [Act.put, List.setIfInBounds_toArray, List.set_cons_zero, List.set_cons_succ])
              | (refine held_val (v := ?_) ?_ ?_ ?_
                 rotate_left
                 · first | rfl | (go_simp; done)
                 · intro wq hq
                   have e0 := cell_step hq c0
                   have e1 := cell_step hq c1
                   have e2 := cell_step hq c2
                   go_simp
                   with_reducible rfl
                 simp only [Act.put, List.setIfInBounds_toArray, List.set_cons_zero, List.set_cons_succ])
            refine held_nil ?_
            intro w2 hb2
            have HB3 := Lib.hid (bstep HBR.out hb2)
            clear hb2
            go_wp2_with fail
            exact ⟨⟨j + 1, by omega, by simp, HB3.out⟩, by simp [intOf]; omega⟩
          · have hk3 : decide (k < x.o + x.n) = false := decide_eq_false hk2
            clear hcv hob hmb hx hk2
            go_wp2_with fail
            refine held_below (by kernel_rfl) (by kernel_rfl) ?_
            repeat first
              | (refine held_skip ?_ ?_; (· first | rfl | (go_simp; done)); simp only [Act.put, List.setIfInBounds_toArray, List.set_cons_zero, List.set_cons_succ])
              | (refine held_val (v := ?_) ?_ ?_ ?_
                 rotate_left
                 · first | rfl | (go_simp; done)
                 · intro wq hq
                   have e0 := cell_step hq c0
                   have e1 := cell_step hq c1
                   have e2 := cell_step hq c2
                   go_simp
                   with_reducible rfl
                 simp only [Act.put, List.setIfInBounds_toArray, List.set_cons_zero, List.set_cons_succ])
            refine held_nil ?_
            intro w2 hb2
            have HB3 := Lib.hid (bstep HBR.out hb2)
            clear hb2
            go_wp2_with fail
            exact ⟨⟨j + 1, by omega, by simp, HB3.out⟩, by simp [intOf]; omega⟩
        · have hjl : ¬ ((j : Int) < (q.length : Int)) := by omega
          go_wp2_with (go_at_call 10; refine (wakes_any _).mono ?_; rintro e w9 ⟨rfl, hb⟩; have HB9 := Lib.hid (bstep (bstep HB.out HBR.out) hb); clear hb)
          go_ret
          exact ⟨rfl, HB9.out⟩
    · have HG : Hid (decide (Good l) = false) := Lib.hid (decide_eq_false hg)
      clear hg
      go_enter Try.func9, Try.ntmps9
      go_wp2_with fail
      refine held_below (by kernel_rfl) (by kernel_rfl) ?_
      repeat first
        | (refine held_skip ?_ ?_; (· first | rfl | (go_simp; done)); simp only [Act.put, List.setIfInBounds_toArray, List.set_cons_zero, List.set_cons_succ])
        | (refine held_val (v := ?_) ?_ ?_ ?_
           rotate_left
           · first | rfl | (go_simp; done)
           · intro wq hq
             have g0 := cell_step hq (alloc_cell w #[.int .i64 off, .int .i64 n] 48 0 _ rfl)
             have g1 := cell_step hq (alloc_cell w #[.int .i64 off, .int .i64 n] 48 1 _ rfl)
             go_simp
             with_reducible rfl
           simp only [Act.put, List.setIfInBounds_toArray, List.set_cons_zero, List.set_cons_succ])
      refine held_nil ?_
      intro w2 hb2
      have HB := Lib.hid (bstep (below_alloc w (.cells #[.int .i64 off, .int .i64 n] 48)) hb2)
      have HL := Lib.hid (HP0.out.grow hb2)
      clear hb2
      go_wp2_with (first
        | (go_at_call 13; go_loud (refine (rgood_is _ _ _ l _ HG.out rfl (by omega) _ HL.out).mono ?_; rintro e w3 ⟨rfl, hb3⟩; replace HB := Lib.hid (bstep HB.out hb3); clear hb3))
        | (go_at_call 10; refine (wakes_any _).mono ?_; rintro e w1 ⟨rfl, hb⟩; have HB9 := Lib.hid (bstep HB.out hb); clear hb))
      go_ret
      exact ⟨rfl, HB9.out⟩
end Go.Proofs.Ytcjgnemceciccaa.ExtW
