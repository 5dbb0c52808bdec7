/- The reference's Plan. -/
import Derived.Test.YtcjgnemceciccaaExtRef3
namespace Go.Proofs.Ytcjgnemceciccaa.ExtW
open Go.RowKit
theorem Row.app {B : Nat} {w : World} {oa : Option Addr} {n cap : Nat} {l : List Pt} (x : Pt) (hn : n = l.length)
    (h : w.ownsRow B 31 4 (.slice oa (n + 1) cap) (n + 1) (cellsOf l ++ (#[Value.int .i64 x.o, .int .i64 x.n, .int .i64 x.a, .int .i64 x.f] : Array Value).toList)) : Row B w (.slice oa (n + 1) cap) (l ++ [x]) := by
  subst hn; exact Row.snoc x h
theorem rplan_bad (l : List Pt) (off n : Int) (hw : ¬ (Good l ∧ Whole off n 8192)) : planS l off n = [] := by
  unfold planS
  by_cases h : Good l
  · rw [if_pos h, if_neg (fun h2 => hw ⟨h, h2⟩)]
  · rw [if_neg h]
set_option maxRecDepth 100000 in
set_option maxHeartbeats 3200000 in
theorem rplan_any (oa : Option Addr) (cap : Nat) (l : List Pt) (off n : Int) (hl : l.length ≤ 9223372036854775807) (w : World) (h : PtsAt w.heap.size oa l w) :
    Calls Try.prog 22 #[.slice oa l.length cap, .int .i64 off, .int .i64 n] w fun e w' => ∃ v, e = .returned v ∧ Row w.heap.size w' v (planS l off n) ∧ Below w.heap.size w w' := by
  obtain ⟨i0, hi, hz0, hz1, hz2⟩ := info_parts partinfo
  have HP := Lib.hid h
  clear h
  by_cases hg : Good l
  · have HG : Hid (decide (Good l) = true) := Lib.hid (decide_eq_true hg)
    have hl64 := hg.1
    have HGL := Lib.hid hg
    have HO : Hid (∀ y ∈ l, One y) := Lib.hid (chain_ones hg.2)
    clear hg hl
    by_cases h0 : 0 ≤ off
    · have d0 : decide (off < 0) = false := decide_eq_false (by omega)
      by_cases h1 : off ≤ 8192
      · have d1 : decide (8192 < off) = false := decide_eq_false (by omega)
        by_cases h2 : 1 ≤ n
        · have d2 : decide (n < 1) = false := decide_eq_false (by omega)
          by_cases h3 : n ≤ 8192
          · have d3 : decide (8192 < n) = false := decide_eq_false (by omega)
            have hw4 : IntKind.i64.wrap (off + n) = off + n := IntWalk.i64_in _ (by omega)
            by_cases h4 : off + n ≤ 8192
            · have d4 : decide (8192 < off + n) = false := decide_eq_false (by omega)
              have hwh : Whole off n 8192 := by unfold Whole; omega
              have HE : Hid (planS l off n = planL off (off + n) l) := Lib.hid (by unfold planS; rw [if_pos HGL.out, if_pos hwh])
              obtain ⟨e, he⟩ : ∃ e, off + n = e := ⟨_, rfl⟩
              have hwe : IntKind.i64.wrap (off + n) = e := by rw [← he]; exact hw4
              rw [he] at HE d4
              have HBD : Hid (0 ≤ off ∧ off ≤ e ∧ e ≤ 8192) := Lib.hid (by omega)
              clear hw4 he hwh
              go_enter Try.func22, Try.ntmps22
              go_wp2_with (go_at_call 13; refine (rgood_is _ _ _ _ _ HG.out rfl (by omega) _ HP.out).mono ?_; rintro e w1 ⟨rfl, hb1⟩; have HB1 := Lib.hid hb1; clear hb1)
              clear d0 d1 d2 d3 d4
              go_loopw [7, 8, 9] (fun v t i wr => ∃ k : Nat, k ≤ l.length ∧ i = .int .i64 (k : Int) ∧ Row w1.heap.size wr v (planF off e (l.take k)).1 ∧ t = .int .i64 (planF off e (l.take k)).2 ∧ Below w1.heap.size w1 wr) (fun _ _ i _ => ((l.length : Int) - intOf i).toNat)
              case atStart => exact ⟨0, by omega, rfl, Row.nil _ _, rfl, Below.refl _ _⟩
              case round =>
                obtain ⟨k, hk, rfl, hrow, rfl, hbel⟩ := hrel
                have HB := Lib.hid hbel
                have hbd := HBD.out
                have hat := plan_at off e (by omega) (l.take k) [] off (by omega) (by omega)
                have HLEN : Hid ((planF off e (l.take k)).1.length ≤ 128) := Lib.hid (by have := plan_len off e (l.take k) [] off; simp only [List.length_take, List.length_nil] at this; unfold planF; omega)
                have hatt : 0 ≤ (planF off e (l.take k)).2 ∧ (planF off e (l.take k)).2 ≤ 8192 := by unfold planF; omega
                have HZ := Lib.hid hbel.size
                clear hbel hat
                by_cases hlt : k < l.length
                · obtain ⟨x, hx⟩ : ∃ x, l[k]? = some x := ⟨_, List.getElem?_eq_getElem hlt⟩
                  have HX1 := Lib.hid (plan_more off e hx)
                  generalize planF off e (l.take k) = P at hrow HX1 HLEN hatt
                  obtain ⟨L, at_⟩ := P
                  simp only at hrow HLEN hatt ⊢
                  obtain ⟨a, rfl, hab, c0, c1, c2, c3⟩ := (HP.out.below (bstep HB1.out HB.out)) k x hx
                  have hxs := (HO.out x (List.mem_of_getElem? hx)).small
                  have HX := Lib.hid hx
                  have hk0 : (0 : Int) ≤ (k : Int) := by omega
                  have hkl : (k : Int) < (l.length : Int) := by omega
                  clear hx
                  obtain ⟨F, hF⟩ : ∃ F, max x.o off = F := ⟨_, rfl⟩
                  obtain ⟨T, hT⟩ : ∃ T, min (x.o + x.n) e = T := ⟨_, rfl⟩
                  have hF' : (if x.o < off then off else x.o) = F := by rw [← hF]; split <;> omega
                  have hT' : (if e < x.o + x.n then e else x.o + x.n) = T := by rw [← hT]; split <;> omega
                  have hw1 : IntKind.i64.wrap (x.o + x.n) = x.o + x.n := IntWalk.i64_in _ (by omega)
                  obtain ⟨oa2, cap2, rfl, hc2, _, _⟩ := hrow.form
                  have HR := Lib.hid hrow
                  clear hrow
                  have hll := HLEN.out
                  obtain ⟨n0, hn0⟩ : ∃ n0, L.length = n0 := ⟨_, rfl⟩
                  rw [hn0] at HR hc2 hll ⊢
                  have HN0 := Lib.hid hn0
                  clear hn0
                  by_cases hft : F < T
                  · have hwa : IntKind.i64.wrap (T - F) = T - F := IntWalk.i64_in _ (by omega)
                    have hwb : IntKind.i64.wrap (x.f + F) = x.f + F := IntWalk.i64_in _ (by omega)
                    have hwc : IntKind.i64.wrap (x.f + F - x.o) = x.f + F - x.o := IntWalk.i64_in _ (by omega)
                    have hwd : IntKind.i64.wrap (F - at_) = F - at_ := IntWalk.i64_in _ (by omega)
                    have HX2 : Hid (planF off e (l.take (k + 1)) = (L ++ holeL at_ F ++ [⟨F, T - F, x.a, x.f + F - x.o⟩], T)) := Lib.hid (by rw [HX1.out, ← hF, ← hT]; exact if_pos (by omega))
                    by_cases hh : at_ < F
                    · have HHO : Hid (holeL at_ F = [⟨at_, F - at_, -1, 0⟩]) := Lib.hid (if_pos hh)
                      clear hF hT hxs hbd hatt
                      go_wp2_with fail
                      refine held_below (by kernel_rfl) (by kernel_rfl) ?_
                      repeat first
                        | (refine held_skip ?_ ?_; (· first | rfl | (go_simp; done)); simp only [Act.put, List.setIfInBounds_toArray, List.set_cons_zero, List.set_cons_succ])
                        | (refine held_val (v := ?_) ?_ ?_ ?_
                           rotate_left
                           · first | rfl | (go_simp; done)
                           · intro wq hq
                             have e0 := cell_step hq c0
                             have e1 := cell_step hq c1
                             have e2 := cell_step hq c2
                             have e3 := cell_step hq c3
                             go_simp
                             with_reducible rfl
                           simp only [Act.put, List.setIfInBounds_toArray, List.set_cons_zero, List.set_cons_succ])
                      refine held_nil ?_
                      intro w2 hb2
                      have HB2 := Lib.hid (bstep HB.out hb2)
                      have HOWN : Hid (w2.ownsRow w1.heap.size 31 4 (.slice oa2 n0 cap2) n0 (cellsOf L)) := Lib.hid (by rw [← HN0.out] at HR ⊢; exact HR.out.grow hb2)
                      replace c0 := cell_step hb2 c0
                      replace c1 := cell_step hb2 c1
                      replace c2 := cell_step hb2 c2
                      replace c3 := cell_step hb2 c3
                      clear hb2
                      go_wp2_with (at_builtin; go_loud (refine wpList_append_newB rfl _ _ 22 rfl w1.heap.size 31 i0 (.agg #[.int .i64 0, .int .i64 0, .int .i64 0, .int .i64 0]) 4 32 Try.underlying22 hi hz0 hz1 hz2 rfl (by decide) _ _ _ (by rfl) HOWN.out _ 1 1 (by rfl) rfl (cells_onecell [⟨at_, F - at_, -1, 0⟩]) (by unfold maxLen; omega) (by omega) HB2.out.size (by simp) ?_; intro oa5 cap5 w5 hown5 hbel5 hg5; have HR5 := Lib.hid (Row.app ⟨at_, F - at_, -1, 0⟩ HN0.out.symm hown5); have HB5 := Lib.hid (HB2.out.trans hbel5); have hbk := (bstep HB1.out HB2.out).trans (hbel5.mono HB1.out.size); clear hown5 hbel5 hg5; obtain ⟨a', ha', _, c0', c1', c2', c3'⟩ := (HP.out.below hbk) k x HX.out; obtain rfl : a = a' := by simpa using ha'))
                      have HOWN5 : Hid (w5.ownsRow w1.heap.size 31 4 (.slice oa5 (n0 + 1) cap5) (n0 + 1) (cellsOf (L ++ [⟨at_, F - at_, -1, 0⟩]))) := Lib.hid (by have := HR5.out; unfold Row at this; rw [List.length_append, HN0.out] at this; exact this)
                      obtain ⟨n1, hn1⟩ : ∃ n1, n0 + 1 = n1 := ⟨_, rfl⟩
                      have hn1b : n1 ≤ 129 := by omega
                      rw [hn1] at HOWN5
                      have HN1 : Hid (n1 = (L ++ [(⟨at_, F - at_, -1, 0⟩ : Pt)]).length) := Lib.hid (by rw [List.length_append, HN0.out]; exact hn1.symm)
                      go_region_law ((refine step_append_newD rfl _ _ 22 rfl w1.heap.size 31 i0 (.agg #[.int .i64 0, .int .i64 0, .int .i64 0, .int .i64 0]) 4 32 Try.underlying22 hi hz0 hz1 hz2 rfl (by decide) _ _ _ (by rfl) HOWN5.out _ 1 1 (by rfl) rfl (cells_onecell [⟨F, T - F, x.a, x.f + F - x.o⟩]) (by unfold maxLen; omega) (by omega) HB5.out.size (by rfl) ?_; intro oa6 cap6 w6 hown6 hbel6; have HS6 := Lib.hid hown6; have HB6 := Lib.hid hbel6; clear hown6 hbel6))
                      all_goals (go_wp2_with fail)
                      all_goals exact ⟨⟨k + 1, by omega, by simp, by rw [HX2.out, HHO.out]; exact Row.app ⟨F, T - F, x.a, x.f + F - x.o⟩ HN1.out HS6.out, by rw [HX2.out], HB5.out.trans HB6.out⟩, by simp [intOf]; omega⟩
                    · have HHO : Hid (holeL at_ F = []) := Lib.hid (if_neg hh)
                      clear hF hT hxs hbd hatt
                      go_wp2_with fail
                      refine held_below (by kernel_rfl) (by kernel_rfl) ?_
                      repeat first
                        | (refine held_skip ?_ ?_; (· first | rfl | (go_simp; done)); simp only [Act.put, List.setIfInBounds_toArray, List.set_cons_zero, List.set_cons_succ])
                        | (refine held_val (v := ?_) ?_ ?_ ?_
                           rotate_left
                           · first | rfl | (go_simp; done)
                           · intro wq hq
                             have e0 := cell_step hq c0
                             have e1 := cell_step hq c1
                             have e2 := cell_step hq c2
                             have e3 := cell_step hq c3
                             go_simp
                             with_reducible rfl
                           simp only [Act.put, List.setIfInBounds_toArray, List.set_cons_zero, List.set_cons_succ])
                      refine held_nil ?_
                      intro w2 hb2
                      have HB2 := Lib.hid (bstep HB.out hb2)
                      have HOWN : Hid (w2.ownsRow w1.heap.size 31 4 (.slice oa2 n0 cap2) n0 (cellsOf L)) := Lib.hid (by rw [← HN0.out] at HR ⊢; exact HR.out.grow hb2)
                      replace c0 := cell_step hb2 c0
                      replace c1 := cell_step hb2 c1
                      replace c2 := cell_step hb2 c2
                      replace c3 := cell_step hb2 c3
                      clear hb2
                      go_wp2_with fail
                      go_region_law ((refine step_append_newD rfl _ _ 22 rfl w1.heap.size 31 i0 (.agg #[.int .i64 0, .int .i64 0, .int .i64 0, .int .i64 0]) 4 32 Try.underlying22 hi hz0 hz1 hz2 rfl (by decide) _ _ _ (by rfl) HOWN.out _ 1 1 (by rfl) rfl (cells_onecell [⟨F, T - F, x.a, x.f + F - x.o⟩]) (by unfold maxLen; omega) (by omega) HB2.out.size (by rfl) ?_; intro oa6 cap6 w6 hown6 hbel6; have HS6 := Lib.hid hown6; have HB6 := Lib.hid hbel6; clear hown6 hbel6))
                      all_goals (go_wp2_with fail)
                      all_goals exact ⟨⟨k + 1, by omega, by simp, by rw [HX2.out, HHO.out, List.append_nil]; exact Row.app ⟨F, T - F, x.a, x.f + F - x.o⟩ HN0.out.symm HS6.out, by rw [HX2.out], HB2.out.trans HB6.out⟩, by simp [intOf]; omega⟩
                  · have HX2 : Hid (planF off e (l.take (k + 1)) = (L, at_)) := Lib.hid (by rw [HX1.out]; exact if_neg (by omega))
                    have hft2 : T ≤ F := by omega
                    clear hF hT hft hxs hbd hatt
                    go_wp2_with fail
                    refine held_below (by kernel_rfl) (by kernel_rfl) ?_
                    repeat first
                      | (refine held_skip ?_ ?_; (· first | rfl | (go_simp; done)); simp only [Act.put, List.setIfInBounds_toArray, List.set_cons_zero, List.set_cons_succ])
                      | (refine held_val (v := ?_) ?_ ?_ ?_
                         rotate_left
                         · first | rfl | (go_simp; done)
                         · intro wq hq
                           have e0 := cell_step hq c0
                           have e1 := cell_step hq c1
                           have e2 := cell_step hq c2
                           have e3 := cell_step hq c3
                           go_simp
                           with_reducible rfl
                         simp only [Act.put, List.setIfInBounds_toArray, List.set_cons_zero, List.set_cons_succ])
                    refine held_nil ?_
                    intro w2 hb2
                    have HB2 := Lib.hid (bstep HB.out hb2)
                    have HR2 := Lib.hid (HR.out.grow hb2)
                    clear hb2
                    go_wp2_with fail
                    exact ⟨⟨k + 1, by omega, by simp, by rw [HX2.out]; exact HR2.out, by rw [HX2.out], HB2.out⟩, by simp [intOf]; omega⟩
                · obtain rfl : k = l.length := by omega
                  rw [List.take_length] at hrow HLEN hatt ⊢
                  have HE2 : Hid (planL off e l = (planF off e l).1 ++ holeL (planF off e l).2 e) := Lib.hid rfl
                  generalize planF off e l = P at hrow HLEN HE2 hatt ⊢
                  obtain ⟨L, at_⟩ := P
                  simp only at hrow HLEN HE2 hatt ⊢
                  obtain ⟨oa2, cap2, rfl, hc2, _, _⟩ := hrow.form
                  have hwd : IntKind.i64.wrap (e - at_) = e - at_ := IntWalk.i64_in _ (by omega)
                  have hll := HLEN.out
                  by_cases hh : at_ < e
                  · have HHO : Hid (holeL at_ e = [⟨at_, e - at_, -1, 0⟩]) := Lib.hid (if_pos hh)
                    have HOWN : Hid (wr.ownsRow w1.heap.size 31 4 (.slice oa2 L.length cap2) L.length (cellsOf L)) := Lib.hid hrow
                    clear hrow hbd hatt
                    go_wp2_with (at_builtin; go_loud (refine wpList_append_newB rfl _ _ 22 rfl w1.heap.size 31 i0 (.agg #[.int .i64 0, .int .i64 0, .int .i64 0, .int .i64 0]) 4 32 Try.underlying22 hi hz0 hz1 hz2 rfl (by decide) _ _ _ (by rfl) HOWN.out _ 1 1 (by rfl) rfl (cells_onecell [⟨at_, e - at_, -1, 0⟩]) (by unfold maxLen; omega) (by omega) HZ.out (by simp) ?_; intro oa5 cap5 w5 hown5 hbel5 hg5; have HR5 := Lib.hid (Row.snoc ⟨at_, e - at_, -1, 0⟩ hown5); have HB5 := Lib.hid (HB.out.trans hbel5); clear hown5 hbel5 hg5))
                    go_ret
                    exact ⟨_, rfl, by rw [HE.out, HE2.out, HHO.out]; exact HR5.out.mono HB1.out.size, bstep HB1.out HB5.out⟩
                  · have HHO : Hid (holeL at_ e = []) := Lib.hid (if_neg hh)
                    have HR := Lib.hid hrow
                    clear hrow hbd hatt
                    go_wp2_with fail
                    go_ret
                    exact ⟨_, rfl, by rw [HE.out, HE2.out, HHO.out, List.append_nil]; exact HR.out.mono HB1.out.size, bstep HB1.out HB.out⟩
            · have HE := Lib.hid (rplan_bad l off n (fun h => h4 (by have := h.2; unfold Whole at this; omega)))
              have b4 : decide (8192 < off + n) = true := decide_eq_true (by omega)
              go_enter Try.func22, Try.ntmps22
              go_wp2_with (go_at_call 13; refine (rgood_is _ _ _ _ _ HG.out rfl (by omega) _ HP.out).mono ?_; rintro e w1 ⟨rfl, hb1⟩; have HB1 := Lib.hid hb1; clear hb1)
              go_ret
              exact ⟨.slice none 0 0, rfl, by rw [HE.out]; exact Row.nil _ _, HB1.out⟩
          · have HE := Lib.hid (rplan_bad l off n (fun h => h3 (by have := h.2; unfold Whole at this; omega)))
            have b3 : decide (8192 < n) = true := decide_eq_true (by omega)
            go_enter Try.func22, Try.ntmps22
            go_wp2_with (go_at_call 13; refine (rgood_is _ _ _ _ _ HG.out rfl (by omega) _ HP.out).mono ?_; rintro e w1 ⟨rfl, hb1⟩; have HB1 := Lib.hid hb1; clear hb1)
            go_ret
            exact ⟨.slice none 0 0, rfl, by rw [HE.out]; exact Row.nil _ _, HB1.out⟩
        · have HE := Lib.hid (rplan_bad l off n (fun h => h2 (by have := h.2; unfold Whole at this; omega)))
          have b2 : decide (n < 1) = true := decide_eq_true (by omega)
          go_enter Try.func22, Try.ntmps22
          go_wp2_with (go_at_call 13; refine (rgood_is _ _ _ _ _ HG.out rfl (by omega) _ HP.out).mono ?_; rintro e w1 ⟨rfl, hb1⟩; have HB1 := Lib.hid hb1; clear hb1)
          go_ret
          exact ⟨.slice none 0 0, rfl, by rw [HE.out]; exact Row.nil _ _, HB1.out⟩
      · have HE := Lib.hid (rplan_bad l off n (fun h => h1 (by have := h.2; unfold Whole at this; omega)))
        have b1 : decide (8192 < off) = true := decide_eq_true (by omega)
        go_enter Try.func22, Try.ntmps22
        go_wp2_with (go_at_call 13; refine (rgood_is _ _ _ _ _ HG.out rfl (by omega) _ HP.out).mono ?_; rintro e w1 ⟨rfl, hb1⟩; have HB1 := Lib.hid hb1; clear hb1)
        go_ret
        exact ⟨.slice none 0 0, rfl, by rw [HE.out]; exact Row.nil _ _, HB1.out⟩
    · have HE := Lib.hid (rplan_bad l off n (fun h => h0 (by have := h.2; unfold Whole at this; omega)))
      have b0 : decide (off < 0) = true := decide_eq_true (by omega)
      go_enter Try.func22, Try.ntmps22
      go_wp2_with (go_at_call 13; refine (rgood_is _ _ _ _ _ HG.out rfl (by omega) _ HP.out).mono ?_; rintro e w1 ⟨rfl, hb1⟩; have HB1 := Lib.hid hb1; clear hb1)
      go_ret
      exact ⟨.slice none 0 0, rfl, by rw [HE.out]; exact Row.nil _ _, HB1.out⟩
  · have HG : Hid (decide (Good l) = false) := Lib.hid (decide_eq_false hg)
    have HE := Lib.hid (rplan_bad l off n (fun h => hg h.1))
    clear hg
    go_enter Try.func22, Try.ntmps22
    go_wp2_with (go_at_call 13; refine (rgood_is _ _ _ _ _ HG.out rfl (by omega) _ HP.out).mono ?_; rintro e w1 ⟨rfl, hb1⟩; have HB1 := Lib.hid hb1; clear hb1)
    go_ret
    exact ⟨.slice none 0 0, rfl, by rw [HE.out]; exact Row.nil _ _, HB1.out⟩
end Go.Proofs.Ytcjgnemceciccaa.ExtW
