/- extent.Plan. -/
import Derived.Test.YtcjgnemceciccaaExtEnd
namespace Go.Proofs.Ytcjgnemceciccaa.ExtW
open Go.RowKit
theorem PS.grow {C ba bo : Nat} {w w' : World} {at_ : Int} {v : Value} {L : List Pt} (h : PS C ba bo w at_ v L) (hb : Below w.heap.size w w') : PS C ba bo w' at_ v L :=
  ⟨(hb.block ba (lt_of_block h.pat)).trans h.pat, (hb.block bo (lt_of_block h.out)).trans h.out, h.row.grow hb, h.lba, h.lbo, h.ne, Nat.le_trans h.le hb.size⟩
theorem ps_made (w : World) (off : Int) : PS (w.heap.size + 2) (w.heap.size + 1) w.heap.size ((w.alloc (.cells #[.slice none 0 0] 22)).alloc (.cells #[.int .i64 off] 3)) off (.slice none 0 0) [] := by
  have h1 := heap_alloc_new (w.alloc (.cells #[.slice none 0 0] 22)) (.cells #[.int .i64 off] 3)
  have h2 := heap_alloc_old (w.alloc (.cells #[.slice none 0 0] 22)) (.cells #[.int .i64 off] 3) (r := w.heap.size) (by simp)
  have h3 := heap_alloc_new w (.cells #[.slice none 0 0] 22)
  refine ⟨?_, h2.trans h3, Row.nil _ _, by omega, by omega, by omega, by simp⟩
  rw [show (w.alloc (Obj.cells #[Value.slice none 0 0] 22)).heap.size = w.heap.size + 1 by simp] at h1
  exact h1
theorem rest_below {ba bo B : Nat} {v : Value} {w w' : World} (h : Rest ba bo v w w') (h1 : B ≤ ba) (h2 : B ≤ bo) (h3 : ∀ k, v.ownBlock = some k → B ≤ k) (hB : B ≤ w.heap.size) : Below B w w' :=
  ⟨h.2.1, h.2.2.1, h.2.2.2.1, h.1, fun k hk => h.2.2.2.2 k (by omega) (by omega) (by omega) (fun e => by have := h3 k e.symm; omega)⟩
theorem PS.below {C ba bo B : Nat} {w w' : World} {at_ : Int} {v : Value} {L : List Pt} (h : PS C ba bo w at_ v L) (r : Rest ba bo v w w') (h1 : B ≤ ba) (h2 : B ≤ bo) : Below B w w' :=
  rest_below r h1 h2 (fun k e => by have := (World.ownsRow.lt h.row) k e; have := h.lba; omega) (by have := h.lba; have := h.le; omega)
theorem plan_at (off e : Int) (h : off ≤ e) : ∀ (l out : List Pt) (a : Int), off ≤ a → a ≤ e → off ≤ (l.foldl (planStep off e) (out, a)).2 ∧ (l.foldl (planStep off e) (out, a)).2 ≤ e
  | [], _, _, h1, h2 => ⟨h1, h2⟩
  | x :: l, out, a, h1, h2 => by
    rw [List.foldl_cons]
    by_cases c : max x.o off < min (x.o + x.n) e
    · rw [show planStep off e (out, a) x = _ from if_pos c]
      exact plan_at off e h l _ _ (by omega) (by omega)
    · rw [show planStep off e (out, a) x = (out, a) from if_neg c]
      exact plan_at off e h l _ _ h1 h2
theorem plan_more (off e : Int) {l : List Pt} {k : Nat} {x : Pt} (h : l[k]? = some x) : planF off e (l.take (k + 1)) = planStep off e (planF off e (l.take k)) x := by
  unfold planF
  rw [take_snoc h, List.foldl_append]; rfl
def planS (l : List Pt) (off n : Int) : List Pt := if Good l then if Whole off n 8192 then planL off (off + n) l else [] else []
set_option maxHeartbeats 3200000 in
theorem plan_any (oa : Option Addr) (cap : Nat) (l : List Pt) (off n : Int) (hl : l.length ≤ 9223372036854775807) (w : World) (h : PtsAt w.heap.size oa l w) :
    Calls Try.prog 21 #[.slice oa l.length cap, .int .i64 off, .int .i64 n] w fun e w' => ∃ v, e = .returned v ∧ Row w.heap.size w' v (planS l off n) ∧ Below w.heap.size w w' := by
  obtain ⟨i0, hi, hz0, hz1, hz2⟩ := info_parts partinfo
  have HP := Lib.hid h
  clear h
  by_cases hg : Good l
  · have HG : Hid (decide (Good l) = true) := Lib.hid (decide_eq_true hg)
    by_cases hw : Whole off n 8192
    · have HW : Hid (decide (Whole off n 8192) = true) := Lib.hid (decide_eq_true hw)
      have HE : Hid (planS l off n = planL off (off + n) l) := Lib.hid (by unfold planS; rw [if_pos hg, if_pos hw])
      have HO : Hid (∀ y ∈ l, One y) := Lib.hid (chain_ones hg.2)
      have hl64 := hg.1
      have hwb : 0 ≤ off ∧ 1 ≤ n ∧ off + n ≤ 8192 := by unfold Whole at hw; omega
      have HWB := Lib.hid hwb
      obtain ⟨e, he⟩ : ∃ e, off + n = e := ⟨_, rfl⟩
      have hwe : IntKind.i64.wrap (off + n) = e := by rw [← he]; exact IntWalk.i64_in _ (by omega)
      rw [he] at HE
      have HEE := Lib.hid he
      have HBD : Hid (0 ≤ off ∧ off ≤ e ∧ e ≤ 8192) := Lib.hid (by omega)
      clear he hg hw hl hwb
      go_enter Try.func21, Try.ntmps21
      go_wp2_with (first
        | (go_at_call 12; refine (good_is _ _ _ _ HG.out (by omega) _ HP.out).mono ?_; rintro e w1 ⟨rfl, hb1⟩; have HP1 := Lib.hid (HP.out.grow hb1); have HB1 := Lib.hid hb1; clear hb1)
        | (go_at_call 34; refine (whole_is _ _ _ _ (.inl rfl) HW.out _).mono ?_; rintro e w2 ⟨rfl, rfl⟩))
      have hps0 := ps_made w1 off
      have HBM : Hid (Below w.heap.size w ((w1.alloc (.cells #[.slice none 0 0] 22)).alloc (.cells #[.int .i64 off] 3))) := Lib.hid (bstep (bstep HB1.out (below_alloc w1 _)) (below_alloc _ _))
      generalize hba : w1.heap.size + 1 = ba at *
      generalize hbo : w1.heap.size = bo at *
      have HBO : Hid (w.heap.size ≤ bo) := Lib.hid (by have := HB1.out.size; omega)
      have HBA : Hid (w.heap.size ≤ ba) := Lib.hid (by have := HB1.out.size; omega)
      generalize hC : bo + 2 = C at *
      generalize (w1.alloc (.cells #[.slice none 0 0] 22)).alloc (.cells #[.int .i64 off] 3) = w2 at *
      have HPS0 := Lib.hid hps0
      have HC := Lib.hid (show bo < C ∧ ba < C by omega)
      clear hps0 hba hbo hC
      go_loopw [31] (fun i wr => ∃ (k : Nat) (v : Value), k ≤ l.length ∧ i = .int .i64 (k : Int) ∧ PS C ba bo wr (planF off e (l.take k)).2 v (planF off e (l.take k)).1 ∧ Below w.heap.size w wr) (fun i _ => ((l.length : Int) - intOf i).toNat)
      case atStart => exact ⟨0, _, by omega, rfl, HPS0.out, HBM.out⟩
      case round =>
        obtain ⟨k, v, hk, rfl, hps, hbel⟩ := hrel
        have HB := Lib.hid hbel
        have HPS := Lib.hid hps
        have hbd := HBD.out
        have hat := plan_at off e (by omega) (l.take k) [] off (by omega) (by omega)
        have HLEN : Hid ((planF off e (l.take k)).1.length ≤ 128) := Lib.hid (by have := plan_len off e (l.take k) [] off; simp only [List.length_take, List.length_nil] at this; unfold planF; omega)
        have HAT : Hid (0 ≤ (planF off e (l.take k)).2 ∧ (planF off e (l.take k)).2 ≤ 8192) := Lib.hid (by unfold planF; omega)
        clear hbel hps hat
        by_cases hlt : k < l.length
        · obtain ⟨x, hx⟩ : ∃ x, l[k]? = some x := ⟨_, List.getElem?_eq_getElem hlt⟩
          have HX1 := Lib.hid (plan_more off e hx)
          generalize planF off e (l.take k) = P at HPS HX1 HLEN HAT
          obtain ⟨L, at_⟩ := P
          simp only at HPS HLEN HAT
          obtain ⟨a, rfl, hab, c0, c1, c2, c3⟩ := (HP.out.below HB.out) k x hx
          have hxs := (HO.out x (List.mem_of_getElem? hx)).small
          have HX := Lib.hid hx
          clear hx
          obtain ⟨F, hF⟩ : ∃ F, max x.o off = F := ⟨_, rfl⟩
          obtain ⟨T, hT⟩ : ∃ T, min (x.o + x.n) e = T := ⟨_, rfl⟩
          have hF' : (if x.o < off then off else x.o) = F := by rw [← hF]; split <;> omega
          have hT' : (if e < x.o + x.n then e else x.o + x.n) = T := by rw [← hT]; split <;> omega
          have hw1 : IntKind.i64.wrap (x.o + x.n) = x.o + x.n := IntWalk.i64_in _ (by omega)
          have HFB : Hid (0 ≤ F ∧ T ≤ 8192) := Lib.hid (by omega)
          by_cases hft : F < T
          · obtain ⟨M, hM⟩ : ∃ M, L ++ holeL at_ F = M := ⟨_, rfl⟩
            have HM := Lib.hid hM
            have HML : M.length ≤ 129 := by
              rw [← hM]
              have := HLEN.out
              have : (holeL at_ F).length ≤ 1 := by unfold holeL; split <;> simp
              simp only [List.length_append]; omega
            clear hM
            have HX2 : Hid (planF off e (l.take (k + 1)) = (M ++ [⟨F, T - F, x.a, x.f + F - x.o⟩], T)) := Lib.hid (by rw [HX1.out, ← HM.out, ← hF, ← hT]; exact if_pos (by omega))
            have hwa : IntKind.i64.wrap (T - F) = T - F := IntWalk.i64_in _ (by omega)
            have hwb : IntKind.i64.wrap (x.f + F) = x.f + F := IntWalk.i64_in _ (by omega)
            have hwc : IntKind.i64.wrap (x.f + F - x.o) = x.f + F - x.o := IntWalk.i64_in _ (by omega)
            clear hF hT
            go_wp2_with fail
            refine held_below (by kernel_rfl) (by kernel_rfl) ?_
            repeat first
              | (refine held_skip ?_ ?_; (· first | rfl | (go_simp; done)); simp only [Act.put, List.setIfInBounds_toArray, List.set_cons_zero, List.set_cons_succ])
              | (refine held_val (v := ?_) ?_ ?_ ?_
                 rotate_left
                 · first | rfl | (go_simp; done)
                 · intro wq hq
                   have g0 := cell_step hq (alloc_cell wr #[.int .i64 x.o, .int .i64 x.n, .int .i64 x.a, .int .i64 x.f] 31 0 _ rfl)
                   have g1 := cell_step hq (alloc_cell wr #[.int .i64 x.o, .int .i64 x.n, .int .i64 x.a, .int .i64 x.f] 31 1 _ rfl)
                   go_simp
                   with_reducible rfl
                 simp only [Act.put, List.setIfInBounds_toArray, List.set_cons_zero, List.set_cons_succ])
            refine held_nil ?_
            intro w2 hb2
            have HBX2 : Hid (Box w2 wr.heap.size x) := Lib.hid ((Box.made wr x).grow hb2)
            have HPS2 := Lib.hid ((HPS.out.grow (below_alloc wr _)).grow hb2)
            have HB2 : Hid (Below w.heap.size w w2) := Lib.hid (bstep (bstep HB.out (below_alloc wr _)) hb2)
            have HWR : Hid (wr.heap.size < w2.heap.size) := Lib.hid (by have := hb2.size; simp at this; omega)
            clear hb2
            go_wp2_with (first
              | (go_at_call 35; refine (hole_any C ba bo at_ F v L HAT.out (by have := HFB.out; omega) (by have := HLEN.out; omega) _ HPS2.out).mono ?_
                 rintro e3 w3 ⟨rfl, v3, hp3, hr3⟩
                 rw [HM.out] at hp3
                 have HBX3 : Hid (Box w3 wr.heap.size x) := Lib.hid ((hr3.2.2.2.2 wr.heap.size HWR.out (by have := HPS.out.le; have := HC.out; omega) (by have := HPS.out.le; have := HC.out; omega) (fun e => by have := ((World.ownsRow.lt HPS.out.row) _ e.symm).2; omega)).trans HBX2.out)
                 have HB3 : Hid (Below w.heap.size w w3) := Lib.hid (HB2.out.trans (HPS2.out.below hr3 HBA.out HBO.out))
                 obtain ⟨oa3, cap3, rfl, hc3, _, _⟩ := hp3.row.form
                 have HPS3 := Lib.hid hp3
                 have hc3z := hp3.le
                 obtain ⟨p0, p1, p2, p3⟩ := HBX3.out.cells
                 obtain ⟨q0, r0⟩ := new_cells hp3.out 0 (by simp)
                 have HOWN : Hid (w3.ownsRow C 31 4 (.slice oa3 M.length cap3) M.length (cellsOf M)) := Lib.hid hp3.row
                 clear hp3 hr3)
              | (at_builtin; go_loud (refine wpList_append_newB rfl _ _ 22 rfl C 31 i0 (.agg #[.int .i64 0, .int .i64 0, .int .i64 0, .int .i64 0]) 4 32 Try.underlying22 hi hz0 hz1 hz2 rfl (by decide) _ _ _ (by rfl) HOWN.out _ 1 1 (by rfl) rfl (cells_onecell [⟨F, T - F, x.a, x.f + F - x.o⟩]) (by unfold maxLen; omega) (by omega) hc3z (by simp) ?_; intro oa5 cap5 w5 hown5 hbel5 hg5; have HS5 := Lib.hid hown5; have HB5 := Lib.hid hbel5; have HG5 := Lib.hid hg5; have K1 := Lib.hid ((hbel5.block ba HC.out.2).trans HPS3.out.pat); have K2 := Lib.hid ((hbel5.block bo HC.out.1).trans HPS3.out.out); clear hown5 hbel5 hg5 q0 r0 p0 p1 p2 p3; obtain ⟨s0, f0⟩ := new_cells K1.out 0 (by simp); obtain ⟨s1, f1⟩ := new_cells K2.out 0 (by simp); have n1 : ¬ ba = bo := HPS3.out.ne; have n2 : ¬ bo = ba := fun e => HPS3.out.ne e.symm)))
            obtain ⟨r1, r2⟩ := HPS3.out.put (tt := T) (Row.snoc ⟨F, T - F, x.a, x.f + F - x.o⟩ HS5.out) HB5.out HG5.out
            exact ⟨⟨k + 1, .slice oa5 (M.length + 1) cap5, by omega, by simp, by rw [HX2.out]; exact r1, HB3.out.trans (HPS3.out.below r2 HBA.out HBO.out)⟩, by simp [intOf]; omega⟩
          · have HX2 : Hid (planF off e (l.take (k + 1)) = (L, at_)) := Lib.hid (by rw [HX1.out]; exact if_neg (by omega))
            have hft2 : T ≤ F := by omega
            clear hF hT hft
            go_wp2_with fail
            refine held_below (by kernel_rfl) (by kernel_rfl) ?_
            repeat first
              | (refine held_skip ?_ ?_; (· first | rfl | (go_simp; done)); simp only [Act.put, List.setIfInBounds_toArray, List.set_cons_zero, List.set_cons_succ])
              | (refine held_val (v := ?_) ?_ ?_ ?_
                 rotate_left
                 · first | rfl | (go_simp; done)
                 · intro wq hq
                   have g0 := cell_step hq (alloc_cell wr #[.int .i64 x.o, .int .i64 x.n, .int .i64 x.a, .int .i64 x.f] 31 0 _ rfl)
                   have g1 := cell_step hq (alloc_cell wr #[.int .i64 x.o, .int .i64 x.n, .int .i64 x.a, .int .i64 x.f] 31 1 _ rfl)
                   go_simp
                   with_reducible rfl
                 simp only [Act.put, List.setIfInBounds_toArray, List.set_cons_zero, List.set_cons_succ])
            refine held_nil ?_
            intro w2 hb2
            have HPS2 := Lib.hid ((HPS.out.grow (below_alloc wr _)).grow hb2)
            have HB2 : Hid (Below w.heap.size w w2) := Lib.hid (bstep (bstep HB.out (below_alloc wr _)) hb2)
            clear hb2
            go_wp2_with fail
            exact ⟨⟨k + 1, v, by omega, by simp, by rw [HX2.out]; exact HPS2.out, HB2.out⟩, by simp [intOf]; omega⟩
        · obtain rfl : k = l.length := by omega
          rw [List.take_length] at HPS HLEN HAT
          have HE2 : Hid (planL off e l = (planF off e l).1 ++ holeL (planF off e l).2 e) := Lib.hid rfl
          generalize planF off e l = P at HPS HLEN HAT HE2
          obtain ⟨L, at_⟩ := P
          simp only at HPS HLEN HAT HE2
          go_wp2_with (go_at_call 35; refine (hole_any C ba bo at_ e v L HAT.out (by have := HBD.out; omega) (by have := HLEN.out; omega) _ HPS.out).mono ?_; rintro e3 w3 ⟨rfl, v3, hp3, hr3⟩; have HB3 : Hid (Below w.heap.size w w3) := Lib.hid (HB.out.trans (HPS.out.below hr3 HBA.out HBO.out)); have HPS3 := Lib.hid hp3; obtain ⟨q0, r0⟩ := new_cells hp3.out 0 (by simp); clear hp3 hr3)
          go_ret
          exact ⟨v3, rfl, by rw [HE.out, HE2.out]; exact HPS3.out.row.mono (by have := HC.out; have := HBO.out; omega), HB3.out⟩
    · have HW : Hid (decide (Whole off n 8192) = false) := Lib.hid (decide_eq_false hw)
      have HE : Hid (planS l off n = []) := Lib.hid (by unfold planS; rw [if_pos hg, if_neg hw])
      have hl64 := hg.1
      clear hg hw hl
      go_enter Try.func21, Try.ntmps21
      go_wp2_with (first
        | (go_at_call 12; refine (good_is _ _ _ _ HG.out (by omega) _ HP.out).mono ?_; rintro e w1 ⟨rfl, hb1⟩; have HB1 := Lib.hid hb1; clear hb1)
        | (go_at_call 34; refine (whole_is _ _ _ _ (.inl rfl) HW.out _).mono ?_; rintro e w2 ⟨rfl, rfl⟩))
      go_ret
      exact ⟨.slice none 0 0, rfl, by rw [HE.out]; exact Row.nil _ _, HB1.out⟩
  · have HG : Hid (decide (Good l) = false) := Lib.hid (decide_eq_false hg)
    have HE : Hid (planS l off n = []) := Lib.hid (by unfold planS; rw [if_neg hg])
    clear hg
    go_enter Try.func21, Try.ntmps21
    go_wp2_with (go_at_call 12; refine (good_is _ _ _ _ HG.out hl _ HP.out).mono ?_; rintro e w1 ⟨rfl, hb1⟩; have HB1 := Lib.hid hb1; clear hb1)
    go_ret
    exact ⟨.slice none 0 0, rfl, by rw [HE.out]; exact Row.nil _ _, HB1.out⟩
end Go.Proofs.Ytcjgnemceciccaa.ExtW
