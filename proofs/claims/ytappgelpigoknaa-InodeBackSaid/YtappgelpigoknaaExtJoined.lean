/- extent.joined. -/
import Derived.Test.YtappgelpigoknaaExtRow
namespace Go.Proofs.Ytappgelpigoknaa.ExtW
open Go.RowKit
def fewL (l : List Pt) : List Pt := if l.length > 64 then [] else l
def fewE (l : List Pt) : Int := if l.length > 64 then 3 else 0
theorem snocJ_len (out : List Pt) (x : Pt) : (snocJ out x).length ≤ out.length + 1 := by
  rcases snoc_cases out with rfl | ⟨l, p, rfl⟩
  · simp [snocJ]
  · by_cases h : Joins p x
    · rw [snocJ_yes _ _ _ h]; simp
    · rw [snocJ_no _ _ _ h]; simp
theorem fold_len : ∀ (l out : List Pt), (l.foldl snocJ out).length ≤ out.length + l.length
  | [], out => by simp
  | x :: l, out => by
    rw [List.foldl_cons]
    have := fold_len l (snocJ out x)
    have := snocJ_len out x
    simp only [List.length_cons]; omega
theorem join_len (l : List Pt) : (joinL l).length ≤ l.length := by
  have := fold_len l []
  simpa [joinL] using this
theorem join_snoc (l : List Pt) (x : Pt) : joinL (l ++ [x]) = snocJ (joinL l) x := by unfold joinL; simp
theorem sorted_left : ∀ {lo : Int} {l l' : List Pt} {hi : Int}, Sorted lo (l ++ l') hi → Sorted lo l hi
  | _, [], _, _, h => h.le
  | _, _ :: _, _, _, h => ⟨h.1, h.2.1, sorted_left h.2.2⟩
set_option maxRecDepth 100000 in
set_option maxHeartbeats 1600000 in
theorem joined_any (oa : Option Addr) (cap : Nat) (l : List Pt) (hs : Sorted 0 l 8192) (ho : ∀ x ∈ l, One x) (hl : l.length ≤ 100000) (w : World) (h : PtsAt w.heap.size oa l w) :
    Calls Try.prog 50 #[.slice oa l.length cap] w fun e w' => ∃ v, e = .returned (.tuple #[v, .int .i64 (fewE (joinL l))]) ∧ Row w.heap.size w' v (fewL (joinL l)) ∧ Below w.heap.size w w' := by
  obtain ⟨i0, hi, hz0, hz1, hz2⟩ := info_parts partinfo
  have HP := Lib.hid h
  have HS := Lib.hid hs
  have HO := Lib.hid ho
  clear h hs ho
  go_enter Try.func50, Try.ntmps50
  go_wp2_with fail
  go_loopw [4, 10] (fun v i wr => ∃ k : Nat, k ≤ l.length ∧ i = .int .i64 (k : Int) ∧ Row w.heap.size wr v (joinL (l.take k)) ∧ Below w.heap.size w wr) (fun _ i _ => ((l.length : Int) - intOf i).toNat)
  case atStart => exact ⟨0, by omega, rfl, Row.nil _ _, Below.refl _ _⟩
  case round =>
    obtain ⟨k, hk, rfl, hrow, hbel⟩ := hrel
    have HB := Lib.hid hbel
    clear hbel
    by_cases hlt : k < l.length
    · obtain ⟨x, hx⟩ : ∃ x, l[k]? = some x := ⟨_, List.getElem?_eq_getElem hlt⟩
      obtain ⟨a, rfl, hab, c0, c1, c2, c3⟩ := (HP.out.below HB.out) k x hx
      have hxo : One x := HO.out x (List.mem_of_getElem? hx)
      have HX1 : Hid (joinL (l.take (k + 1)) = snocJ (joinL (l.take k)) x) := Lib.hid (by
        rw [List.take_add_one, hx]; exact join_snoc _ _)
      have HLEN : Hid ((joinL (l.take k)).length ≤ k) := Lib.hid (by have := join_len (l.take k); simp only [List.length_take] at this; omega)
      have HF : Hid (∀ y ∈ joinL (l.take k), One y) := Lib.hid (by
        have e := HS.out
        rw [← List.take_append_drop k l] at e
        exact (join_fine (sorted_left e) (fun y hy => HO.out y (List.mem_of_mem_take hy))).2.1)
      generalize joinL (l.take k) = J at hrow HX1 HLEN HF
      have HX := Lib.hid hx
      clear hx
      rcases snoc_cases J with rfl | ⟨o', p, rfl⟩
      · obtain ⟨oa2, cap2, rfl, hc2, _, _⟩ := hrow.form
        have HR := Lib.hid hrow
        clear hrow
        have hlen0 : ([] : List Pt).length = 0 := rfl
        rw [hlen0] at HR ⊢
        clear hlen0
        have HX1' := HX1
        go_wp2_with fail
        refine held_below (by kernel_rfl) (by kernel_rfl) ?_
        repeat first
          | (refine held_skip ?_ ?_; (· first | rfl | (go_simp; done)); simp only [Act.put, List.setIfInBounds_toArray, List.set_cons_zero, List.set_cons_succ])
          | (refine held_val (v := ?_) ?_ ?_ ?_
             rotate_left
             · first | rfl | (go_simp; done)
             · intro wq hq
               go_simp
               with_reducible rfl
             simp only [Act.put, List.setIfInBounds_toArray, List.set_cons_zero, List.set_cons_succ])
        refine held_nil ?_
        intro w2 hb2
        have hb3 := Lib.hid hb2
        have q0 := cell_step hb2 (alloc_cell wr #[.int .i64 x.o, .int .i64 x.n, .int .i64 x.a, .int .i64 x.f] 40 0 _ rfl)
        have q1 := cell_step hb2 (alloc_cell wr #[.int .i64 x.o, .int .i64 x.n, .int .i64 x.a, .int .i64 x.f] 40 1 _ rfl)
        have q2 := cell_step hb2 (alloc_cell wr #[.int .i64 x.o, .int .i64 x.n, .int .i64 x.a, .int .i64 x.f] 40 2 _ rfl)
        have q3 := cell_step hb2 (alloc_cell wr #[.int .i64 x.o, .int .i64 x.n, .int .i64 x.a, .int .i64 x.f] 40 3 _ rfl)
        have HOWN : Hid (w2.ownsRow w.heap.size 40 4 (.slice oa2 0 cap2) 0 []) := Lib.hid ((HR.out.grow (below_alloc wr _)).grow hb3.out)
        have HB2 : Hid (Below w.heap.size w w2) := Lib.hid (bstep (bstep HB.out (below_alloc wr _)) hb3.out)
        clear hb2
        go_wp2_with (at_builtin; go_loud (refine wpList_append_new rfl _ _ 37 rfl w.heap.size 40 i0 (.agg #[.int .i64 0, .int .i64 0, .int .i64 0, .int .i64 0]) 4 32 Try.underlying37 hi hz0 hz1 hz2 rfl (by decide) _ _ _ (by rfl) HOWN.out 1 1 (by rfl) rfl (cells_onecell [x]) (by unfold maxLen; omega) (by omega) HB2.out.size ?_; intro oa5 cap5 w5 hown5 hbel5 _; have HS5 := Lib.hid hown5; have HB5 := Lib.hid (HB2.out.trans hbel5); clear hown5 hbel5))
        exact ⟨⟨k + 1, by omega, by simp, by rw [HX1.out]; exact Row.snoc (l := []) x HS5.out, HB5.out⟩, by simp [intOf]; omega⟩
      · obtain ⟨oa2, cap2, rfl, hc2, _, _⟩ := hrow.form
        obtain ⟨a2, e2, hba, hab2, hfr⟩ := Row.free hrow (i := o'.length) (x := p) (by simp)
        subst e2
        obtain ⟨a3, e3, _, d0, d1, d2, d3⟩ := Row.pts hrow o'.length p (by simp)
        obtain rfl : a2 = a3 := by simpa using e3
        clear e3 hfr
        have HR := Lib.hid hrow
        have HBA := Lib.hid hba
        clear hrow hba
        have hpo : One p := HF.out p (by simp)
        have hps := hpo.small
        have HPO := Lib.hid hpo
        have hxs := hxo.small
        have hw2 : IntKind.i64.wrap (p.n + x.n) = p.n + x.n := IntWalk.i64_in _ (by omega)
        obtain ⟨m, hm⟩ : ∃ m, o'.length = m := ⟨_, rfl⟩
        obtain ⟨n, hn⟩ : ∃ n, (o' ++ [p]).length = n := ⟨_, rfl⟩
        have hnm : n = m + 1 := by rw [← hn, ← hm]; simp
        have hlen := HLEN.out
        have HM := Lib.hid hm
        rw [hn] at HR hc2 hlen ⊢
        rw [hm] at d0 d1 d2 d3
        have hz : decide (0 < n) = true := decide_eq_true (by omega)
        have hw : IntKind.i64.wrap ((n : Int) - 1) = (m : Int) := by rw [IntWalk.i64_in _ (by omega)]; omega
        have hm0 : (0 : Int) ≤ (m : Int) := by omega
        have hm1 : (m : Int) < (n : Int) := by omega
        have hm2 : m < n := by omega
        have hnb : n ≤ 100000 := by omega
        have HN := Lib.hid hn
        clear hm hn hpo hxo hps hxs hnm hlen
        by_cases hj : Joins p x
        · have HJ : Hid (decide (Joins p x) = true) := Lib.hid (decide_eq_true hj)
          have HX2 : Hid (joinL (l.take (k + 1)) = o' ++ [⟨p.o, p.n + x.n, p.a, p.f⟩]) := Lib.hid (by rw [HX1.out]; exact snocJ_yes _ _ _ hj)
          clear hj
          go_wp2_with fail
          refine held_below (by kernel_rfl) (by kernel_rfl) ?_
          repeat first
            | (refine held_skip ?_ ?_; (· first | rfl | (go_simp; done)); simp only [Act.put, List.setIfInBounds_toArray, List.set_cons_zero, List.set_cons_succ])
            | (refine held_val (v := ?_) ?_ ?_ ?_
               rotate_left
               · first | rfl | (go_simp; done)
               · intro wq hq
                 have g0 := cell_step hq (alloc_cell wr #[.int .i64 x.o, .int .i64 x.n, .int .i64 x.a, .int .i64 x.f] 40 0 _ rfl)
                 have g1 := cell_step hq (alloc_cell wr #[.int .i64 x.o, .int .i64 x.n, .int .i64 x.a, .int .i64 x.f] 40 1 _ rfl)
                 have g2 := cell_step hq (alloc_cell wr #[.int .i64 x.o, .int .i64 x.n, .int .i64 x.a, .int .i64 x.f] 40 2 _ rfl)
                 have g3 := cell_step hq (alloc_cell wr #[.int .i64 x.o, .int .i64 x.n, .int .i64 x.a, .int .i64 x.f] 40 3 _ rfl)
                 have e0 := cell_step hq (alloc_step d0)
                 have e1 := cell_step hq (alloc_step d1)
                 have e2 := cell_step hq (alloc_step d2)
                 have e3 := cell_step hq (alloc_step d3)
                 go_simp
                 with_reducible rfl
               simp only [Act.put, List.setIfInBounds_toArray, List.set_cons_zero, List.set_cons_succ])
            | (refine held_call (v := ?_) (f := ?_) (args := ?_) ?_ ?_ ?_ ?_
               rotate_left 3
               · first | rfl | (go_simp; done)
               · intro wq
                 go_simp
                 constructor
                 · rfl
                 · rfl
               · intro wq hq
                 first
                   | (refine (joins_is p x _ HJ.out HPO.out _).mono ?_
                      rintro e w1 ⟨rfl, hb1⟩
                      constructor
                      · rfl
                      · exact bstep hq hb1)
               simp only [Act.put, List.setIfInBounds_toArray, List.set_cons_zero, List.set_cons_succ])
          refine held_nil ?_
          intro w2 hb2
          have hb3 := Lib.hid hb2
          have q1 := cell_step hb2 (alloc_cell wr #[.int .i64 x.o, .int .i64 x.n, .int .i64 x.a, .int .i64 x.f] 40 1 _ rfl)
          have r1 := cell_step hb2 (alloc_step (o := .cells #[.int .i64 x.o, .int .i64 x.n, .int .i64 x.a, .int .i64 x.f] 40) d1)
          have HR2 : Hid (Row w.heap.size w2 (.slice (some a2) n cap2) (o' ++ [p])) := Lib.hid ((HR.out.grow (below_alloc wr _)).grow hb3.out)
          have HB2 : Hid (Below w.heap.size w w2) := Lib.hid (bstep (bstep HB.out (below_alloc wr _)) hb3.out)
          obtain ⟨a4, e4, _, _, hfr⟩ := Row.free HR2.out (i := o'.length) (x := p) (by simp)
          obtain rfl : a2 = a4 := by simpa using e4
          have f1 := hfr 1
          rw [HM.out] at f1
          clear hb2 e4 hfr
          go_wp2_with fail
          go_still_tail 11, (by kernel_rfl)
          go_wp2_with fail
          have HPUT := Row.put HR2.out (p.n + x.n)
          rw [HM.out] at HPUT
          exact ⟨⟨k + 1, by omega, by simp, by rw [HX2.out]; exact HPUT.grow (Below.refl _ _).drew, (HB2.out.setCell (p := ⟨_, _, none⟩) (by rw [add_block]; exact HBA.out) _).drew⟩, by simp [intOf]; omega⟩
        · have HJ : Hid (decide (Joins p x) = false) := Lib.hid (decide_eq_false hj)
          have HX2 : Hid (joinL (l.take (k + 1)) = o' ++ [p] ++ [x]) := Lib.hid (by rw [HX1.out]; exact snocJ_no _ _ _ hj)
          clear hj
          go_wp2_with fail
          refine held_below (by kernel_rfl) (by kernel_rfl) ?_
          repeat first
            | (refine held_skip ?_ ?_; (· first | rfl | (go_simp; done)); simp only [Act.put, List.setIfInBounds_toArray, List.set_cons_zero, List.set_cons_succ])
            | (refine held_val (v := ?_) ?_ ?_ ?_
               rotate_left
               · first | rfl | (go_simp; done)
               · intro wq hq
                 have g0 := cell_step hq (alloc_cell wr #[.int .i64 x.o, .int .i64 x.n, .int .i64 x.a, .int .i64 x.f] 40 0 _ rfl)
                 have g1 := cell_step hq (alloc_cell wr #[.int .i64 x.o, .int .i64 x.n, .int .i64 x.a, .int .i64 x.f] 40 1 _ rfl)
                 have g2 := cell_step hq (alloc_cell wr #[.int .i64 x.o, .int .i64 x.n, .int .i64 x.a, .int .i64 x.f] 40 2 _ rfl)
                 have g3 := cell_step hq (alloc_cell wr #[.int .i64 x.o, .int .i64 x.n, .int .i64 x.a, .int .i64 x.f] 40 3 _ rfl)
                 have e0 := cell_step hq (alloc_step d0)
                 have e1 := cell_step hq (alloc_step d1)
                 have e2 := cell_step hq (alloc_step d2)
                 have e3 := cell_step hq (alloc_step d3)
                 go_simp
                 with_reducible rfl
               simp only [Act.put, List.setIfInBounds_toArray, List.set_cons_zero, List.set_cons_succ])
            | (refine held_call (v := ?_) (f := ?_) (args := ?_) ?_ ?_ ?_ ?_
               rotate_left 3
               · first | rfl | (go_simp; done)
               · intro wq
                 go_simp
                 constructor
                 · rfl
                 · rfl
               · intro wq hq
                 first
                   | (refine (joins_is p x _ HJ.out HPO.out _).mono ?_
                      rintro e w1 ⟨rfl, hb1⟩
                      constructor
                      · rfl
                      · exact bstep hq hb1)
               simp only [Act.put, List.setIfInBounds_toArray, List.set_cons_zero, List.set_cons_succ])
          refine held_nil ?_
          intro w2 hb2
          have hb3 := Lib.hid hb2
          have q0 := cell_step hb2 (alloc_cell wr #[.int .i64 x.o, .int .i64 x.n, .int .i64 x.a, .int .i64 x.f] 40 0 _ rfl)
          have q1 := cell_step hb2 (alloc_cell wr #[.int .i64 x.o, .int .i64 x.n, .int .i64 x.a, .int .i64 x.f] 40 1 _ rfl)
          have q2 := cell_step hb2 (alloc_cell wr #[.int .i64 x.o, .int .i64 x.n, .int .i64 x.a, .int .i64 x.f] 40 2 _ rfl)
          have q3 := cell_step hb2 (alloc_cell wr #[.int .i64 x.o, .int .i64 x.n, .int .i64 x.a, .int .i64 x.f] 40 3 _ rfl)
          have HOWN : Hid (w2.ownsRow w.heap.size 40 4 (.slice (some a2) n cap2) n (cellsOf (o' ++ [p]))) := Lib.hid (by rw [← HN.out] at HR ⊢; exact (HR.out.grow (below_alloc wr _)).grow hb3.out)
          have HB2 : Hid (Below w.heap.size w w2) := Lib.hid (bstep (bstep HB.out (below_alloc wr _)) hb3.out)
          clear hb2
          go_wp2_with (at_builtin; refine wpList_append_new rfl _ _ 37 rfl w.heap.size 40 i0 (.agg #[.int .i64 0, .int .i64 0, .int .i64 0, .int .i64 0]) 4 32 Try.underlying37 hi hz0 hz1 hz2 rfl (by decide) _ _ _ (by rfl) HOWN.out 1 1 (by rfl) rfl (cells_onecell [x]) (by unfold maxLen; omega) (by omega) HB2.out.size ?_; intro oa5 cap5 w5 hown5 hbel5 _; have HS5 := Lib.hid hown5; have HB5 := Lib.hid (HB2.out.trans hbel5); clear hown5 hbel5)
          exact ⟨⟨k + 1, by omega, by simp, by rw [HX2.out]; have := HS5.out; rw [← HN.out] at this ⊢; exact Row.snoc x this, HB5.out⟩, by simp [intOf]; omega⟩
    · obtain rfl : k = l.length := by omega
      rw [List.take_length] at hrow
      obtain ⟨oa2, cap2, rfl, _, _, _⟩ := hrow.form
      have HR := Lib.hid hrow
      clear hrow
      by_cases hm : (joinL l).length > 64
      · have HE : Hid (fewE (joinL l) = 3 ∧ fewL (joinL l) = []) := Lib.hid ⟨if_pos hm, if_pos hm⟩
        generalize (joinL l).length = n at hm HR ⊢
        go_wp2_with fail
        go_ret2
        exact ⟨.slice none 0 0, by rw [HE.out.1]; rfl, by rw [HE.out.2]; exact Row.nil _ _, HB.out⟩
      · have HE : Hid (fewE (joinL l) = 0 ∧ fewL (joinL l) = joinL l) := Lib.hid ⟨if_neg hm, if_neg hm⟩
        obtain ⟨n, hn⟩ : ∃ n, (joinL l).length = n := ⟨_, rfl⟩
        rw [hn] at hm HR ⊢
        clear hn
        go_wp2_with fail
        go_ret2
        exact ⟨.slice oa2 n cap2, by rw [HE.out.1]; rfl, by rw [HE.out.2]; exact HR.out, HB.out⟩
end Go.Proofs.Ytappgelpigoknaa.ExtW
