/- extent.Put, End. -/
import Derived.Test.YtappgelpigoknaaExtCutW
namespace Go.Proofs.Ytappgelpigoknaa.ExtW
open Go.RowKit
/-- a part boxed -/
def Box (w : World) (b : Nat) (x : Pt) : Prop := w.heap[b]? = some (.cells #[.int .i64 x.o, .int .i64 x.n, .int .i64 x.a, .int .i64 x.f] 40 (0, 0))
theorem Box.grow {w w' : World} {b : Nat} {x : Pt} (h : Box w b x) (hb : Below w.heap.size w w') : Box w' b x := (hb.block b (lt_of_block h)).trans h
theorem Box.made (w : World) (x : Pt) : Box (w.alloc (.cells #[.int .i64 x.o, .int .i64 x.n, .int .i64 x.a, .int .i64 x.f] 40)) w.heap.size x := heap_alloc_new w _
theorem Box.cells {w : World} {b : Nat} {x : Pt} (h : Box w b x) : w.cell? ⟨b, 0, none⟩ = some (.int .i64 x.o) ∧ w.cell? ⟨b, 1, none⟩ = some (.int .i64 x.n) ∧ w.cell? ⟨b, 2, none⟩ = some (.int .i64 x.a) ∧ w.cell? ⟨b, 3, none⟩ = some (.int .i64 x.f) :=
  ⟨(new_cells h 0 (by simp)).1, (new_cells h 1 (by simp)).1, (new_cells h 2 (by simp)).1, (new_cells h 3 (by simp)).1⟩
def putE (l : List Pt) (x : Pt) : Int := if Good l then if One x then fewE (joinL (overL l x)) else 1 else 11
def putL (l : List Pt) (x : Pt) : List Pt := if Good l then if One x then fewL (joinL (overL l x)) else [] else []
theorem joined_is (oa : Option Addr) (n cap : Nat) (l : List Pt) (hn : n = l.length) (hs : Sorted 0 l 8192) (ho : ∀ x ∈ l, One x) (hl : l.length ≤ 100000) (w : World) (h : PtsAt w.heap.size oa l w) :
    Calls Try.prog 50 #[.slice oa n cap] w fun e w' => ∃ v, e = .returned (.tuple #[v, .int .i64 (fewE (joinL l))]) ∧ Row w.heap.size w' v (fewL (joinL l)) ∧ Below w.heap.size w w' := by
  subst hn; exact joined_any oa cap l hs ho hl w h
theorem cut_is (oa : Option Addr) (n cap : Nat) (l m : List Pt) (s : Int) (hm : cutS l s = m) (hn : n = l.length) (hs : -9223372036854775808 ≤ s ∧ s ≤ 9223372036854775807) (hl : l.length ≤ 9223372036854775807) (w : World) (h : PtsAt w.heap.size oa l w) :
    Calls Try.prog 35 #[.slice oa n cap, .int .i64 s] w fun e w' => ∃ oa2 cap2, e = .returned (.slice oa2 m.length cap2) ∧ Row w.heap.size w' (.slice oa2 m.length cap2) m ∧ m.length ≤ cap2 ∧ cap2 ≤ maxLen ∧ Below w.heap.size w w' := by
  subst hn; subst hm
  refine (cut_any oa cap l s hs hl w h).mono ?_
  rintro e w' ⟨v, rfl, h1, h2⟩
  obtain ⟨oa2, cap2, rfl, h3, h4, _⟩ := h1.form
  exact ⟨oa2, cap2, rfl, h1, h3, h4, h2⟩
theorem row_ne {B C : Nat} {w w1 : World} {v u : Value} {l m : List Pt} (h : Row B w v l) (hC : w.heap.size ≤ C) (k : Row C w1 u m) : u.ownBlock ≠ v.ownBlock ∨ u.ownBlock = none := by
  cases hu : u.ownBlock with
  | none => exact .inr rfl
  | some x =>
    refine .inl fun e => ?_
    have h1 := (World.ownsRow.lt k) x hu
    have h2 := (World.ownsRow.lt h) x e.symm
    omega
theorem over_row {B : Nat} {w : World} {oa : Option Addr} {n cap : Nat} {l : List Pt} {x : Pt} (hn : n = (overL l x).length)
    (h : w.ownsRow B 40 4 (.slice oa n cap) n (cellsOf (cutL l x.o) ++ (#[Value.int .i64 x.o, .int .i64 x.n, .int .i64 x.a, .int .i64 x.f] : Array Value).toList ++ cellsOf (behL l (x.o + x.n)))) : Row B w (.slice oa n cap) (overL l x) := by
  unfold Row
  rw [← hn]
  unfold overL
  rw [cells_app, cells_app, cells_one]
  exact h
theorem over_len (l : List Pt) (x : Pt) : (overL l x).length = (cutL l x.o).length + 1 + (behL l (x.o + x.n)).length := by unfold overL; simp; omega
set_option maxHeartbeats 3200000 in
theorem put_any (oa : Option Addr) (cap : Nat) (l : List Pt) (x : Pt) (hl : l.length ≤ 9223372036854775807) (w : World) (h : PtsAt w.heap.size oa l w) :
    Calls Try.prog 33 #[.slice oa l.length cap, .agg #[.int .i64 x.o, .int .i64 x.n, .int .i64 x.a, .int .i64 x.f]] w fun e w' => ∃ v, e = .returned (.tuple #[v, .int .i64 (putE l x)]) ∧ Row w.heap.size w' v (putL l x) ∧ Below w.heap.size w w' := by
  obtain ⟨i0, hi, hz0, hz1, hz2⟩ := info_parts partinfo
  have HP := Lib.hid (h.grow (below_alloc w (.cells #[.int .i64 x.o, .int .i64 x.n, .int .i64 x.a, .int .i64 x.f] 40)))
  have HBX := Lib.hid (Box.made w x)
  clear h
  by_cases hg : Good l
  · have HG : Hid (decide (Good l) = true) := Lib.hid (decide_eq_true hg)
    by_cases ho : One x
    · have H1 : Hid (decide (One x) = true) := Lib.hid (decide_eq_true ho)
      have HE : Hid (putE l x = fewE (joinL (overL l x)) ∧ putL l x = fewL (joinL (overL l x))) := Lib.hid (by unfold putE putL; rw [if_pos hg, if_pos hg, if_pos ho, if_pos ho]; exact ⟨rfl, rfl⟩)
      have HO : Hid (∀ y ∈ l, One y) := Lib.hid (chain_ones hg.2)
      have HSO := Lib.hid (over_sorted hg ho)
      have HOO := Lib.hid (over_ones hg ho)
      have HCL : Hid (cutS l x.o = cutL l x.o) := Lib.hid (if_pos hg)
      have HC64 : Hid ((cutL l x.o).length ≤ 64) := Lib.hid (Nat.le_trans (cut_len l x.o) hg.1)
      have HOX := Lib.hid ho
      have hl64 := hg.1
      clear hg ho hl
      go_enter Try.func33, Try.ntmps33
      go_wp2_with (first
        | (go_at_call 48; refine (good_is _ _ _ _ HG.out (by omega) _ HP.out).mono ?_; rintro e w1 ⟨rfl, hb1⟩; have HP1 := Lib.hid (HP.out.grow hb1); have HBX1 := Lib.hid (HBX.out.grow hb1); have HB1 := Lib.hid (bstep (below_alloc w _) hb1); clear hb1; obtain ⟨p0, p1, p2, p3⟩ := HBX1.out.cells)
        | (go_at_call 49; refine (one_is x _ H1.out _).mono ?_; rintro e w2 ⟨rfl, hb2⟩; have HP2 := Lib.hid (HP1.out.grow hb2); have HBX2 := Lib.hid (HBX1.out.grow hb2); have HB2 := Lib.hid (bstep HB1.out hb2); clear hb2 p0 p1 p2 p3; obtain ⟨p0, p1, p2, p3⟩ := HBX2.out.cells)
        | (go_at_call 35; refine (cut_is _ _ _ l _ _ HCL.out rfl (by have := HOX.out.small; omega) (by omega) _ HP2.out).mono ?_; rintro e w3 ⟨oa3, cap3, rfl, hr3, hc3, hm3, hb3⟩; have HP3 := Lib.hid (HP2.out.grow hb3); have HBX3 := Lib.hid (HBX2.out.grow hb3); have HR3 := Lib.hid (hr3.mono HB2.out.size); have HB3 := Lib.hid (bstep HB2.out hb3); clear hb3 hr3 p0 p1 p2 p3; obtain ⟨p0, p1, p2, p3⟩ := HBX3.out.cells))
      obtain ⟨na, hna⟩ : ∃ na, (cutL l x.o).length = na := ⟨_, rfl⟩
      rw [hna] at hc3 HR3 HC64 ⊢
      have HNA := Lib.hid hna
      have hna64 := HC64.out
      clear hna p0 p1 p2 p3
      go_loopw [7, 25] (fun v i wr => ∃ k : Nat, k ≤ l.length ∧ i = .int .i64 (k : Int) ∧ Row w3.heap.size wr v (behL (l.take k) (x.o + x.n)) ∧ Below w3.heap.size w3 wr) (fun _ i _ => ((l.length : Int) - intOf i).toNat)
      case atStart => exact ⟨0, by omega, rfl, Row.nil _ _, Below.refl _ _⟩
      case round =>
        obtain ⟨k, hk, rfl, hrow, hbel⟩ := hrel
        have HB := Lib.hid hbel
        have HBX := Lib.hid (HBX3.out.grow hbel)
        clear hbel
        obtain ⟨p0, p1, p2, p3⟩ := HBX.out.cells
        have hzw : w.heap.size < wr.heap.size := lt_of_block HBX.out
        by_cases hlt : k < l.length
        · obtain ⟨p, hp⟩ : ∃ p, l[k]? = some p := ⟨_, List.getElem?_eq_getElem hlt⟩
          obtain ⟨a, rfl, hab, c0, c1, c2, c3⟩ := (HP3.out.below HB.out) k p hp
          have hps := (HO.out p (List.mem_of_getElem? hp)).small
          have hxs := HOX.out.small
          have HX1 : Hid (behL (l.take (k + 1)) (x.o + x.n) = behL (l.take k) (x.o + x.n) ++ behL [p] (x.o + x.n)) := Lib.hid (by rw [take_snoc hp, beh_app])
          have HLEN : (behL (l.take k) (x.o + x.n)).length ≤ k := by have := beh_len (l.take k) (x.o + x.n); simp only [List.length_take] at this; omega
          generalize behL (l.take k) (x.o + x.n) = J at hrow HX1 HLEN
          obtain ⟨oa2, cap2, rfl, hc2, _, _⟩ := hrow.form
          have HX := Lib.hid hp
          have HOWN : Hid (wr.ownsRow w3.heap.size 40 4 (.slice oa2 J.length cap2) J.length (cellsOf J)) := Lib.hid hrow
          clear hp hrow
          obtain ⟨d, hd⟩ : ∃ d, x.o + x.n - p.o = d := ⟨_, rfl⟩
          have hw1 : IntKind.i64.wrap (x.o + x.n) = x.o + x.n := IntWalk.i64_in _ (by omega)
          have hw2 : IntKind.i64.wrap (x.o + x.n - p.o) = d := by rw [← hd]; exact IntWalk.i64_in _ (by omega)
          by_cases h2 : 0 < d
          · by_cases h1 : d < p.n
            · have hw3 : IntKind.i64.wrap (p.o + d) = p.o + d := IntWalk.i64_in _ (by omega)
              have hw4 : IntKind.i64.wrap (p.n - d) = p.n - d := IntWalk.i64_in _ (by omega)
              have hw5 : IntKind.i64.wrap (p.f + d) = p.f + d := IntWalk.i64_in _ (by omega)
              have HC : Hid (behL [p] (x.o + x.n) = [⟨p.o + d, p.n - d, p.a, p.f + d⟩]) := Lib.hid (by rw [behL, hd, Int.max_eq_right (by omega), if_pos h1]; rfl)
              clear hd hps hxs
              go_wp2_with (at_builtin; refine wpList_append_newB rfl _ _ 37 rfl w3.heap.size 40 i0 (.agg #[.int .i64 0, .int .i64 0, .int .i64 0, .int .i64 0]) 4 32 Try.underlying37 hi hz0 hz1 hz2 rfl (by decide) _ _ _ (by rfl) (HOWN.out.alloc _) _ 1 1 (by rfl) rfl (cells_onecell [⟨p.o + d, p.n - d, p.a, p.f + d⟩]) (by unfold maxLen; omega) (by omega) (by have := HB.out.size; simp; omega) (by simp) ?_; intro oa5 cap5 w5 hown5 hbel5 _; have HS5 := Lib.hid hown5; have HB5 := Lib.hid hbel5; clear hown5 hbel5)
              exact ⟨⟨k + 1, by omega, by simp, by rw [HX1.out, HC.out]; exact Row.snoc ⟨p.o + d, p.n - d, p.a, p.f + d⟩ HS5.out, HB.out.trans (((below_alloc wr _).mono HB.out.size).trans HB5.out)⟩, by simp [intOf]; omega⟩
            · have HC : Hid (behL [p] (x.o + x.n) = []) := Lib.hid (by rw [behL, if_neg (by omega)]; rfl)
              clear hd hps hxs
              go_wp2_with fail
              exact ⟨⟨k + 1, by omega, by simp, by rw [HX1.out, HC.out, List.append_nil]; exact HOWN.out.alloc _, HB.out.trans ((below_alloc wr _).mono HB.out.size)⟩, by simp [intOf]; omega⟩
          · have hp1 : 0 < p.n := by omega
            have HC : Hid (behL [p] (x.o + x.n) = [p]) := Lib.hid (by rw [behL, hd, Int.max_eq_left (by omega), if_pos hp1, Int.add_zero, Int.add_zero, Int.sub_zero]; rfl)
            have hw3 : IntKind.i64.wrap p.o = p.o := IntWalk.i64_in _ (by omega)
            have hw4 : IntKind.i64.wrap p.n = p.n := IntWalk.i64_in _ (by omega)
            have hw5 : IntKind.i64.wrap p.f = p.f := IntWalk.i64_in _ (by omega)
            clear hd hps hxs
            go_wp2_with (at_builtin; refine wpList_append_newB rfl _ _ 37 rfl w3.heap.size 40 i0 (.agg #[.int .i64 0, .int .i64 0, .int .i64 0, .int .i64 0]) 4 32 Try.underlying37 hi hz0 hz1 hz2 rfl (by decide) _ _ _ (by rfl) (HOWN.out.alloc _) _ 1 1 (by rfl) rfl (cells_onecell [p]) (by unfold maxLen; omega) (by omega) (by have := HB.out.size; simp; omega) (by simp) ?_; intro oa5 cap5 w5 hown5 hbel5 _; have HS5 := Lib.hid hown5; have HB5 := Lib.hid hbel5; clear hown5 hbel5)
            exact ⟨⟨k + 1, by omega, by simp, by rw [HX1.out, HC.out]; exact Row.snoc p HS5.out, HB.out.trans (((below_alloc wr _).mono HB.out.size).trans HB5.out)⟩, by simp [intOf]; omega⟩
        · obtain rfl : k = l.length := by omega
          rw [List.take_length] at hrow
          obtain ⟨oa2, cap2, rfl, hc2, _, hnil⟩ := hrow.form
          have HLB : (behL l (x.o + x.n)).length ≤ 64 := Nat.le_trans (beh_len l _) hl64
          have HR := Lib.hid hrow
          have HNIL := Lib.hid hnil
          obtain ⟨nb, hnb⟩ : ∃ nb, (behL l (x.o + x.n)).length = nb := ⟨_, rfl⟩
          have HA : Hid (wr.ownsRow w.heap.size 40 4 (.slice oa3 na cap3) na (cellsOf (cutL l x.o))) := Lib.hid (by have := HR3.out.grow HB.out; rw [← HNA.out] at this ⊢; exact this)
          have HNE := Lib.hid (row_ne (HR3.out.mono (Nat.le_refl _)) (Nat.le_refl _) HR.out)
          rw [hnb] at hc2 HLB HR HNIL HNE ⊢
          have HNB := Lib.hid hnb
          have HOL : Hid (na + 1 + nb = (overL l x).length) := Lib.hid (by rw [over_len, HNA.out, hnb])
          clear hrow hnil hnb
          go_wp2_with (first
            | (at_builtin; go_loud (refine wpList_append_newB (o := ⟨some 64, _, _, _, _, _⟩) rfl _ _ 37 rfl w.heap.size 40 i0 (.agg #[.int .i64 0, .int .i64 0, .int .i64 0, .int .i64 0]) 4 32 Try.underlying37 hi hz0 hz1 hz2 rfl (by decide) _ _ _ (by rfl) HA.out _ 1 1 (by rfl) rfl (cells_onecell [x]) (by unfold maxLen; omega) (by omega) (by omega) (by simp) ?_; intro oa5 cap5 w5 hown5 hbel5 hg5; have HS5 := Lib.hid hown5; have HB5 := Lib.hid ((bstep HB3.out HB.out).trans hbel5); have HRB5 := Lib.hid (World.ownsRow.kept HR.out hg5 (HNE.out.symm.imp id id)); clear hown5 hbel5 hg5))
            | (at_builtin; go_loud (refine wpList_append_both (o := ⟨some 66, _, _, _, _, _⟩) rfl _ _ 37 rfl w.heap.size 40 i0 (.agg #[.int .i64 0, .int .i64 0, .int .i64 0, .int .i64 0]) 4 32 Try.underlying37 hi hz0 hz1 hz2 rfl (by decide) _ _ _ (by rfl) HS5.out oa2 nb cap2 (cellsOf (behL l (x.o + x.n))) (by rfl) HNIL.out (by rw [cells_len, HNB.out]) (pts_news (Row.pts HRB5.out)) (cells_onecell _) (by unfold maxLen; omega) (by omega) HB5.out.size ?_; intro oa6 cap6 w6 hown6 hbel6 hg6; have HS6 := Lib.hid hown6; have HB6 := Lib.hid (HB5.out.trans hbel6); have HPT := Lib.hid (Row.pts (over_row HOL.out hown6)); clear hown6 hbel6 hg6))
            | (go_at_call 50; refine (joined_is _ _ _ _ HOL.out HSO.out HOO.out (by have := HOL.out; omega) _ HPT.out).mono ?_; rintro e w7 ⟨v7, rfl, hr7, hb7⟩; have HR7 := Lib.hid (hr7.mono HB6.out.size); have HB7 := Lib.hid (bstep HB6.out hb7); clear hr7 hb7))
          go_ret2
          exact ⟨v7, by rw [HE.out.1]; rfl, by rw [HE.out.2]; exact HR7.out, HB7.out⟩
    · have H1 : Hid (decide (One x) = false) := Lib.hid (decide_eq_false ho)
      have HE : Hid (putE l x = 1 ∧ putL l x = []) := Lib.hid (by unfold putE putL; rw [if_pos hg, if_pos hg, if_neg ho, if_neg ho]; exact ⟨rfl, rfl⟩)
      have hl64 := hg.1
      clear hg ho hl
      go_enter Try.func33, Try.ntmps33
      go_wp2_with (first
        | (go_at_call 48; refine (good_is _ _ _ _ HG.out (by omega) _ HP.out).mono ?_; rintro e w1 ⟨rfl, hb1⟩; have HBX1 := Lib.hid (HBX.out.grow hb1); have HB1 := Lib.hid (bstep (below_alloc w _) hb1); clear hb1; obtain ⟨p0, p1, p2, p3⟩ := HBX1.out.cells)
        | (go_at_call 49; refine (one_is x _ H1.out _).mono ?_; rintro e w2 ⟨rfl, hb2⟩; have HB2 := Lib.hid (bstep HB1.out hb2); clear hb2))
      go_ret2
      exact ⟨.slice none 0 0, by rw [HE.out.1]; rfl, by rw [HE.out.2]; exact Row.nil _ _, HB2.out⟩
  · have HG : Hid (decide (Good l) = false) := Lib.hid (decide_eq_false hg)
    have HE : Hid (putE l x = 11 ∧ putL l x = []) := Lib.hid (by unfold putE putL; rw [if_neg hg, if_neg hg]; exact ⟨rfl, rfl⟩)
    clear hg
    go_enter Try.func33, Try.ntmps33
    go_wp2_with (go_at_call 48; refine (good_is _ _ _ _ HG.out (by omega) _ HP.out).mono ?_; rintro e w1 ⟨rfl, hb1⟩; have HB1 := Lib.hid (bstep (below_alloc w _) hb1); clear hb1)
    go_ret2
    exact ⟨.slice none 0 0, by rw [HE.out.1]; rfl, by rw [HE.out.2]; exact Row.nil _ _, HB1.out⟩
end Go.Proofs.Ytappgelpigoknaa.ExtW
