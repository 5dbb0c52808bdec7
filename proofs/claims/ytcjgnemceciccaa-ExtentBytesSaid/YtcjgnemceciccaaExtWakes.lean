/- The law's own test that the code is awake; the arguments, opened. -/
import Derived.Test.YtcjgnemceciccaaExtKeep
import Derived.Lib.SmallJoins
namespace Go.Proofs.Ytcjgnemceciccaa.ExtW
open Go.RowKit Go.ChangeShapes Go.WideShapes Go.Deep
theorem put_is (oa : Option Addr) (n cap : Nat) (l m : List Pt) (x : Pt) (er : Int) (hm : putL l x = m) (he : putE l x = er) (hn : n = l.length) (hl : l.length ≤ 9223372036854775807) (w : World) (h : PtsAt w.heap.size oa l w) :
    Calls Try.prog 19 #[.slice oa n cap, .agg #[.int .i64 x.o, .int .i64 x.n, .int .i64 x.a, .int .i64 x.f]] w fun e w' => ∃ oa2 cap2, e = .returned (.tuple #[.slice oa2 m.length cap2, .int .i64 er]) ∧ Row w.heap.size w' (.slice oa2 m.length cap2) m ∧ PtsAt w'.heap.size oa2 m w' ∧ Below w.heap.size w w' := by
  subst hn; subst hm; subst he
  refine (put_any oa cap l x hl w h).mono ?_
  rintro e w' ⟨v, rfl, h1, h2⟩
  obtain ⟨oa2, cap2, rfl, _⟩ := h1.form
  exact ⟨oa2, cap2, rfl, h1, h1.pts, h2⟩
theorem move_is (oa : Option Addr) (n cap : Nat) (l m : List Pt) (ma mf mn mt tt er : Int) (hm : moveL l ma mf mn mt tt = m) (he : moveE l ma mf mn mt tt = er) (hn : n = l.length) (hb : (-9223372036854775808 ≤ mf ∧ mf ≤ 9223372036854775807)) (hl : l.length ≤ 9223372036854775807) (w : World) (h : PtsAt w.heap.size oa l w) :
    Calls Try.prog 23 #[.slice oa n cap, .agg #[.int .i64 ma, .int .i64 mf, .int .i64 mn, .int .i64 mt], .int .i64 tt] w fun e w' => ∃ oa2 cap2, e = .returned (.tuple #[.slice oa2 m.length cap2, .int .i64 er]) ∧ Row w.heap.size w' (.slice oa2 m.length cap2) m ∧ PtsAt w'.heap.size oa2 m w' ∧ Below w.heap.size w w' := by
  subst hn; subst hm; subst he
  refine (move_any oa cap l ma mf mn mt tt hb hl w h).mono ?_
  rintro e w' ⟨v, rfl, h1, h2⟩
  obtain ⟨oa2, cap2, rfl, _⟩ := h1.form
  exact ⟨oa2, cap2, rfl, h1, h1.pts, h2⟩
theorem plan_is (oa : Option Addr) (n cap : Nat) (l m : List Pt) (off k : Int) (hm : planS l off k = m) (hn : n = l.length) (hl : l.length ≤ 9223372036854775807) (w : World) (h : PtsAt w.heap.size oa l w) :
    Calls Try.prog 21 #[.slice oa n cap, .int .i64 off, .int .i64 k] w fun e w' => ∃ oa2 cap2, e = .returned (.slice oa2 m.length cap2) ∧ Row w.heap.size w' (.slice oa2 m.length cap2) m ∧ PtsAt w'.heap.size oa2 m w' ∧ Below w.heap.size w w' := by
  subst hn; subst hm
  refine (plan_any oa cap l off k hl w h).mono ?_
  rintro e w' ⟨v, rfl, h1, h2⟩
  obtain ⟨oa2, cap2, rfl, _⟩ := h1.form
  exact ⟨oa2, cap2, rfl, h1, h1.pts, h2⟩
theorem cut_is2 (oa : Option Addr) (n cap : Nat) (l m : List Pt) (s : Int) (hm : cutS l s = m) (hn : n = l.length) (hs : -9223372036854775808 ≤ s ∧ s ≤ 9223372036854775807) (hl : l.length ≤ 9223372036854775807) (w : World) (h : PtsAt w.heap.size oa l w) :
    Calls Try.prog 17 #[.slice oa n cap, .int .i64 s] w fun e w' => ∃ oa2 cap2, e = .returned (.slice oa2 m.length cap2) ∧ Row w.heap.size w' (.slice oa2 m.length cap2) m ∧ PtsAt w'.heap.size oa2 m w' ∧ Below w.heap.size w w' :=
  (cut_is oa n cap l m s hm hn hs hl w h).mono fun _ _ ⟨oa2, cap2, h1, h2, _, _, h5⟩ => ⟨oa2, cap2, h1, h2, h2.pts, h5⟩
theorem end_is (oa : Option Addr) (n cap : Nat) (l : List Pt) (r : Int) (hr : endS l = r) (hn : n = l.length) (hl : l.length ≤ 9223372036854775807) (w : World) (h : PtsAt w.heap.size oa l w) :
    Calls Try.prog 14 #[.slice oa n cap] w fun e w' => e = .returned (.int .i64 r) ∧ Below w.heap.size w w' := by
  rw [← hr]; exact end_any oa n cap l hn hl w h
theorem good_is2 (oa : Option Addr) (n cap : Nat) (l : List Pt) (b : Bool) (hb : decide (Good l) = b) (hn : n = l.length) (hl : l.length ≤ 9223372036854775807) (w : World) (h : PtsAt w.heap.size oa l w) :
    Calls Try.prog 12 #[.slice oa n cap] w fun e w' => e = .returned (.bool b) ∧ Below w.heap.size w w' := by
  subst hn; exact good_is oa cap l b hb hl w h
def wk0 : List Pt := [⟨0, 10, 1, 0⟩]
def wk1 : List Pt := [⟨0, 3, 1, 0⟩, ⟨3, 2, 7, 5⟩, ⟨5, 5, 1, 5⟩]
def wk2 : List Pt := [⟨0, 3, 1, 0⟩, ⟨3, 2, 9, 0⟩, ⟨5, 5, 1, 5⟩]
def wk3 : List Pt := [⟨4, 1, 7, 6⟩, ⟨5, 5, 1, 5⟩, ⟨10, 2, -1, 0⟩]
def wk4 : List Pt := [⟨0, 3, 1, 0⟩, ⟨3, 1, 7, 5⟩]
theorem wk_put : putL wk0 ⟨3, 2, 7, 5⟩ = wk1 ∧ putE wk0 ⟨3, 2, 7, 5⟩ = 0 := by decide +kernel
theorem wk_plan : planS wk1 4 8 = wk3 := by decide +kernel
theorem wk_cut : cutS wk1 4 = wk4 := by decide +kernel
theorem wk_end : endS wk1 = 10 := by decide +kernel
theorem wk_good : decide (Good wk1) = true := by decide +kernel
theorem wk_move : moveL wk1 7 5 2 0 9 = wk2 ∧ moveE wk1 7 5 2 0 9 = 0 := by
  have hg : Good wk1 := by decide +kernel
  have hm : May 7 5 2 0 9 := by decide +kernel
  have hs : Sorted 0 wk2 8192 := by
    unfold wk2 Sorted Sorted Sorted Sorted; decide
  have hc : Chain wk2 := by decide +kernel
  have key : movL wk1 7 5 2 0 9 = wk2 := by
    have h1 := join_units0 hs (movG (look wk1) 7 5 2 0 9) (fun i => by
      unfold movG wk1 wk2
      simp only [look]
      by_cases c1 : 0 ≤ i ∧ i < 3
      · simp [c1.1, c1.2]
      · by_cases c2 : 3 ≤ i ∧ i < 5
        · have e1 : ¬ (0 ≤ i ∧ i < 0 + 3) := by omega
          have e2 : 3 ≤ i ∧ i < 3 + 2 := by omega
          rw [if_neg e1, if_pos e2, if_neg e1, if_pos e2]
          have e3 : (7 : Int) = 7 ∧ (5 : Int) ≤ 5 + (i - 3) ∧ 5 + (i - 3) < 5 + 2 := ⟨rfl, by omega, by omega⟩
          show some ((9 : Int), 0 + (i - 3)) = if (7 : Int) = 7 ∧ (5 : Int) ≤ 5 + (i - 3) ∧ 5 + (i - 3) < 5 + 2 then some (9, 5 + (i - 3) - 5 + 0) else some (7, 5 + (i - 3))
          rw [if_pos e3, show (0 : Int) + (i - 3) = 5 + (i - 3) - 5 + 0 by omega]
        · have e1 : ¬ (0 ≤ i ∧ i < 0 + 3) := by omega
          have e2 : ¬ (3 ≤ i ∧ i < 3 + 2) := by omega
          rw [if_neg e1, if_neg e2, if_neg e1, if_neg e2]
          by_cases c3 : 5 ≤ i ∧ i < 5 + 5
          · rw [if_pos c3]; simp
          · rw [if_neg c3])
    rw [join_chain hc] at h1
    exact h1.symm
  unfold moveL moveE
  rw [if_pos hg, if_pos hm, if_pos hg, if_pos hm, key]
  decide +kernel
theorem pts_len3 {B : Nat} {w : World} {oa : Option Addr} {a b c : Pt} (h : PtsAt B oa [a, b, c] w) : ∃ ad, oa = some ad ∧ w.cell? ⟨ad.block, ad.off + 4 + 2, none⟩ = some (.int .i64 b.a) ∧ w.cell? ⟨ad.block, ad.off + 4 + 3, none⟩ = some (.int .i64 b.f) ∧ w.cell? ⟨ad.block, ad.off + 8 + 2, none⟩ = some (.int .i64 c.a) := by
  obtain ⟨ad, rfl, _, _, _, c2, c3⟩ := h 1 b rfl
  obtain ⟨ad', e, _, _, _, d2, _⟩ := h 2 c rfl
  obtain rfl : ad = ad' := by simpa using e
  exact ⟨ad, rfl, c2, c3, d2⟩
set_option maxRecDepth 100000 in
set_option maxHeartbeats 1600000 in
theorem wakes_any (w : World) : Calls Try.prog 10 #[] w fun e w' => e = .returned (.bool true) ∧ Below w.heap.size w w' := by
  have HP0 : Hid (PtsAt (w.alloc (.cells #[.int .i64 0, .int .i64 10, .int .i64 1, .int .i64 0] 31)).heap.size (some ⟨w.heap.size, 0, none⟩) wk0 (w.alloc (.cells #[.int .i64 0, .int .i64 10, .int .i64 1, .int .i64 0] 31))) := Lib.hid fun i x hx => by
    obtain ⟨hi, rfl⟩ := List.getElem?_eq_some_iff.1 hx
    obtain rfl : i = 0 := by simpa [wk0] using hi
    exact ⟨_, rfl, by simp, alloc_cell w #[.int .i64 0, .int .i64 10, .int .i64 1, .int .i64 0] _ 0 _ rfl, alloc_cell w #[.int .i64 0, .int .i64 10, .int .i64 1, .int .i64 0] _ 1 _ rfl, alloc_cell w #[.int .i64 0, .int .i64 10, .int .i64 1, .int .i64 0] _ 2 _ rfl, alloc_cell w #[.int .i64 0, .int .i64 10, .int .i64 1, .int .i64 0] _ 3 _ rfl⟩
  go_enter Try.func10, Try.ntmps10
  have l1 : wk1.length = 3 := rfl
  have l2 : wk2.length = 3 := rfl
  have l3 : wk3.length = 3 := rfl
  have l4 : wk4.length = 2 := rfl
  go_wp2_with (first
    | (go_at_call 19; go_loud (refine (put_is _ _ _ wk0 wk1 ⟨3, 2, 7, 5⟩ 0 wk_put.1 wk_put.2 rfl (by decide) _ HP0.out).mono ?_; rintro e w1 ⟨oa1, cap1, rfl, _, hp1, hb1⟩; have HP1 := Lib.hid hp1; have HB1 := Lib.hid (bstep (below_alloc w _) hb1); clear hp1 hb1))
    | (go_at_call 23; go_loud (refine (move_is _ _ _ wk1 wk2 7 5 2 0 9 0 wk_move.1 wk_move.2 rfl (by decide) (by decide) _ HP1.out).mono ?_; rintro e w2 ⟨oa2, cap2, rfl, _, hp2, hb2⟩; have HP2 := Lib.hid hp2; have HP12 := Lib.hid (HP1.out.grow hb2); have HB2 := Lib.hid (bstep HB1.out hb2); clear hp2 hb2))
    | (go_at_call 21; go_loud (refine (plan_is _ _ _ wk1 wk3 4 8 wk_plan rfl (by decide) _ HP12.out).mono ?_; rintro e w3 ⟨oa3, cap3, rfl, _, hp3, hb3⟩; have HP13 := Lib.hid (HP12.out.grow hb3); have HB3 := Lib.hid (bstep HB2.out hb3); obtain ⟨a2, rfl, m1, m2, _⟩ := pts_len3 (HP2.out.grow hb3); obtain ⟨a3, rfl, _, _, m3⟩ := pts_len3 hp3; clear hp3 hb3))
    | (go_at_call 14; go_loud (refine (end_is _ _ _ wk1 10 wk_end rfl (by decide) _ HP13.out).mono ?_; rintro e w4 ⟨rfl, hb4⟩; have HP14 := Lib.hid (HP13.out.grow hb4); have HB4 := Lib.hid (bstep HB3.out hb4); clear hb4))
    | (go_at_call 17; go_loud (refine (cut_is2 _ _ _ wk1 wk4 4 wk_cut rfl (by decide) (by decide) _ HP14.out).mono ?_; rintro e w5 ⟨oa5, cap5, rfl, _, _, hb5⟩; have HP15 := Lib.hid (HP14.out.grow hb5); have HB5 := Lib.hid (bstep HB4.out hb5); clear hb5))
    | (go_at_call 12; go_loud (refine (good_is2 _ _ _ wk1 true wk_good rfl (by decide) _ HP15.out).mono ?_; rintro e w6 ⟨rfl, hb6⟩; have HB6 := Lib.hid (bstep HB5.out hb6); clear hb6)))
  go_ret
  exact ⟨rfl, HB6.out⟩
section
variable {H : Type} {enc : TypeId × Value → H} {w : World} {base b0 : Nat} {spare : Nat → Bool} {held : Bool} {r : Reach} {v : Value} {d : DataW H} {p : List MemPlace}
/-- a list of parts that came in -/
structure Came (w : World) (oa : Option Addr) (cap : Nat) (l : List Pt) : Prop where
  pts : PtsAt w.heap.size oa l w
  nil : oa = none → l.length = 0 ∧ cap = 0
theorem open_parts (hv : Value.okWide Try.prog w r b0 22 v) (h : DataW.Trod enc Try.prog w base spare held 22 v d p) :
    ∃ (oa : Option Addr) (cap : Nat) (l : List Pt), v = .slice oa l.length cap ∧ Came w oa cap l ∧ l.length ≤ maxLen := by
  obtain ⟨oa, len, cap, rfl, hl, hm, hn, hi⟩ := open_rows Try.underlying22 Try.underlying31 (by kernel_rfl) (by kernel_rfl) hv h
  have key : ∀ i, ∃ x : Pt, i < len → ∃ a, oa = some a ∧ a.block < w.heap.size ∧ w.cell? (a.add (i * 4)) = some (.int .i64 x.o) ∧ w.cell? ⟨(a.add (i * 4)).block, (a.add (i * 4)).off + 1, none⟩ = some (.int .i64 x.n) ∧
      w.cell? ⟨(a.add (i * 4)).block, (a.add (i * 4)).off + 2, none⟩ = some (.int .i64 x.a) ∧ w.cell? ⟨(a.add (i * 4)).block, (a.add (i * 4)).off + 3, none⟩ = some (.int .i64 x.f) := by
    intro i
    by_cases hil : i < len
    · obtain ⟨a, n, ha, hf⟩ := hi i hil
      obtain ⟨u0, y0, c0, t0⟩ := hf 0 _ rfl
      obtain ⟨u1, y1, c1, t1⟩ := hf 1 _ rfl
      obtain ⟨u2, y2, c2, t2⟩ := hf 2 _ rfl
      obtain ⟨u3, y3, c3, t3⟩ := hf 3 _ rfl
      obtain ⟨z0, e0, _, _⟩ := DataW.trod_int Try.underlying3 t0
      obtain ⟨z1, e1, _, _⟩ := DataW.trod_int Try.underlying3 t1
      obtain ⟨z2, e2, _, _⟩ := DataW.trod_int Try.underlying3 t2
      obtain ⟨z3, e3, _, _⟩ := DataW.trod_int Try.underlying3 t3
      obtain rfl : u0 = .int .i64 z0 := by simpa using e0
      obtain rfl : u1 = .int .i64 z1 := by simpa using e1
      obtain rfl : u2 = .int .i64 z2 := by simpa using e2
      obtain rfl : u3 = .int .i64 z3 := by simpa using e3
      refine ⟨⟨z0, z1, z2, z3⟩, fun _ => ⟨a, ha, ?_, ?_, ?_, ?_, ?_⟩⟩
      · have := World.block_lt_of_cell? _ _ c0
        rwa [add_block] at this
      · exact c0
      · rw [← add_field a (i * 4) 0]; exact c1
      · rw [← add_field a (i * 4) 1]; exact c2
      · rw [← add_field a (i * 4) 2]; exact c3
    · exact ⟨⟨0, 0, 0, 0⟩, fun h => absurd h hil⟩
  refine ⟨oa, cap, (List.range len).map (fun i => (key i).choose), by simp, ⟨?_, ?_⟩, by simp; omega⟩
  · intro i x hx
    have hil : i < len := by have := (List.getElem?_eq_some_iff.1 hx).1; simpa using this
    obtain rfl : (key i).choose = x := by simpa [hil] using hx
    exact (key i).choose_spec hil
  · intro e
    have := hn e
    simpa using this
theorem open_part (hv : Value.okWide Try.prog w r b0 31 v) (h : DataW.Trod enc Try.prog w base spare held 31 v d p) :
    ∃ x : Pt, v = .agg #[.int .i64 x.o, .int .i64 x.n, .int .i64 x.a, .int .i64 x.f] ∧ True := by
  obtain ⟨v0, v1, v2, v3, y0, y1, y2, y3, n, rfl, _, _, t0, t1, t2, t3⟩ := Go.Joins.open_agg4 Try.underlying31 (by kernel_rfl) (by kernel_rfl) hv h
  obtain ⟨z0, e0, _, _⟩ := DataW.trod_int Try.underlying3 t0
  obtain ⟨z1, e1, _, _⟩ := DataW.trod_int Try.underlying3 t1
  obtain ⟨z2, e2, _, _⟩ := DataW.trod_int Try.underlying3 t2
  obtain ⟨z3, e3, _, _⟩ := DataW.trod_int Try.underlying3 t3
  obtain rfl : v0 = .int .i64 z0 := by simpa using e0
  obtain rfl : v1 = .int .i64 z1 := by simpa using e1
  obtain rfl : v2 = .int .i64 z2 := by simpa using e2
  obtain rfl : v3 = .int .i64 z3 := by simpa using e3
  exact ⟨⟨z0, z1, z2, z3⟩, rfl, trivial⟩
theorem open_move (hv : Value.okWide Try.prog w r b0 41 v) (h : DataW.Trod enc Try.prog w base spare held 41 v d p) :
    ∃ ma mf mn mt : Int, v = .agg #[.int .i64 ma, .int .i64 mf, .int .i64 mn, .int .i64 mt] ∧ (Lit.int .i64 mf).wf = true := by
  obtain ⟨v0, v1, v2, v3, y0, y1, y2, y3, n, rfl, _, _, t0, t1, t2, t3⟩ := Go.Joins.open_agg4 Try.underlying41 (by kernel_rfl) (by kernel_rfl) hv h
  obtain ⟨z0, e0, _, _⟩ := DataW.trod_int Try.underlying3 t0
  obtain ⟨z1, e1, _, h1⟩ := DataW.trod_int Try.underlying3 t1
  obtain ⟨z2, e2, _, _⟩ := DataW.trod_int Try.underlying3 t2
  obtain ⟨z3, e3, _, _⟩ := DataW.trod_int Try.underlying3 t3
  obtain rfl : v0 = .int .i64 z0 := by simpa using e0
  obtain rfl : v1 = .int .i64 z1 := by simpa using e1
  obtain rfl : v2 = .int .i64 z2 := by simpa using e2
  obtain rfl : v3 = .int .i64 z3 := by simpa using e3
  exact ⟨z0, z1, z2, z3, rfl, h1⟩
end
end Go.Proofs.Ytcjgnemceciccaa.ExtW
