/- The table of inodes: good, Load, of a list that may be one. -/
import Derived.Test.YtappgelpigoknaaInbList
import Derived.Test.YtappgelpigoknaaInoLG
import Derived.Test.YtappgelpigoknaaExtEnd
import Derived.Test.YtappgelpigoknaaHeld
namespace Go.Proofs.Ytappgelpigoknaa.InoW
set_option maxRecDepth 100000
open Go.RowKit InoP ExtW
set_option maxHeartbeats 3200000 in
theorem good_yes (nx : Int) (x : Ino) (yi yk yl yo ys : Int) (ya : Option Addr) (yn yc : Nat) (hx : OkX nx x) (w : World) (h : IRead w x ⟨yi, yk, yl, yo, ys, ya, yn, yc⟩) :
    Calls Try.prog 43 #[.agg #[.int .i64 yi, .int .i64 yk, .int .i64 yl, .int .i64 yo, .int .i64 ys, .slice ya yn yc]] w fun e w' => e = .returned (.bool true) ∧ Below w.heap.size w w' := by
  have HBX : Hid (IBox (w.alloc (.cells #[.int .i64 yi, .int .i64 yk, .int .i64 yl, .int .i64 yo, .int .i64 ys, .slice ya yn yc] 62)) w.heap.size ⟨yi, yk, yl, yo, ys, ya, yn, yc⟩) := Lib.hid (heap_alloc_new w _)
  have HBW := Lib.hid (below_alloc w (.cells #[.int .i64 yi, .int .i64 yk, .int .i64 yl, .int .i64 yo, .int .i64 ys, .slice ya yn yc] 62))
  have h1 := hx.l; have h2 := hx.o; have h3 := hx.h; have h4 := hx.s
  have e1 : yk = x.k := h.k; have e2 : yl = x.l := h.l; have e3 : yo = x.o := h.o; have e4 : ys = x.s := h.s
  obtain rfl : yn = x.p.length := h.n
  have a1 : decide (yl < 0) = false := decide_eq_false (by omega)
  have a2 : decide (8 < yl) = false := decide_eq_false (by omega)
  have a3 : decide (yo < 0) = false := decide_eq_false (by omega)
  have a4 : decide (128 < yo) = false := decide_eq_false (by omega)
  have a5 : IntKind.i64.wrap (yl + yo) = yl + yo := IntWalk.i64_in _ (by omega)
  have a6 : decide (yl + yo < 1) = false := decide_eq_false (by omega)
  rcases hx.k with hk | hk
  · obtain ⟨d1, d2, d3⟩ := hx.d hk
    obtain rfl : yk = 1 := by omega
    obtain rfl : yo = 0 := by omega
    obtain rfl : ys = 0 := by omega
    have a7 : IntKind.i64.wrap yl = yl := IntWalk.i64_in _ (by omega)
    have a8 : decide (yl < 1) = false := decide_eq_false (by omega)
    rw [d3] at HBX HBW ⊢
    clear a5 a6
    clear h hx h1 h2 h3 h4 e1 e2 e3 e4 hk d1 d2 d3
    go_enter Try.func43, Try.ntmps43
    go_wp2_with fail
    go_ret
    exact ⟨rfl, HBW.out⟩
  · obtain rfl : yk = 2 := by omega
    have b1 : (0 : Int) ≤ ys := by omega
    have b2 : ys ≤ 8192 := by omega
    have b3 : endS x.p ≤ ys := by rw [e4]; exact hx.e
    have HG : Hid (decide (ExtW.Good x.p) = true) := Lib.hid (decide_eq_true hx.g)
    have HLN : Hid (x.p.length ≤ 64) := Lib.hid hx.g.1
    have HPT := Lib.hid (h.pts.grow HBW.out)
    obtain ⟨E, hE⟩ : ∃ E, endS x.p = E := ⟨_, rfl⟩
    rw [hE] at b3
    have HE := Lib.hid hE
    have b4 : decide (E ≤ ys) = true := decide_eq_true b3
    clear h hx h1 h2 h3 h4 e1 e2 e3 e4 hk hE
    go_enter Try.func43, Try.ntmps43
    go_wp2_with fail
    generalize w.alloc (.cells #[.int .i64 yi, .int .i64 2, .int .i64 yl, .int .i64 yo, .int .i64 ys, .slice ya x.p.length yc] 62) = w1 at *
    refine held_below (by kernel_rfl) (by kernel_rfl) ?_
    repeat first
      | (refine held_skip ?_ ?_; (· first | rfl | (go_simp; done)); simp only [Act.put, List.setIfInBounds_toArray, List.set_cons_zero, List.set_cons_succ])
      | (refine held_val (v := ?_) ?_ ?_ ?_
         rotate_left
         · first | rfl | (go_simp; done)
         · intro wq hq
           obtain ⟨c0, c1, c2, c3, c4, c5⟩ := IBox.cells ((hq.block _ (lt_of_block HBX.out)).trans HBX.out)
           go_simp
           with_reducible rfl
         simp only [Act.put, List.setIfInBounds_toArray, List.set_cons_zero, List.set_cons_succ])
      | (refine held_call (v := ?_) (f := ?_) (args := ?_) ?_ ?_ ?_ ?_
         rotate_left 3
         · first | rfl | (go_simp; done)
         · intro wq
           go_simp
           constructor
           · rfl
           · rfl
         · intro wq hq
           first
             | (refine (good_any _ ya yc x.p (by have := HLN.out; omega) wq (Nat.le_refl _) (HPT.out.grow hq)).mono ?_
                rintro e wr ⟨rfl, hb1⟩
                rw [HG.out]
                constructor
                · rfl
                · exact bstep hq hb1)
             | (refine (end_any ya x.p.length yc x.p rfl (by have := HLN.out; omega) wq (HPT.out.grow hq)).mono ?_
                rintro e wr ⟨rfl, hb1⟩
                rw [HE.out]
                constructor
                · rfl
                · exact bstep hq hb1)
         simp only [Act.put, List.setIfInBounds_toArray, List.set_cons_zero, List.set_cons_succ])
    refine held_nil ?_
    intro w2 hb2
    have HB2 := Lib.hid (bstep HBW.out hb2)
    clear hb2
    go_wp2_with fail
    go_ret
    exact ⟨rfl, HB2.out⟩
/-- the map while it is laid -/
structure Lay (w W : World) (tb mb k : Nat) (xs : List Ino) : Prop where
  map : ∃ n g, TmIs w mb n g ∧ (∀ i, find (xs.take k) i = none → g i = none) ∧ ∀ i x, find (xs.take k) i = some x → ∃ y, g i = some y ∧ IRel w tb mb x y
  below : Below W.heap.size W w
theorem Lay.grow {w w' W : World} {tb mb k : Nat} {xs : List Ino} (h : Lay w W tb mb k xs) (hb : Below w.heap.size w w') : Lay w' W tb mb k xs :=
  ⟨by obtain ⟨n, g, m, h1, h2⟩ := h.map; exact ⟨n, g, MapIs.keep m hb, h1, fun i x hx => by obtain ⟨y, hy, hr⟩ := h2 i x hx; exact ⟨y, hy, hr.grow hb⟩⟩, bstep h.below hb⟩
theorem Lay.put {w w' W : World} {tb mb k m : Nat} {xs : List Ino} {g : Int → Option IV} {x : Ino} {y : IV} (hr : Rises xs) (hx : xs[k]? = some x) (h1 : ∀ i, find (xs.take k) i = none → g i = none)
    (h2 : ∀ i x, find (xs.take k) i = some x → ∃ y, g i = some y ∧ IRel w tb mb x y) (hy : IRel w tb mb x y) (hm' : TmIs w' mb m (fun z => if z = x.i then some y else g z)) (ho : Only mb w w') (hb : Below W.heap.size W w) (hW : W.heap.size ≤ mb) : Lay w' W tb mb (k + 1) xs := by
  have e := find_snoc (xs.take k) x (take_find hr hx)
  refine ⟨⟨m, _, hm', fun i hi => ?_, fun i z hz => ?_⟩, hb.trans (ho.below hW hb.size)⟩
  · rw [take_snocI hx, e] at hi
    by_cases c : i = x.i
    · simp [c] at hi
    · simp only [if_neg c] at hi ⊢; exact h1 i hi
  · rw [take_snocI hx, e] at hz
    by_cases c : i = x.i
    · simp only [if_pos c] at hz ⊢
      injection hz with hz
      exact ⟨y, rfl, hz ▸ hy.only ho (.inr rfl)⟩
    · simp only [if_neg c] at hz ⊢
      obtain ⟨u, hu, hq⟩ := h2 i z hz
      exact ⟨u, hu, hq.only ho (.inr rfl)⟩
set_option maxHeartbeats 6400000 in
theorem load_yes (tb b : Nat) (L0 : List Ino) (n0 nx : Int) (oa : Option Addr) (cap : Nat) (xs : List Ino) (ys : List IV) (hg : LGood xs nx) (W : World) (h : TIs W tb b L0 n0) (hl : IList W oa xs ys) :
    Calls Try.prog 20 #[.pointer (some ⟨tb, 0, none⟩), .slice oa xs.length cap, .int .i64 nx] W fun e w' => e = .returned (.int .i64 0) ∧ ∃ mb, TIs w' tb mb xs nx ∧ W.heap.size ≤ mb ∧ Only tb W w' := by
  have hmm := @run_makeMap Try.prog
  have HT := Lib.hid h
  have H := Lib.hid hl
  have HG := Lib.hid hg
  have hlen := hl.read.1
  have hn := hg.n
  have hln := hg.len
  obtain ⟨r, hr0⟩ : ∃ r, xs[0]? = some r := ⟨_, List.getElem?_eq_getElem (by omega)⟩
  obtain ⟨y, hy0⟩ : ∃ y, ys[0]? = some y := ⟨_, List.getElem?_eq_getElem (by omega)⟩
  obtain ⟨f1, f2, f3⟩ := hg.first r hr0
  have q0 := hl.read.2 0 r y hr0 hy0
  obtain ⟨a, rfl, _, c0, c1, c2, _, _, _⟩ := iv_at hl.at_ hy0
  rw [q0.i, f1] at c0; rw [q0.k, f2] at c1; rw [q0.l, f3] at c2
  simp only [Nat.zero_mul, Addr.add, if_true] at c0 c1 c2
  have d1 : decide ((xs.length : Int) < 1) = false := decide_eq_false (by omega)
  have d2 : decide ((64 : Int) < (xs.length : Int)) = false := decide_eq_false (by omega)
  have d3 : decide (nx < 2) = false := decide_eq_false (by omega)
  have d4 : decide (2147483647 < nx) = false := decide_eq_false (by omega)
  have d5 : (0 : Int) < (xs.length : Int) := by omega
  have d6 : 0 < xs.length := by omega
  have HM0 : Hid (TmIs (W.alloc (.map #[] 0)) W.heap.size 0 (fun _ => none)) := Lib.hid (MapIs.made W)
  have HB0 := Lib.hid (below_alloc W (.map #[] 0))
  have HLT := Lib.hid h.lt
  clear h hl hg hr0 hy0 q0 hn f1 f2 f3
  go_enter Try.func20, Try.ntmps20
  go_wp2_with fail
  generalize hmb : W.heap.size = mb at HM0 ⊢
  have HMB := Lib.hid hmb
  have HLY0 : Hid (Lay (W.alloc (.map #[] 0)) W tb mb 0 xs) := Lib.hid ⟨⟨0, _, HM0.out, fun _ _ => rfl, fun i x hx => by simp [find] at hx⟩, HB0.out⟩
  clear c0 c1 c2 d1 d2 d3 d4 d5 d6 hmm hmb
  go_loopw [52] (fun i wr => ∃ k : Nat, k ≤ xs.length ∧ i = .int .i64 (k : Int) ∧ Lay wr W tb mb k xs) (fun i _ => (xs.length - intOf i).toNat)
  case atStart => exact ⟨0, by omega, rfl, HLY0.out⟩
  case round =>
    obtain ⟨k, hk, rfl, hlay⟩ := hrel
    by_cases hlt : k < xs.length
    · obtain ⟨x, hx⟩ : ∃ x, xs[k]? = some x := ⟨_, List.getElem?_eq_getElem hlt⟩
      obtain ⟨y, hy⟩ : ∃ y, ys[k]? = some y := ⟨_, List.getElem?_eq_getElem (by omega)⟩
      obtain ⟨yi, yk, yl, yo, ys', ya, yn, yc⟩ := y
      have HH := Lib.hid (H.out.grow hlay.below)
      have hr := HH.out.read.2 k x _ hx hy
      obtain ⟨a', ea, _, c0, c1, c2, c3, c4, c5⟩ := iv_at HH.out.at_ hy
      obtain rfl : a = a' := by simpa using ea
      simp only at c0 c1 c2 c3 c4 c5
      obtain rfl : yn = x.p.length := hr.n
      obtain rfl : yi = x.i := hr.i
      have HR := Lib.hid hr
      obtain ⟨hok, hprev⟩ := HG.out.all k hlt x hx
      have HOK := Lib.hid hok
      have e1 : decide (nx ≤ x.i) = false := decide_eq_false (by have := hok.i2; omega)
      obtain ⟨n, g, hm, g1, g2⟩ := hlay.map
      have HM := Lib.hid hm
      have HG1 := Lib.hid g1
      have HG2 := Lib.hid g2
      have HLB := Lib.hid hlay.below
      have HX := Lib.hid hx
      have HIX : Hid (iOk x.i) := Lib.hid (iOk_of (by have := hok.i1; have := hok.i2; have := HG.out.n; omega))
      have HPL : Hid (x.p.length ≤ 64) := Lib.hid hok.g.1
      obtain ⟨pv, hpv⟩ : ∃ pv : Int, ∀ j, k = j + 1 → (∃ yj : IV, ys[j]? = some yj ∧ yj.i = pv) ∧ pv < x.i := by
        cases k with
        | zero => exact ⟨0, fun j h => by omega⟩
        | succ j =>
          obtain ⟨p, hp⟩ : ∃ p, xs[j]? = some p := ⟨_, List.getElem?_eq_getElem (by omega)⟩
          obtain ⟨yj, hyj⟩ : ∃ yj, ys[j]? = some yj := ⟨_, List.getElem?_eq_getElem (by omega)⟩
          refine ⟨yj.i, fun j' h => ?_⟩
          obtain rfl : j = j' := by omega
          refine ⟨⟨yj, hyj, rfl⟩, ?_⟩
          rw [(HH.out.read.2 j p yj hp hyj).i]
          exact hprev p (by omega) hp
      clear hx hy hr hok hprev hm g1 g2 hlay
      have HBX : Hid (IBox (wr.alloc (.cells #[.int .i64 x.i, .int .i64 yk, .int .i64 yl, .int .i64 yo, .int .i64 ys', .slice ya x.p.length yc] 62)) wr.heap.size ⟨x.i, yk, yl, yo, ys', ya, x.p.length, yc⟩) := Lib.hid (heap_alloc_new wr _)
      have HBW := Lib.hid (below_alloc wr (.cells #[.int .i64 x.i, .int .i64 yk, .int .i64 yl, .int .i64 yo, .int .i64 ys', .slice ya x.p.length yc] 62))
      by_cases hk0 : k = 0
      · have z1 : ¬ 0 < k := by omega
        clear hk0 hpv
        go_wp2_with fail
        have HBW2 := Lib.hid (HLB.out.trans (HBW.out.mono HLB.out.size))
        clear c0 c1 c2 c3 c4 c5
        generalize wr.alloc (.cells #[.int .i64 x.i, .int .i64 yk, .int .i64 yl, .int .i64 yo, .int .i64 ys', .slice ya x.p.length yc] 62) = w1 at *
        refine held_below (by kernel_rfl) (by kernel_rfl) ?_
        repeat first
          | (refine held_skip ?_ ?_; (· first | rfl | (go_simp; done)); simp only [Act.put, List.setIfInBounds_toArray, List.set_cons_zero, List.set_cons_succ])
          | (refine held_val (v := ?_) ?_ ?_ ?_
             rotate_left
             · first | rfl | (go_simp; done)
             · intro wq hq
               obtain ⟨c0, c1, c2, c3, c4, c5⟩ := IBox.cells ((hq.block _ (lt_of_block HBX.out)).trans HBX.out)
               go_simp
               with_reducible rfl
             simp only [Act.put, List.setIfInBounds_toArray, List.set_cons_zero, List.set_cons_succ])
          | (refine held_call (v := ?_) (f := ?_) (args := ?_) ?_ ?_ ?_ ?_
             rotate_left 3
             · first | rfl | (go_simp; done)
             · intro wq
               go_simp
               constructor
               · rfl
               · rfl
             · intro wq hq
               first
                 | (refine (good_yes nx x x.i yk yl yo ys' ya x.p.length yc HOK.out wq ((HR.out.grow HBW.out).grow hq)).mono ?_
                    rintro e wn ⟨rfl, hb1⟩
                    constructor
                    · rfl
                    · exact bstep hq hb1)
             simp only [Act.put, List.setIfInBounds_toArray, List.set_cons_zero, List.set_cons_succ])
        refine held_nil ?_
        intro w2 hb2
        have hbx2 : IBox w2 wr.heap.size ⟨x.i, yk, yl, yo, ys', ya, x.p.length, yc⟩ := (hb2.block _ (lt_of_block HBX.out)).trans HBX.out
        obtain ⟨c0, c1, c2, c3, c4, c5⟩ := IBox.cells hbx2
        have HBX2 := Lib.hid hbx2
        have HB2 := Lib.hid hb2
        have HM2 := Lib.hid (MapIs.keep HM.out (bstep HBW.out hb2))
        clear hb2 hbx2
        go_wp2_with (first
          | (go_at_call 36; go_loud (refine (clone_any ya yc _ x.p rfl (by have := HPL.out; omega) HR.out.nil _ ((HR.out.grow HBW.out).grow HB2.out).pts).mono ?_; rintro e w4 ⟨oa4, cap4, rfl, hr4, hb4⟩; clear c0 c1 c2 c3 c4 c5; have hbx : IBox w4 wr.heap.size ⟨x.i, yk, yl, yo, ys', ya, x.p.length, yc⟩ := (hb4.block _ (lt_of_block HBX2.out)).trans HBX2.out; obtain ⟨c0, c1, c2, c3, c4, c5⟩ := hbx.cells; have f5 := Lib.frozen_of_heap hbx 5; have HR4 := Lib.hid hr4; have HB4 := Lib.hid hb4; have HM4 := Lib.hid (MapIs.only (MapIs.keep HM2.out hb4) ((Only.refl wr.heap.size w4).setCell 5 (.slice oa4 x.p.length cap4)) (by have := MapIs.lt HM.out; omega)); clear hr4 hb4 hbx))
          | (at_mapUpdate; go_loud (refine wpList_map_store _ rfl _ _ _ 69 62 rfl iMK Try.underlying69 mb n g HM4.out (by rfl) x.i ⟨x.i, yk, yl, yo, ys', oa4, x.p.length, cap4⟩ HIX.out (by rfl) (by rfl) ?_; intro w5 hm5 ho5 hs5; have HM5 := Lib.hid hm5; have HO5 := Lib.hid ho5; clear hm5 ho5 hs5)))
        have hbw : wr.heap.size < w1.heap.size := lt_of_block HBX.out
        have hr6 : Row w2.heap.size (w4.setCell ⟨wr.heap.size, 5, none⟩ (.slice oa4 x.p.length cap4)) (.slice oa4 x.p.length cap4) x.p :=
          ((Only.refl wr.heap.size w4).setCell 5 _).keepRow HR4.out (fun e => by
            have hq := (row_base HR4.out).1
            have := HB2.out.size
            cases oa4 with
            | none => simp [Value.ownBlock] at e
            | some ad => have := (hq ad rfl).1; simp [Value.ownBlock] at e; omega)
        have hb6 : Below wr.heap.size wr (w4.setCell ⟨wr.heap.size, 5, none⟩ (.slice oa4 x.p.length cap4)) := (bstep (bstep HBW.out HB2.out) HB4.out).setCell (p := ⟨wr.heap.size, 5, none⟩) (Nat.le_refl _) _
        have hr0 := HR.out
        have hrel : IRel (w4.setCell ⟨wr.heap.size, 5, none⟩ (.slice oa4 x.p.length cap4)) tb mb x ⟨x.i, yk, yl, yo, ys', oa4, x.p.length, cap4⟩ :=
          ⟨rfl, hr0.k, hr0.l, hr0.o, hr0.s, rfl, hr6.pts, fun ad had => by have := ((row_base hr6).1 ad had).1; have := HLT.out; have := HLB.out.size; have := MapIs.lt HM.out; have := HB2.out.size; omega, (row_base hr6).2.2, PartB.row hr6⟩
        have hput := Lay.put (W := W) (tb := tb) HG.out.rises HX.out HG1.out (fun i z hz => by obtain ⟨u, hu, hq⟩ := HG2.out i z hz; exact ⟨u, hu, hq.grow hb6⟩) hrel HM5.out HO5.out (bstep HLB.out hb6) (by rw [HMB.out]; exact Nat.le_refl _)
        exact ⟨⟨k + 1, by omega, by simp, hput⟩, by simp [intOf]; omega⟩
      · obtain ⟨j, hj⟩ : ∃ j, k = j + 1 := ⟨k - 1, by omega⟩
        obtain ⟨⟨yj, hyj, hpi⟩, hlt2⟩ := hpv j hj
        obtain ⟨a2, ea2, _, p0, _⟩ := iv_at HH.out.at_ hyj
        obtain rfl : a = a2 := by simpa using ea2
        rw [hpi] at p0
        have z1 : 0 < k := by omega
        have z2 : IntKind.i64.wrap ((k : Int) - 1) = (j : Int) := by rw [IntWalk.i64_in _ (by omega)]; omega
        have z3 : (j : Int) < (xs.length : Int) := by omega
        have z4 : j < xs.length := by omega
        have z5 : decide (x.i ≤ pv) = false := decide_eq_false (by omega)
        have P0 := Lib.hid p0
        clear hk0 hpv hyj hpi hlt2 hj p0
        go_wp2_with fail
        have HBW2 := Lib.hid (HLB.out.trans (HBW.out.mono HLB.out.size))
        clear c0 c1 c2 c3 c4 c5
        generalize wr.alloc (.cells #[.int .i64 x.i, .int .i64 yk, .int .i64 yl, .int .i64 yo, .int .i64 ys', .slice ya x.p.length yc] 62) = w1 at *
        refine held_below (by kernel_rfl) (by kernel_rfl) ?_
        repeat first
          | (refine held_skip ?_ ?_; (· first | rfl | (go_simp; done)); simp only [Act.put, List.setIfInBounds_toArray, List.set_cons_zero, List.set_cons_succ])
          | (refine held_val (v := ?_) ?_ ?_ ?_
             rotate_left
             · first | rfl | (go_simp; done)
             · intro wq hq
               obtain ⟨c0, c1, c2, c3, c4, c5⟩ := IBox.cells ((hq.block _ (lt_of_block HBX.out)).trans HBX.out)
               have p0 := cell_step (bstep HBW.out hq) P0.out
               go_simp
               with_reducible rfl
             simp only [Act.put, List.setIfInBounds_toArray, List.set_cons_zero, List.set_cons_succ])
          | (refine held_call (v := ?_) (f := ?_) (args := ?_) ?_ ?_ ?_ ?_
             rotate_left 3
             · first | rfl | (go_simp; done)
             · intro wq
               go_simp
               constructor
               · rfl
               · rfl
             · intro wq hq
               first
                 | (refine (good_yes nx x x.i yk yl yo ys' ya x.p.length yc HOK.out wq ((HR.out.grow HBW.out).grow hq)).mono ?_
                    rintro e wn ⟨rfl, hb1⟩
                    constructor
                    · rfl
                    · exact bstep hq hb1)
             simp only [Act.put, List.setIfInBounds_toArray, List.set_cons_zero, List.set_cons_succ])
        refine held_nil ?_
        intro w2 hb2
        have hbx2 : IBox w2 wr.heap.size ⟨x.i, yk, yl, yo, ys', ya, x.p.length, yc⟩ := (hb2.block _ (lt_of_block HBX.out)).trans HBX.out
        obtain ⟨c0, c1, c2, c3, c4, c5⟩ := IBox.cells hbx2
        have HBX2 := Lib.hid hbx2
        have HB2 := Lib.hid hb2
        have HM2 := Lib.hid (MapIs.keep HM.out (bstep HBW.out hb2))
        clear hb2 hbx2
        go_wp2_with (first
          | (go_at_call 36; go_loud (refine (clone_any ya yc _ x.p rfl (by have := HPL.out; omega) HR.out.nil _ ((HR.out.grow HBW.out).grow HB2.out).pts).mono ?_; rintro e w4 ⟨oa4, cap4, rfl, hr4, hb4⟩; clear c0 c1 c2 c3 c4 c5; have hbx : IBox w4 wr.heap.size ⟨x.i, yk, yl, yo, ys', ya, x.p.length, yc⟩ := (hb4.block _ (lt_of_block HBX2.out)).trans HBX2.out; obtain ⟨c0, c1, c2, c3, c4, c5⟩ := hbx.cells; have f5 := Lib.frozen_of_heap hbx 5; have HR4 := Lib.hid hr4; have HB4 := Lib.hid hb4; have HM4 := Lib.hid (MapIs.only (MapIs.keep HM2.out hb4) ((Only.refl wr.heap.size w4).setCell 5 (.slice oa4 x.p.length cap4)) (by have := MapIs.lt HM.out; omega)); clear hr4 hb4 hbx))
          | (at_mapUpdate; go_loud (refine wpList_map_store _ rfl _ _ _ 69 62 rfl iMK Try.underlying69 mb n g HM4.out (by rfl) x.i ⟨x.i, yk, yl, yo, ys', oa4, x.p.length, cap4⟩ HIX.out (by rfl) (by rfl) ?_; intro w5 hm5 ho5 hs5; have HM5 := Lib.hid hm5; have HO5 := Lib.hid ho5; clear hm5 ho5 hs5)))
        have hbw : wr.heap.size < w1.heap.size := lt_of_block HBX.out
        have hr6 : Row w2.heap.size (w4.setCell ⟨wr.heap.size, 5, none⟩ (.slice oa4 x.p.length cap4)) (.slice oa4 x.p.length cap4) x.p :=
          ((Only.refl wr.heap.size w4).setCell 5 _).keepRow HR4.out (fun e => by
            have hq := (row_base HR4.out).1
            have := HB2.out.size
            cases oa4 with
            | none => simp [Value.ownBlock] at e
            | some ad => have := (hq ad rfl).1; simp [Value.ownBlock] at e; omega)
        have hb6 : Below wr.heap.size wr (w4.setCell ⟨wr.heap.size, 5, none⟩ (.slice oa4 x.p.length cap4)) := (bstep (bstep HBW.out HB2.out) HB4.out).setCell (p := ⟨wr.heap.size, 5, none⟩) (Nat.le_refl _) _
        have hr0 := HR.out
        have hrel : IRel (w4.setCell ⟨wr.heap.size, 5, none⟩ (.slice oa4 x.p.length cap4)) tb mb x ⟨x.i, yk, yl, yo, ys', oa4, x.p.length, cap4⟩ :=
          ⟨rfl, hr0.k, hr0.l, hr0.o, hr0.s, rfl, hr6.pts, fun ad had => by have := ((row_base hr6).1 ad had).1; have := HLT.out; have := HLB.out.size; have := MapIs.lt HM.out; have := HB2.out.size; omega, (row_base hr6).2.2, PartB.row hr6⟩
        have hput := Lay.put (W := W) (tb := tb) HG.out.rises HX.out HG1.out (fun i z hz => by obtain ⟨u, hu, hq⟩ := HG2.out i z hz; exact ⟨u, hu, hq.grow hb6⟩) hrel HM5.out HO5.out (bstep HLB.out hb6) (by rw [HMB.out]; exact Nat.le_refl _)
        exact ⟨⟨k + 1, by omega, by simp, hput⟩, by simp [intOf]; omega⟩
    · obtain rfl : k = xs.length := by omega
      obtain ⟨n, g, hm, g1, g2⟩ := hlay.map
      rw [List.take_length] at g1 g2
      have HM := Lib.hid hm
      have HG1 := Lib.hid g1
      have HG2 := Lib.hid g2
      have HLB := Lib.hid hlay.below
      have hhd := (HLB.out.block tb HLT.out.1).trans HT.out.head
      have HHD := Lib.hid hhd
      have t0 := (new_cells hhd 0 (by simp)).1
      have t1 := (new_cells hhd 1 (by simp)).1
      have u0 := (new_cells hhd 0 (by simp)).2
      have u1 := (new_cells hhd 1 (by simp)).2
      simp only [List.getElem_toArray, List.getElem_cons_zero, List.getElem_cons_succ] at t0 t1
      clear hlay hm g1 g2 hhd
      go_wp2_with fail
      go_ret
      have ho : Only tb wr ((wr.setCell ⟨tb, 0, none⟩ (.map (some mb))).setCell ⟨tb, 1, none⟩ (.int .i64 nx)) := ((Only.refl tb wr).setCell 0 _).setCell 1 _
      have hne : mb ≠ tb := by have := HLT.out.1; have := HMB.out; omega
      refine ⟨rfl, mb, ⟨?_, ⟨n, g, MapIs.only HM.out ho hne, HG1.out, fun i x hx => ?_⟩, HG.out.table⟩, by rw [HMB.out]; exact Nat.le_refl _, (Only.of_below HLB.out).trans ho⟩
      · rw [heap_setCell_same _ tb 1 _ _ _ (heap_setCell_same wr tb 0 _ _ _ HHD.out)]; rfl
      · obtain ⟨y, hy, hr⟩ := HG2.out i x hx
        exact ⟨y, hy, hr.only ho (.inl rfl)⟩
end Go.Proofs.Ytappgelpigoknaa.InoW
