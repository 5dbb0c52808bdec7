/- Several texts in one, of what this seat needs. -/
import Derived.Test.YthnkpoagpjnopaaDoorMovInoB
import Derived.Test.YthnkpoagpjnopaaDoorHeld
namespace Go.Proofs.YthnkpoagpjnopaaDoor.InoW
set_option maxRecDepth 100000
open Go.RowKit InoP ExtW
theorem cells6 {w1 : World} {b : Nat} {u0 u1 u2 u3 u4 u5 : Value} {t : TypeId} (h : w1.heap[b]? = some (.cells #[u0, u1, u2, u3, u4, u5] t (0, 0))) :
    w1.cell? ⟨b, 0, none⟩ = some u0 ∧ w1.cell? ⟨b, 1, none⟩ = some u1 ∧ w1.cell? ⟨b, 2, none⟩ = some u2 ∧ w1.cell? ⟨b, 3, none⟩ = some u3 ∧ w1.cell? ⟨b, 4, none⟩ = some u4 ∧ w1.cell? ⟨b, 5, none⟩ = some u5 :=
  ⟨(new_cells h 0 (by simp)).1, (new_cells h 1 (by simp)).1, (new_cells h 2 (by simp)).1, (new_cells h 3 (by simp)).1, (new_cells h 4 (by simp)).1, (new_cells h 5 (by simp)).1⟩
set_option maxHeartbeats 6400000 in
theorem rgood_yes (nx : Int) (oa : Option Addr) (cap : Nat) (xs : List Ino) (ys : List IV) (hg : LGood xs nx) (W : World) (hl : IList W oa xs ys) :
    Calls Tryd.prog 26 #[.slice oa xs.length cap, .int .i64 nx] W fun e w' => e = .returned (.bool true) ∧ Below W.heap.size W w' := by
  have H := Lib.hid hl
  have HG := Lib.hid hg
  have hlen := hl.read.1
  have hn := hg.n
  have hln := hg.len
  obtain ⟨r, hr0⟩ : ∃ r, xs[0]? = some r := ⟨_, List.getElem?_eq_getElem (by omega)⟩
  obtain ⟨y, hy0⟩ : ∃ y, ys[0]? = some y := ⟨_, List.getElem?_eq_getElem (by omega)⟩
  obtain ⟨f1, f2, f3⟩ := hg.first r hr0
  have q0 := hl.read.2 0 r y hr0 hy0
  obtain ⟨a, rfl, _, b0, b1, b2, _, _, _⟩ := iv_at hl.at_ hy0
  rw [q0.i, f1] at b0; rw [q0.k, f2] at b1; rw [q0.l, f3] at b2
  simp only [Nat.zero_mul, Addr.add, if_true] at b0 b1 b2
  have B0 := Lib.hid b0
  have B1 := Lib.hid b1
  have B2 := Lib.hid b2
  have d1 : decide ((xs.length : Int) < 1) = false := decide_eq_false (by omega)
  have d2 : decide ((64 : Int) < (xs.length : Int)) = false := decide_eq_false (by omega)
  have d3 : decide (nx < 2) = false := decide_eq_false (by omega)
  have d4 : decide (2147483647 < nx) = false := decide_eq_false (by omega)
  clear hl hg hr0 hy0 q0 hn f1 f2 f3 b0 b1 b2
  go_enter Tryd.func26, Tryd.ntmps26
  go_wp2_with fail
  clear d1 d2 d3 d4
  go_loopw [5] (fun i wr => ∃ k : Nat, k ≤ xs.length ∧ i = .int .i64 (k : Int) ∧ Below W.heap.size W wr) (fun i _ => (xs.length - intOf i).toNat)
  case atStart => exact ⟨0, by omega, rfl, Below.refl _ _⟩
  case round =>
    obtain ⟨k, hk, rfl, hbel⟩ := hrel
    have HLB := Lib.hid hbel
    have hl64 := hln.2
    by_cases hlt : k < xs.length
    · have hlti : (k : Int) < (xs.length : Int) := by omega
      obtain ⟨x, hx⟩ : ∃ x, xs[k]? = some x := ⟨_, List.getElem?_eq_getElem hlt⟩
      obtain ⟨y, hy⟩ : ∃ y, ys[k]? = some y := ⟨_, List.getElem?_eq_getElem (by omega)⟩
      obtain ⟨yi, yk, yl, yo, ys', ya, yn, yc⟩ := y
      have HH := Lib.hid (H.out.grow hbel)
      have hr := HH.out.read.2 k x _ hx hy
      obtain ⟨a', ea, _, c0, c1, c2, c3, c4, c5⟩ := iv_at HH.out.at_ hy
      obtain rfl : a = a' := by simpa using ea
      simp only at c0 c1 c2 c3 c4 c5
      obtain rfl : yn = x.p.length := hr.n
      obtain ⟨hok, hprev⟩ := HG.out.all k hlt x hx
      have g1 : yi = x.i := hr.i
      have g2 : yk = x.k := hr.k
      have g3 : yl = x.l := hr.l
      have g4 : yo = x.o := hr.o
      have g5 : ys' = x.s := hr.s
      have e1 := hok.i1; have e2 := hok.i2; have e3 := hok.l; have e4 := hok.o; have e5 := hok.h; have e6 := hok.s; have e7 := hok.e
      have a1 : decide (yi < 1) = false := decide_eq_false (by omega)
      have a2 : decide (nx ≤ yi) = false := decide_eq_false (by omega)
      have a3 : decide (yl < 0) = false := decide_eq_false (by omega)
      have a4 : decide (8 < yl) = false := decide_eq_false (by omega)
      have a5 : decide (yo < 0) = false := decide_eq_false (by omega)
      have a6 : decide (128 < yo) = false := decide_eq_false (by omega)
      have a7 : IntKind.i64.wrap (yl + yo) = yl + yo := IntWalk.i64_in _ (by omega)
      have a8 : (yl + yo == 0) = false := by rw [beq_eq_false_iff_ne]; omega
      have a9 : decide (ys' < 0) = false := decide_eq_false (by omega)
      have a10 : decide (8192 < ys') = false := decide_eq_false (by omega)
      obtain ⟨E, hE⟩ : ∃ E, endS x.p = E := ⟨_, rfl⟩
      have a11 : decide (ys' < E) = false := decide_eq_false (by omega)
      have HE := Lib.hid hE
      have HGD : Hid (decide (ExtW.Good x.p) = true) := Lib.hid (decide_eq_true hok.g)
      have HPL : Hid (x.p.length ≤ 64) := Lib.hid hok.g.1
      have HR := Lib.hid hr
      obtain ⟨pv, hpv⟩ : ∃ pv : Int, ∀ j, k = j + 1 → (∃ yj : IV, ys[j]? = some yj ∧ yj.i = pv) ∧ pv < yi := by
        cases k with
        | zero => exact ⟨0, fun j h => by omega⟩
        | succ j =>
          obtain ⟨p, hp⟩ : ∃ p, xs[j]? = some p := ⟨_, List.getElem?_eq_getElem (by omega)⟩
          obtain ⟨yj, hyj⟩ : ∃ yj, ys[j]? = some yj := ⟨_, List.getElem?_eq_getElem (by omega)⟩
          refine ⟨yj.i, fun j' h => ?_⟩
          obtain rfl : j = j' := by omega
          refine ⟨⟨yj, hyj, rfl⟩, ?_⟩
          rw [(HH.out.read.2 j p yj hp hyj).i]
          rw [g1]; exact hprev p (by omega) hp
      have hkd : (yk = 1 ∧ yo = 0 ∧ ys' = 0 ∧ x.p.length = 0) ∨ yk = 2 := by
        rcases hok.k with e | e
        · have := hok.d e; left; omega
        · right; omega
      have HBW := Lib.hid (below_alloc wr (.cells #[.int .i64 yi, .int .i64 yk, .int .i64 yl, .int .i64 yo, .int .i64 ys', .slice ya x.p.length yc] 62))
      have HBB : Hid ((wr.alloc (.cells #[.int .i64 yi, .int .i64 yk, .int .i64 yl, .int .i64 yo, .int .i64 ys', .slice ya x.p.length yc] 62)).heap[wr.heap.size]? = some (.cells #[.int .i64 yi, .int .i64 yk, .int .i64 yl, .int .i64 yo, .int .i64 ys', .slice ya x.p.length yc] 62 (0, 0))) := Lib.hid (heap_alloc_new wr _)
      clear hx hy hr hok hprev hbel e1 e2 e3 e4 e5 e6 e7 hE g1 g2 g3 g4 g5
      by_cases hk0 : k = 0
      · have z1 : ¬ 0 < k := by omega
        clear hk0 hpv
        rcases hkd with ⟨rfl, rfl, rfl, h0⟩ | rfl
        · have HL0 : Hid (0 = x.p.length) := Lib.hid h0.symm
          have a12 : IntKind.i64.wrap yl = yl := by rw [← Int.add_zero yl]; exact a7
          have a13 : (yl == 0) = false := by rw [← Int.add_zero yl]; exact a8
          rw [h0] at HBB HBW HR c5
          clear a7 a8 h0
          go_wp2_with fail
          have HBW2 := Lib.hid (HLB.out.trans (HBW.out.mono HLB.out.size))
          clear c0 c1 c2 c3 c4 c5
          generalize wr.alloc (.cells #[.int .i64 yi, .int .i64 1, .int .i64 yl, .int .i64 0, .int .i64 0, .slice ya 0 yc] 62) = w1 at *
          refine held_below (by kernel_rfl) (by kernel_rfl) ?_
          repeat first
            | (refine held_skip ?_ ?_; (· first | rfl | (go_simp; done)); simp only [Act.put, List.setIfInBounds_toArray, List.set_cons_zero, List.set_cons_succ])
            | (refine held_val (v := ?_) ?_ ?_ ?_
               rotate_left
               · first | rfl | (go_simp; done)
               · intro wq hq
                 obtain ⟨c0, c1, c2, c3, c4, c5⟩ := cells6 ((hq.block _ (lt_of_block HBB.out)).trans HBB.out)
                 go_simp
                 with_reducible rfl
               simp only [Act.put, List.setIfInBounds_toArray, List.set_cons_zero, List.set_cons_succ])
          refine held_nil ?_
          intro w2 hb2
          have HB2 := Lib.hid hb2
          have hbb := (hb2.block _ (lt_of_block HBB.out)).trans HBB.out
          obtain ⟨c0, c1, c2, c3, c4, c5⟩ := cells6 hbb
          have HBB2 := Lib.hid hbb
          clear hb2 hbb
          go_wp2_with fail
          clear c0 c1 c2 c3 c4 c5
          refine held_below (by kernel_rfl) (by kernel_rfl) ?_
          repeat first
            | (refine held_skip ?_ ?_; (· first | rfl | (go_simp; done)); simp only [Act.put, List.setIfInBounds_toArray, List.set_cons_zero, List.set_cons_succ])
            | (refine held_val (v := ?_) ?_ ?_ ?_
               rotate_left
               · first | rfl | (go_simp; done)
               · intro wq hq
                 obtain ⟨c0, c1, c2, c3, c4, c5⟩ := cells6 ((hq.block _ (lt_of_block HBB2.out)).trans HBB2.out)
                 go_simp
                 with_reducible rfl
               simp only [Act.put, List.setIfInBounds_toArray, List.set_cons_zero, List.set_cons_succ])
            | (refine held_call (v := ?_) (f := ?_) (args := ?_) ?_ ?_ ?_ ?_
               rotate_left 3
               · first | rfl | (go_simp; done)
               · intro wq
                 go_simp
                 constructor
                 · rfl
                 · rfl
               · intro wq hq
                 first
                   | (refine (rgood_is ya _ yc x.p true HGD.out HL0.out (by have := HPL.out; omega) wq (((HR.out.grow HBW.out).grow HB2.out).grow hq).pts).mono ?_
                      rintro e wn ⟨rfl, hb1⟩
                      constructor
                      · rfl
                      · exact bstep hq hb1)
                   | (refine (rend_is ya _ yc x.p E HE.out HL0.out (by have := HPL.out; omega) wq (((HR.out.grow HBW.out).grow HB2.out).grow hq).pts).mono ?_
                      rintro e wn ⟨rfl, hb1⟩
                      constructor
                      · rfl
                      · exact bstep hq hb1)
               simp only [Act.put, List.setIfInBounds_toArray, List.set_cons_zero, List.set_cons_succ])
          refine held_nil ?_
          intro w2 hb2
          have HB3 := Lib.hid hb2
          clear hb2
          go_wp2_with fail
          exact ⟨⟨k + 1, by omega, by simp, bstep (bstep HBW2.out HB2.out) HB3.out⟩, by simp [intOf]; omega⟩
        · have z99 := a7
          clear z99
          go_wp2_with fail
          have HBW2 := Lib.hid (HLB.out.trans (HBW.out.mono HLB.out.size))
          clear c0 c1 c2 c3 c4 c5
          generalize wr.alloc (.cells #[.int .i64 yi, .int .i64 2, .int .i64 yl, .int .i64 yo, .int .i64 ys', .slice ya x.p.length yc] 62) = w1 at *
          refine held_below (by kernel_rfl) (by kernel_rfl) ?_
          repeat first
            | (refine held_skip ?_ ?_; (· first | rfl | (go_simp; done)); simp only [Act.put, List.setIfInBounds_toArray, List.set_cons_zero, List.set_cons_succ])
            | (refine held_val (v := ?_) ?_ ?_ ?_
               rotate_left
               · first | rfl | (go_simp; done)
               · intro wq hq
                 obtain ⟨c0, c1, c2, c3, c4, c5⟩ := cells6 ((hq.block _ (lt_of_block HBB.out)).trans HBB.out)
                 go_simp
                 with_reducible rfl
               simp only [Act.put, List.setIfInBounds_toArray, List.set_cons_zero, List.set_cons_succ])
          refine held_nil ?_
          intro w2 hb2
          have HB2 := Lib.hid hb2
          have hbb := (hb2.block _ (lt_of_block HBB.out)).trans HBB.out
          obtain ⟨c0, c1, c2, c3, c4, c5⟩ := cells6 hbb
          have HBB2 := Lib.hid hbb
          clear hb2 hbb
          go_wp2_with fail
          clear c0 c1 c2 c3 c4 c5
          refine held_below (by kernel_rfl) (by kernel_rfl) ?_
          repeat first
            | (refine held_skip ?_ ?_; (· first | rfl | (go_simp; done)); simp only [Act.put, List.setIfInBounds_toArray, List.set_cons_zero, List.set_cons_succ])
            | (refine held_val (v := ?_) ?_ ?_ ?_
               rotate_left
               · first | rfl | (go_simp; done)
               · intro wq hq
                 obtain ⟨c0, c1, c2, c3, c4, c5⟩ := cells6 ((hq.block _ (lt_of_block HBB2.out)).trans HBB2.out)
                 go_simp
                 with_reducible rfl
               simp only [Act.put, List.setIfInBounds_toArray, List.set_cons_zero, List.set_cons_succ])
            | (refine held_call (v := ?_) (f := ?_) (args := ?_) ?_ ?_ ?_ ?_
               rotate_left 3
               · first | rfl | (go_simp; done)
               · intro wq
                 go_simp
                 constructor
                 · rfl
                 · rfl
               · intro wq hq
                 first
                   | (refine (rgood_is ya _ yc x.p true HGD.out rfl (by have := HPL.out; omega) wq (((HR.out.grow HBW.out).grow HB2.out).grow hq).pts).mono ?_
                      rintro e wn ⟨rfl, hb1⟩
                      constructor
                      · rfl
                      · exact bstep hq hb1)
                   | (refine (rend_is ya _ yc x.p E HE.out rfl (by have := HPL.out; omega) wq (((HR.out.grow HBW.out).grow HB2.out).grow hq).pts).mono ?_
                      rintro e wn ⟨rfl, hb1⟩
                      constructor
                      · rfl
                      · exact bstep hq hb1)
               simp only [Act.put, List.setIfInBounds_toArray, List.set_cons_zero, List.set_cons_succ])
          refine held_nil ?_
          intro w2 hb2
          have HB3 := Lib.hid hb2
          clear hb2
          go_wp2_with fail
          exact ⟨⟨k + 1, by omega, by simp, bstep (bstep HBW2.out HB2.out) HB3.out⟩, by simp [intOf]; omega⟩
      · obtain ⟨j, hj⟩ : ∃ j, k = j + 1 := ⟨k - 1, by omega⟩
        obtain ⟨⟨yj, hyj, hpi⟩, hlt2⟩ := hpv j hj
        obtain ⟨a2, ea2, _, p0, _⟩ := iv_at HH.out.at_ hyj
        obtain rfl : a = a2 := by simpa using ea2
        rw [hpi] at p0
        have z1 : 0 < k := by omega
        have z2 : IntKind.i64.wrap ((k : Int) - 1) = (j : Int) := by rw [IntWalk.i64_in _ (by omega)]; omega
        have z3 : (j : Int) < (xs.length : Int) := by omega
        have z4 : j < xs.length := by omega
        have z5 : decide (yi ≤ pv) = false := decide_eq_false (by omega)
        have P0 := Lib.hid p0
        clear hk0 hpv hyj hpi hlt2 hj p0
        rcases hkd with ⟨rfl, rfl, rfl, h0⟩ | rfl
        · have HL0 : Hid (0 = x.p.length) := Lib.hid h0.symm
          have a12 : IntKind.i64.wrap yl = yl := by rw [← Int.add_zero yl]; exact a7
          have a13 : (yl == 0) = false := by rw [← Int.add_zero yl]; exact a8
          rw [h0] at HBB HBW HR c5
          clear a7 a8 h0
          go_wp2_with fail
          have HBW2 := Lib.hid (HLB.out.trans (HBW.out.mono HLB.out.size))
          clear c0 c1 c2 c3 c4 c5
          generalize wr.alloc (.cells #[.int .i64 yi, .int .i64 1, .int .i64 yl, .int .i64 0, .int .i64 0, .slice ya 0 yc] 62) = w1 at *
          refine held_below (by kernel_rfl) (by kernel_rfl) ?_
          repeat first
            | (refine held_skip ?_ ?_; (· first | rfl | (go_simp; done)); simp only [Act.put, List.setIfInBounds_toArray, List.set_cons_zero, List.set_cons_succ])
            | (refine held_val (v := ?_) ?_ ?_ ?_
               rotate_left
               · first | rfl | (go_simp; done)
               · intro wq hq
                 obtain ⟨c0, c1, c2, c3, c4, c5⟩ := cells6 ((hq.block _ (lt_of_block HBB.out)).trans HBB.out)
                 have p0 := cell_step (bstep HBW.out hq) P0.out
                 go_simp
                 with_reducible rfl
               simp only [Act.put, List.setIfInBounds_toArray, List.set_cons_zero, List.set_cons_succ])
          refine held_nil ?_
          intro w2 hb2
          have HB2 := Lib.hid hb2
          have hbb := (hb2.block _ (lt_of_block HBB.out)).trans HBB.out
          obtain ⟨c0, c1, c2, c3, c4, c5⟩ := cells6 hbb
          have HBB2 := Lib.hid hbb
          clear hb2 hbb
          go_wp2_with fail
          clear c0 c1 c2 c3 c4 c5
          refine held_below (by kernel_rfl) (by kernel_rfl) ?_
          repeat first
            | (refine held_skip ?_ ?_; (· first | rfl | (go_simp; done)); simp only [Act.put, List.setIfInBounds_toArray, List.set_cons_zero, List.set_cons_succ])
            | (refine held_val (v := ?_) ?_ ?_ ?_
               rotate_left
               · first | rfl | (go_simp; done)
               · intro wq hq
                 obtain ⟨c0, c1, c2, c3, c4, c5⟩ := cells6 ((hq.block _ (lt_of_block HBB2.out)).trans HBB2.out)
                 go_simp
                 with_reducible rfl
               simp only [Act.put, List.setIfInBounds_toArray, List.set_cons_zero, List.set_cons_succ])
            | (refine held_call (v := ?_) (f := ?_) (args := ?_) ?_ ?_ ?_ ?_
               rotate_left 3
               · first | rfl | (go_simp; done)
               · intro wq
                 go_simp
                 constructor
                 · rfl
                 · rfl
               · intro wq hq
                 first
                   | (refine (rgood_is ya _ yc x.p true HGD.out HL0.out (by have := HPL.out; omega) wq (((HR.out.grow HBW.out).grow HB2.out).grow hq).pts).mono ?_
                      rintro e wn ⟨rfl, hb1⟩
                      constructor
                      · rfl
                      · exact bstep hq hb1)
                   | (refine (rend_is ya _ yc x.p E HE.out HL0.out (by have := HPL.out; omega) wq (((HR.out.grow HBW.out).grow HB2.out).grow hq).pts).mono ?_
                      rintro e wn ⟨rfl, hb1⟩
                      constructor
                      · rfl
                      · exact bstep hq hb1)
               simp only [Act.put, List.setIfInBounds_toArray, List.set_cons_zero, List.set_cons_succ])
          refine held_nil ?_
          intro w2 hb2
          have HB3 := Lib.hid hb2
          clear hb2
          go_wp2_with fail
          exact ⟨⟨k + 1, by omega, by simp, bstep (bstep HBW2.out HB2.out) HB3.out⟩, by simp [intOf]; omega⟩
        · have z99 := a7
          clear z99
          go_wp2_with fail
          have HBW2 := Lib.hid (HLB.out.trans (HBW.out.mono HLB.out.size))
          clear c0 c1 c2 c3 c4 c5
          generalize wr.alloc (.cells #[.int .i64 yi, .int .i64 2, .int .i64 yl, .int .i64 yo, .int .i64 ys', .slice ya x.p.length yc] 62) = w1 at *
          refine held_below (by kernel_rfl) (by kernel_rfl) ?_
          repeat first
            | (refine held_skip ?_ ?_; (· first | rfl | (go_simp; done)); simp only [Act.put, List.setIfInBounds_toArray, List.set_cons_zero, List.set_cons_succ])
            | (refine held_val (v := ?_) ?_ ?_ ?_
               rotate_left
               · first | rfl | (go_simp; done)
               · intro wq hq
                 obtain ⟨c0, c1, c2, c3, c4, c5⟩ := cells6 ((hq.block _ (lt_of_block HBB.out)).trans HBB.out)
                 have p0 := cell_step (bstep HBW.out hq) P0.out
                 go_simp
                 with_reducible rfl
               simp only [Act.put, List.setIfInBounds_toArray, List.set_cons_zero, List.set_cons_succ])
          refine held_nil ?_
          intro w2 hb2
          have HB2 := Lib.hid hb2
          have hbb := (hb2.block _ (lt_of_block HBB.out)).trans HBB.out
          obtain ⟨c0, c1, c2, c3, c4, c5⟩ := cells6 hbb
          have HBB2 := Lib.hid hbb
          clear hb2 hbb
          go_wp2_with fail
          clear c0 c1 c2 c3 c4 c5
          refine held_below (by kernel_rfl) (by kernel_rfl) ?_
          repeat first
            | (refine held_skip ?_ ?_; (· first | rfl | (go_simp; done)); simp only [Act.put, List.setIfInBounds_toArray, List.set_cons_zero, List.set_cons_succ])
            | (refine held_val (v := ?_) ?_ ?_ ?_
               rotate_left
               · first | rfl | (go_simp; done)
               · intro wq hq
                 obtain ⟨c0, c1, c2, c3, c4, c5⟩ := cells6 ((hq.block _ (lt_of_block HBB2.out)).trans HBB2.out)
                 go_simp
                 with_reducible rfl
               simp only [Act.put, List.setIfInBounds_toArray, List.set_cons_zero, List.set_cons_succ])
            | (refine held_call (v := ?_) (f := ?_) (args := ?_) ?_ ?_ ?_ ?_
               rotate_left 3
               · first | rfl | (go_simp; done)
               · intro wq
                 go_simp
                 constructor
                 · rfl
                 · rfl
               · intro wq hq
                 first
                   | (refine (rgood_is ya _ yc x.p true HGD.out rfl (by have := HPL.out; omega) wq (((HR.out.grow HBW.out).grow HB2.out).grow hq).pts).mono ?_
                      rintro e wn ⟨rfl, hb1⟩
                      constructor
                      · rfl
                      · exact bstep hq hb1)
                   | (refine (rend_is ya _ yc x.p E HE.out rfl (by have := HPL.out; omega) wq (((HR.out.grow HBW.out).grow HB2.out).grow hq).pts).mono ?_
                      rintro e wn ⟨rfl, hb1⟩
                      constructor
                      · rfl
                      · exact bstep hq hb1)
               simp only [Act.put, List.setIfInBounds_toArray, List.set_cons_zero, List.set_cons_succ])
          refine held_nil ?_
          intro w2 hb2
          have HB3 := Lib.hid hb2
          clear hb2
          go_wp2_with fail
          exact ⟨⟨k + 1, by omega, by simp, bstep (bstep HBW2.out HB2.out) HB3.out⟩, by simp [intOf]; omega⟩
    · obtain rfl : k = xs.length := by omega
      have b0 := cell_step (HLB.out.mono (Nat.le_refl _)) B0.out
      have b1 := cell_step (HLB.out.mono (Nat.le_refl _)) B1.out
      have b2 := cell_step (HLB.out.mono (Nat.le_refl _)) B2.out
      have z9 : (0 : Int) < (xs.length : Int) := by omega
      have z10 : 0 < xs.length := by omega
      clear hbel
      go_wp2_with fail
      go_ret
      exact ⟨rfl, HLB.out⟩
end Go.Proofs.YthnkpoagpjnopaaDoor.InoW
