/- Several texts in one, of what this seat needs. -/
import Derived.Test.YthnkpoagpjnopaaDoorMovInoG
namespace Go.Proofs.YthnkpoagpjnopaaDoor.InoW
set_option maxRecDepth 100000
open Go.RowKit InoP ExtW
theorem okx_of {w : World} {nx : Int} {x : Ino} {yi yk yl yo ys' S E : Int} {ya : Option Addr} {n yc : Nat} (h : IRead w x ⟨yi, yk, yl, yo, ys', ya, n, yc⟩) (hk : yk = 1 ∨ yk = 2) {m : Nat} (_ : 1 ≤ m ∧ m ≤ 64) (_ : 2 ≤ nx ∧ nx ≤ 2147483647)
    (a1 : decide (yi < 1) = false) (a2 : decide (nx ≤ yi) = false) (a4 : decide (yl < 0) = false) (a5 : decide (8 < yl) = false) (a6 : decide (yo < 0) = false) (a7 : decide (128 < yo) = false) (s0 : IntKind.i64.wrap (yl + yo) = S) (a9 : (S == 0) = false)
    (a10 : decide (ys' < 0) = false) (a11 : decide (8192 < ys') = false) (hg : decide (ExtW.Good x.p) = true) (hE : endS x.p = E) (a12 : decide (ys' < E) = false) (hd : yk = 1 → (yo != 0) = false ∧ (ys' != 0) = false ∧ ((x.p.length : Int) != 0) = false) : OkX nx x := by
  have b1 := of_decide_eq_false a1
  have b2 := of_decide_eq_false a2
  have b4 := of_decide_eq_false a4
  have b5 := of_decide_eq_false a5
  have b6 := of_decide_eq_false a6
  have b7 := of_decide_eq_false a7
  have b10 := of_decide_eq_false a10
  have b11 := of_decide_eq_false a11
  have b12 := of_decide_eq_false a12
  have e1 : yi = x.i := h.i
  have e2 : yk = x.k := h.k
  have e3 : yl = x.l := h.l
  have e4 : yo = x.o := h.o
  have e5 : ys' = x.s := h.s
  have e6 : IntKind.i64.wrap (yl + yo) = yl + yo := IntWalk.i64_in _ (by omega)
  rw [e6] at s0
  have b9 : S ≠ 0 := by simpa using a9
  refine ⟨by omega, by omega, by omega, by omega, by omega, by omega, fun e => ?_, by omega, of_decide_eq_true hg, by omega⟩
  obtain ⟨d1, d2, d3⟩ := hd (by omega)
  simp at d1 d2 d3
  refine ⟨by omega, by omega, ?_⟩
  rw [d3]; rfl
set_option linter.constructorNameAsVariable false in
set_option maxHeartbeats 20000000 in
theorem rgood_any2 (nx : Int) (oa : Option Addr) (cap : Nat) (xs : List Ino) (ys : List IV) (hlx : xs.length ≤ 100000) (hpx : ∀ x ∈ xs, x.p.length ≤ 100000) (W : World) (hl : IList W oa xs ys) :
    Calls Tryd.prog 26 #[.slice oa xs.length cap, .int .i64 nx] W fun e w' => ∃ b : Bool, e = .returned (.bool b) ∧ (b = true → LGood xs nx) ∧ Below W.heap.size W w' := by
  have H := Lib.hid hl
  have HLX := Lib.hid hlx
  have HPX := Lib.hid hpx
  have hlen := hl.read.1
  obtain ⟨D1, d1⟩ : ∃ D, decide (nx < 2) = D := ⟨_, rfl⟩
  obtain ⟨D2, d2⟩ : ∃ D, decide (2147483647 < nx) = D := ⟨_, rfl⟩
  obtain ⟨D3, d3⟩ : ∃ D, decide ((xs.length : Int) < 1) = D := ⟨_, rfl⟩
  obtain ⟨D4, d4⟩ : ∃ D, decide ((64 : Int) < (xs.length : Int)) = D := ⟨_, rfl⟩
  clear hl hpx
  by_cases hD : (D1 || D2 || D3 || D4) = true
  · go_enter Tryd.func26, Tryd.ntmps26
    cases D1
    · cases D2
      · cases D3
        · cases D4
          · simp at hD
          · go_wp2_with fail
            go_ret
            exact ⟨false, rfl, fun h => (by cases h), Below.refl _ _⟩
        · go_wp2_with fail
          go_ret
          exact ⟨false, rfl, fun h => (by cases h), Below.refl _ _⟩
      · go_wp2_with fail
        go_ret
        exact ⟨false, rfl, fun h => (by cases h), Below.refl _ _⟩
    · go_wp2_with fail
      go_ret
      exact ⟨false, rfl, fun h => (by cases h), Below.refl _ _⟩
  obtain ⟨rfl, rfl, rfl, rfl⟩ : D1 = false ∧ D2 = false ∧ D3 = false ∧ D4 = false := by cases D1 <;> cases D2 <;> cases D3 <;> cases D4 <;> simp_all
  have HN : Hid (2 ≤ nx ∧ nx ≤ 2147483647) := Lib.hid (by have := of_decide_eq_false d1; have := of_decide_eq_false d2; omega)
  have HL : Hid (1 ≤ xs.length ∧ xs.length ≤ 64) := Lib.hid (by have := of_decide_eq_false d3; have := of_decide_eq_false d4; omega)
  obtain ⟨r, hr0⟩ : ∃ r, xs[0]? = some r := ⟨_, List.getElem?_eq_getElem (by have := HL.out; omega)⟩
  obtain ⟨y, hy0⟩ : ∃ y, ys[0]? = some y := ⟨_, List.getElem?_eq_getElem (by have := HL.out; omega)⟩
  have q0 := H.out.read.2 0 r y hr0 hy0
  obtain ⟨a, rfl, _, b0, b1, b2, _, _, _⟩ := iv_at H.out.at_ hy0
  rw [q0.i] at b0; rw [q0.k] at b1; rw [q0.l] at b2
  simp only [Nat.zero_mul, Addr.add, if_true] at b0 b1 b2
  have HR0 := Lib.hid hr0
  have B0 := Lib.hid b0
  have B1 := Lib.hid b1
  have B2 := Lib.hid b2
  clear hr0 hy0 q0 b0 b1 b2 hD hlx
  go_enter Tryd.func26, Tryd.ntmps26
  go_wp2_with fail
  clear d1 d2 d3 d4
  go_loopw [5] (fun i wr => ∃ k : Nat, k ≤ xs.length ∧ i = .int .i64 (k : Int) ∧ (∀ j, j < k → OkI xs nx j) ∧ Below W.heap.size W wr) (fun i _ => (xs.length - intOf i).toNat)
  case atStart => exact ⟨0, by omega, rfl, fun j h => absurd h (by omega), Below.refl _ _⟩
  case round =>
    obtain ⟨k, hk, rfl, hok, hbel⟩ := hrel
    have HLB := Lib.hid hbel
    have HOK := Lib.hid hok
    have hl64 := HL.out.2
    clear hok
    by_cases hlt : k < xs.length
    · have hlti : (k : Int) < (xs.length : Int) := by omega
      obtain ⟨x, hx⟩ : ∃ x, xs[k]? = some x := ⟨_, List.getElem?_eq_getElem hlt⟩
      obtain ⟨y, hy⟩ : ∃ y, ys[k]? = some y := ⟨_, List.getElem?_eq_getElem (by omega)⟩
      obtain ⟨yi, yk, yl, yo, ys', ya, yn, yc⟩ := y
      have HH := Lib.hid (H.out.grow hbel)
      have hr := HH.out.read.2 k x _ hx hy
      obtain ⟨a', ea, _, c0, c1, c2, c3, c4, c5⟩ := iv_at HH.out.at_ hy
      obtain rfl : a = a' := by simpa using ea
      simp only at c0 c1 c2 c3 c4 c5
      obtain rfl : yn = x.p.length := hr.n
      have HPL : Hid (x.p.length ≤ 100000) := Lib.hid (HPX.out x (List.mem_of_getElem? hx))
      have HR := Lib.hid hr
      have HXK := Lib.hid hx
      obtain ⟨A1, a1⟩ : ∃ A, decide (yi < 1) = A := ⟨_, rfl⟩
      obtain ⟨A2, a2⟩ : ∃ A, decide (nx ≤ yi) = A := ⟨_, rfl⟩
      obtain ⟨A4, a4⟩ : ∃ A, decide (yl < 0) = A := ⟨_, rfl⟩
      obtain ⟨A5, a5⟩ : ∃ A, decide (8 < yl) = A := ⟨_, rfl⟩
      obtain ⟨A6, a6⟩ : ∃ A, decide (yo < 0) = A := ⟨_, rfl⟩
      obtain ⟨A7, a7⟩ : ∃ A, decide (128 < yo) = A := ⟨_, rfl⟩
      obtain ⟨S, s0⟩ : ∃ S, IntKind.i64.wrap (yl + yo) = S := ⟨_, rfl⟩
      obtain ⟨A9, a9⟩ : ∃ A, (S == 0) = A := ⟨_, rfl⟩
      obtain ⟨A10, a10⟩ : ∃ A, decide (ys' < 0) = A := ⟨_, rfl⟩
      obtain ⟨A11, a11⟩ : ∃ A, decide (8192 < ys') = A := ⟨_, rfl⟩
      obtain ⟨E, hE⟩ : ∃ E, endS x.p = E := ⟨_, rfl⟩
      obtain ⟨A12, a12⟩ : ∃ A, decide (ys' < E) = A := ⟨_, rfl⟩
      have HE := Lib.hid hE
      obtain ⟨G, hG⟩ : ∃ G, decide (ExtW.Good x.p) = G := ⟨_, rfl⟩
      have HBW := Lib.hid (below_alloc wr (.cells #[.int .i64 yi, .int .i64 yk, .int .i64 yl, .int .i64 yo, .int .i64 ys', .slice ya x.p.length yc] 62))
      have HBB : Hid ((wr.alloc (.cells #[.int .i64 yi, .int .i64 yk, .int .i64 yl, .int .i64 yo, .int .i64 ys', .slice ya x.p.length yc] 62)).heap[wr.heap.size]? = some (.cells #[.int .i64 yi, .int .i64 yk, .int .i64 yl, .int .i64 yo, .int .i64 ys', .slice ya x.p.length yc] 62 (0, 0))) := Lib.hid (heap_alloc_new wr _)
      have HBW2 := Lib.hid (HLB.out.trans (HBW.out.mono HLB.out.size))
      have HGH := Lib.hid hG
      clear hx hr hE hG
      by_cases hk0 : k = 0
      · have z1 : ¬ 0 < k := by omega
        clear hk0 hy hbel
        by_cases hk1 : yk = 1
        · subst hk1
          obtain ⟨B1, b1⟩ : ∃ B, (yo != 0) = B := ⟨_, rfl⟩
          obtain ⟨B2, b2⟩ : ∃ B, (ys' != 0) = B := ⟨_, rfl⟩
          obtain ⟨B3, b3⟩ : ∃ B, ((x.p.length : Int) != 0) = B := ⟨_, rfl⟩
          as_aux_lemma =>
            go_wp2_with fail
            clear c0 c1 c2 c3 c4 c5
            generalize wr.alloc (.cells #[.int .i64 yi, .int .i64 1, .int .i64 yl, .int .i64 yo, .int .i64 ys', .slice ya x.p.length yc] 62) = w1 at *
            refine held_below (by kernel_rfl) (by kernel_rfl) ?_
            repeat first
              | (refine held_skip ?_ ?_; (· first | rfl | (go_simp; done)); simp only [Act.put, List.setIfInBounds_toArray, List.set_cons_zero, List.set_cons_succ])
              | (refine held_val (v := ?_) ?_ ?_ ?_
                 rotate_left
                 · first | rfl | (go_simp; done)
                 · intro wq hq
                   obtain ⟨c0, c1, c2, c3, c4, c5⟩ := cells6 ((hq.block _ (lt_of_block HBB.out)).trans HBB.out)
                   go_simp
                   with_reducible rfl
                 simp only [Act.put, List.setIfInBounds_toArray, List.set_cons_zero, List.set_cons_succ])
            cases A1
            rotate_left
            · repeat first
                | (refine held_skip ?_ ?_; (· first | rfl | (go_simp; done)); simp only [Act.put, List.setIfInBounds_toArray, List.set_cons_zero, List.set_cons_succ])
                | (refine held_val (v := ?_) ?_ ?_ ?_
                   rotate_left
                   · first | rfl | (go_simp; done)
                   · intro wq hq
                     obtain ⟨c0, c1, c2, c3, c4, c5⟩ := cells6 ((hq.block _ (lt_of_block HBB.out)).trans HBB.out)
                     go_simp
                     with_reducible rfl
                   simp only [Act.put, List.setIfInBounds_toArray, List.set_cons_zero, List.set_cons_succ])
              refine held_nil ?_
              intro w2 hb2
              have HBZ := Lib.hid hb2
              clear hb2
              go_wp2_with fail
              go_ret
              exact ⟨false, rfl, fun h => (by cases h), bstep HBW2.out HBZ.out⟩
            repeat first
              | (refine held_skip ?_ ?_; (· first | rfl | (go_simp; done)); simp only [Act.put, List.setIfInBounds_toArray, List.set_cons_zero, List.set_cons_succ])
              | (refine held_val (v := ?_) ?_ ?_ ?_
                 rotate_left
                 · first | rfl | (go_simp; done)
                 · intro wq hq
                   obtain ⟨c0, c1, c2, c3, c4, c5⟩ := cells6 ((hq.block _ (lt_of_block HBB.out)).trans HBB.out)
                   go_simp
                   with_reducible rfl
                 simp only [Act.put, List.setIfInBounds_toArray, List.set_cons_zero, List.set_cons_succ])
            cases A2
            rotate_left
            · repeat first
                | (refine held_skip ?_ ?_; (· first | rfl | (go_simp; done)); simp only [Act.put, List.setIfInBounds_toArray, List.set_cons_zero, List.set_cons_succ])
                | (refine held_val (v := ?_) ?_ ?_ ?_
                   rotate_left
                   · first | rfl | (go_simp; done)
                   · intro wq hq
                     obtain ⟨c0, c1, c2, c3, c4, c5⟩ := cells6 ((hq.block _ (lt_of_block HBB.out)).trans HBB.out)
                     go_simp
                     with_reducible rfl
                   simp only [Act.put, List.setIfInBounds_toArray, List.set_cons_zero, List.set_cons_succ])
              refine held_nil ?_
              intro w2 hb2
              have HBZ := Lib.hid hb2
              clear hb2
              go_wp2_with fail
              go_ret
              exact ⟨false, rfl, fun h => (by cases h), bstep HBW2.out HBZ.out⟩
            repeat first
              | (refine held_skip ?_ ?_; (· first | rfl | (go_simp; done)); simp only [Act.put, List.setIfInBounds_toArray, List.set_cons_zero, List.set_cons_succ])
              | (refine held_val (v := ?_) ?_ ?_ ?_
                 rotate_left
                 · first | rfl | (go_simp; done)
                 · intro wq hq
                   obtain ⟨c0, c1, c2, c3, c4, c5⟩ := cells6 ((hq.block _ (lt_of_block HBB.out)).trans HBB.out)
                   go_simp
                   with_reducible rfl
                 simp only [Act.put, List.setIfInBounds_toArray, List.set_cons_zero, List.set_cons_succ])
            cases A4
            rotate_left
            · repeat first
                | (refine held_skip ?_ ?_; (· first | rfl | (go_simp; done)); simp only [Act.put, List.setIfInBounds_toArray, List.set_cons_zero, List.set_cons_succ])
                | (refine held_val (v := ?_) ?_ ?_ ?_
                   rotate_left
                   · first | rfl | (go_simp; done)
                   · intro wq hq
                     obtain ⟨c0, c1, c2, c3, c4, c5⟩ := cells6 ((hq.block _ (lt_of_block HBB.out)).trans HBB.out)
                     go_simp
                     with_reducible rfl
                   simp only [Act.put, List.setIfInBounds_toArray, List.set_cons_zero, List.set_cons_succ])
              refine held_nil ?_
              intro w2 hb2
              have HBZ := Lib.hid hb2
              clear hb2
              go_wp2_with fail
              go_ret
              exact ⟨false, rfl, fun h => (by cases h), bstep HBW2.out HBZ.out⟩
            repeat first
              | (refine held_skip ?_ ?_; (· first | rfl | (go_simp; done)); simp only [Act.put, List.setIfInBounds_toArray, List.set_cons_zero, List.set_cons_succ])
              | (refine held_val (v := ?_) ?_ ?_ ?_
                 rotate_left
                 · first | rfl | (go_simp; done)
                 · intro wq hq
                   obtain ⟨c0, c1, c2, c3, c4, c5⟩ := cells6 ((hq.block _ (lt_of_block HBB.out)).trans HBB.out)
                   go_simp
                   with_reducible rfl
                 simp only [Act.put, List.setIfInBounds_toArray, List.set_cons_zero, List.set_cons_succ])
            cases A5
            rotate_left
            · repeat first
                | (refine held_skip ?_ ?_; (· first | rfl | (go_simp; done)); simp only [Act.put, List.setIfInBounds_toArray, List.set_cons_zero, List.set_cons_succ])
                | (refine held_val (v := ?_) ?_ ?_ ?_
                   rotate_left
                   · first | rfl | (go_simp; done)
                   · intro wq hq
                     obtain ⟨c0, c1, c2, c3, c4, c5⟩ := cells6 ((hq.block _ (lt_of_block HBB.out)).trans HBB.out)
                     go_simp
                     with_reducible rfl
                   simp only [Act.put, List.setIfInBounds_toArray, List.set_cons_zero, List.set_cons_succ])
              refine held_nil ?_
              intro w2 hb2
              have HBZ := Lib.hid hb2
              clear hb2
              go_wp2_with fail
              go_ret
              exact ⟨false, rfl, fun h => (by cases h), bstep HBW2.out HBZ.out⟩
            repeat first
              | (refine held_skip ?_ ?_; (· first | rfl | (go_simp; done)); simp only [Act.put, List.setIfInBounds_toArray, List.set_cons_zero, List.set_cons_succ])
              | (refine held_val (v := ?_) ?_ ?_ ?_
                 rotate_left
                 · first | rfl | (go_simp; done)
                 · intro wq hq
                   obtain ⟨c0, c1, c2, c3, c4, c5⟩ := cells6 ((hq.block _ (lt_of_block HBB.out)).trans HBB.out)
                   go_simp
                   with_reducible rfl
                 simp only [Act.put, List.setIfInBounds_toArray, List.set_cons_zero, List.set_cons_succ])
            cases A6
            rotate_left
            · repeat first
                | (refine held_skip ?_ ?_; (· first | rfl | (go_simp; done)); simp only [Act.put, List.setIfInBounds_toArray, List.set_cons_zero, List.set_cons_succ])
                | (refine held_val (v := ?_) ?_ ?_ ?_
                   rotate_left
                   · first | rfl | (go_simp; done)
                   · intro wq hq
                     obtain ⟨c0, c1, c2, c3, c4, c5⟩ := cells6 ((hq.block _ (lt_of_block HBB.out)).trans HBB.out)
                     go_simp
                     with_reducible rfl
                   simp only [Act.put, List.setIfInBounds_toArray, List.set_cons_zero, List.set_cons_succ])
              refine held_nil ?_
              intro w2 hb2
              have HBZ := Lib.hid hb2
              clear hb2
              go_wp2_with fail
              go_ret
              exact ⟨false, rfl, fun h => (by cases h), bstep HBW2.out HBZ.out⟩
            repeat first
              | (refine held_skip ?_ ?_; (· first | rfl | (go_simp; done)); simp only [Act.put, List.setIfInBounds_toArray, List.set_cons_zero, List.set_cons_succ])
              | (refine held_val (v := ?_) ?_ ?_ ?_
                 rotate_left
                 · first | rfl | (go_simp; done)
                 · intro wq hq
                   obtain ⟨c0, c1, c2, c3, c4, c5⟩ := cells6 ((hq.block _ (lt_of_block HBB.out)).trans HBB.out)
                   go_simp
                   with_reducible rfl
                 simp only [Act.put, List.setIfInBounds_toArray, List.set_cons_zero, List.set_cons_succ])
            cases A7
            rotate_left
            · repeat first
                | (refine held_skip ?_ ?_; (· first | rfl | (go_simp; done)); simp only [Act.put, List.setIfInBounds_toArray, List.set_cons_zero, List.set_cons_succ])
                | (refine held_val (v := ?_) ?_ ?_ ?_
                   rotate_left
                   · first | rfl | (go_simp; done)
                   · intro wq hq
                     obtain ⟨c0, c1, c2, c3, c4, c5⟩ := cells6 ((hq.block _ (lt_of_block HBB.out)).trans HBB.out)
                     go_simp
                     with_reducible rfl
                   simp only [Act.put, List.setIfInBounds_toArray, List.set_cons_zero, List.set_cons_succ])
              refine held_nil ?_
              intro w2 hb2
              have HBZ := Lib.hid hb2
              clear hb2
              go_wp2_with fail
              go_ret
              exact ⟨false, rfl, fun h => (by cases h), bstep HBW2.out HBZ.out⟩
            repeat first
              | (refine held_skip ?_ ?_; (· first | rfl | (go_simp; done)); simp only [Act.put, List.setIfInBounds_toArray, List.set_cons_zero, List.set_cons_succ])
              | (refine held_val (v := ?_) ?_ ?_ ?_
                 rotate_left
                 · first | rfl | (go_simp; done)
                 · intro wq hq
                   obtain ⟨c0, c1, c2, c3, c4, c5⟩ := cells6 ((hq.block _ (lt_of_block HBB.out)).trans HBB.out)
                   go_simp
                   with_reducible rfl
                 simp only [Act.put, List.setIfInBounds_toArray, List.set_cons_zero, List.set_cons_succ])
            cases A9
            rotate_left
            · refine held_nil ?_
              intro w2 hb2
              have HBZ := Lib.hid hb2
              clear hb2
              go_wp2_with fail
              go_ret
              exact ⟨false, rfl, fun h => (by cases h), bstep HBW2.out HBZ.out⟩
            refine held_nil ?_
            intro w2 hb2
            have HB2 := Lib.hid hb2
            have hbb := (hb2.block _ (lt_of_block HBB.out)).trans HBB.out
            obtain ⟨c0, c1, c2, c3, c4, c5⟩ := cells6 hbb
            have HBB2 := Lib.hid hbb
            clear hb2 hbb
            cases B1
            rotate_left
            · go_wp2_with fail
              go_ret
              exact ⟨false, rfl, fun h => (by cases h), bstep HBW2.out HB2.out⟩
            cases B2
            rotate_left
            · go_wp2_with fail
              go_ret
              exact ⟨false, rfl, fun h => (by cases h), bstep HBW2.out HB2.out⟩
            cases B3
            rotate_left
            · go_wp2_with fail
              go_ret
              exact ⟨false, rfl, fun h => (by cases h), bstep HBW2.out HB2.out⟩
            go_wp2_with fail
            clear c0 c1 c2 c3 c4 c5
            refine held_below (by kernel_rfl) (by kernel_rfl) ?_
            repeat first
              | (refine held_skip ?_ ?_; (· first | rfl | (go_simp; done)); simp only [Act.put, List.setIfInBounds_toArray, List.set_cons_zero, List.set_cons_succ])
              | (refine held_val (v := ?_) ?_ ?_ ?_
                 rotate_left
                 · first | rfl | (go_simp; done)
                 · intro wq hq
                   obtain ⟨c0, c1, c2, c3, c4, c5⟩ := cells6 ((hq.block _ (lt_of_block HBB2.out)).trans HBB2.out)
                   go_simp
                   with_reducible rfl
                 simp only [Act.put, List.setIfInBounds_toArray, List.set_cons_zero, List.set_cons_succ])
              | (refine held_call (v := ?_) (f := ?_) (args := ?_) ?_ ?_ ?_ ?_
                 rotate_left 3
                 · first | rfl | (go_simp; done)
                 · intro wq
                   go_simp
                   constructor
                   · rfl
                   · rfl
                 · intro wq hq
                   first
                     | (refine (rgood_is ya _ yc x.p G HGH.out rfl (by have := HPL.out; omega) wq (((HR.out.grow HBW.out).grow HB2.out).grow hq).pts).mono ?_
                        rintro e wn ⟨rfl, hb1⟩
                        constructor
                        · rfl
                        · exact bstep hq hb1)
                     | (refine (rend_is ya _ yc x.p E HE.out rfl (by have := HPL.out; omega) wq (((HR.out.grow HBW.out).grow HB2.out).grow hq).pts).mono ?_
                        rintro e wn ⟨rfl, hb1⟩
                        constructor
                        · rfl
                        · exact bstep hq hb1)
                 simp only [Act.put, List.setIfInBounds_toArray, List.set_cons_zero, List.set_cons_succ])
            cases A10
            rotate_left
            · repeat first
                | (refine held_skip ?_ ?_; (· first | rfl | (go_simp; done)); simp only [Act.put, List.setIfInBounds_toArray, List.set_cons_zero, List.set_cons_succ])
                | (refine held_val (v := ?_) ?_ ?_ ?_
                   rotate_left
                   · first | rfl | (go_simp; done)
                   · intro wq hq
                     obtain ⟨c0, c1, c2, c3, c4, c5⟩ := cells6 ((hq.block _ (lt_of_block HBB2.out)).trans HBB2.out)
                     go_simp
                     with_reducible rfl
                   simp only [Act.put, List.setIfInBounds_toArray, List.set_cons_zero, List.set_cons_succ])
                | (refine held_call (v := ?_) (f := ?_) (args := ?_) ?_ ?_ ?_ ?_
                   rotate_left 3
                   · first | rfl | (go_simp; done)
                   · intro wq
                     go_simp
                     constructor
                     · rfl
                     · rfl
                   · intro wq hq
                     first
                       | (refine (rgood_is ya _ yc x.p G HGH.out rfl (by have := HPL.out; omega) wq (((HR.out.grow HBW.out).grow HB2.out).grow hq).pts).mono ?_
                          rintro e wn ⟨rfl, hb1⟩
                          constructor
                          · rfl
                          · exact bstep hq hb1)
                       | (refine (rend_is ya _ yc x.p E HE.out rfl (by have := HPL.out; omega) wq (((HR.out.grow HBW.out).grow HB2.out).grow hq).pts).mono ?_
                          rintro e wn ⟨rfl, hb1⟩
                          constructor
                          · rfl
                          · exact bstep hq hb1)
                   simp only [Act.put, List.setIfInBounds_toArray, List.set_cons_zero, List.set_cons_succ])
              refine held_nil ?_
              intro w2 hb2
              have HBZ := Lib.hid hb2
              clear hb2
              go_wp2_with fail
              go_ret
              exact ⟨false, rfl, fun h => (by cases h), bstep (bstep HBW2.out HB2.out) HBZ.out⟩
            repeat first
              | (refine held_skip ?_ ?_; (· first | rfl | (go_simp; done)); simp only [Act.put, List.setIfInBounds_toArray, List.set_cons_zero, List.set_cons_succ])
              | (refine held_val (v := ?_) ?_ ?_ ?_
                 rotate_left
                 · first | rfl | (go_simp; done)
                 · intro wq hq
                   obtain ⟨c0, c1, c2, c3, c4, c5⟩ := cells6 ((hq.block _ (lt_of_block HBB2.out)).trans HBB2.out)
                   go_simp
                   with_reducible rfl
                 simp only [Act.put, List.setIfInBounds_toArray, List.set_cons_zero, List.set_cons_succ])
              | (refine held_call (v := ?_) (f := ?_) (args := ?_) ?_ ?_ ?_ ?_
                 rotate_left 3
                 · first | rfl | (go_simp; done)
                 · intro wq
                   go_simp
                   constructor
                   · rfl
                   · rfl
                 · intro wq hq
                   first
                     | (refine (rgood_is ya _ yc x.p G HGH.out rfl (by have := HPL.out; omega) wq (((HR.out.grow HBW.out).grow HB2.out).grow hq).pts).mono ?_
                        rintro e wn ⟨rfl, hb1⟩
                        constructor
                        · rfl
                        · exact bstep hq hb1)
                     | (refine (rend_is ya _ yc x.p E HE.out rfl (by have := HPL.out; omega) wq (((HR.out.grow HBW.out).grow HB2.out).grow hq).pts).mono ?_
                        rintro e wn ⟨rfl, hb1⟩
                        constructor
                        · rfl
                        · exact bstep hq hb1)
                 simp only [Act.put, List.setIfInBounds_toArray, List.set_cons_zero, List.set_cons_succ])
            cases A11
            rotate_left
            · repeat first
                | (refine held_skip ?_ ?_; (· first | rfl | (go_simp; done)); simp only [Act.put, List.setIfInBounds_toArray, List.set_cons_zero, List.set_cons_succ])
                | (refine held_val (v := ?_) ?_ ?_ ?_
                   rotate_left
                   · first | rfl | (go_simp; done)
                   · intro wq hq
                     obtain ⟨c0, c1, c2, c3, c4, c5⟩ := cells6 ((hq.block _ (lt_of_block HBB2.out)).trans HBB2.out)
                     go_simp
                     with_reducible rfl
                   simp only [Act.put, List.setIfInBounds_toArray, List.set_cons_zero, List.set_cons_succ])
                | (refine held_call (v := ?_) (f := ?_) (args := ?_) ?_ ?_ ?_ ?_
                   rotate_left 3
                   · first | rfl | (go_simp; done)
                   · intro wq
                     go_simp
                     constructor
                     · rfl
                     · rfl
                   · intro wq hq
                     first
                       | (refine (rgood_is ya _ yc x.p G HGH.out rfl (by have := HPL.out; omega) wq (((HR.out.grow HBW.out).grow HB2.out).grow hq).pts).mono ?_
                          rintro e wn ⟨rfl, hb1⟩
                          constructor
                          · rfl
                          · exact bstep hq hb1)
                       | (refine (rend_is ya _ yc x.p E HE.out rfl (by have := HPL.out; omega) wq (((HR.out.grow HBW.out).grow HB2.out).grow hq).pts).mono ?_
                          rintro e wn ⟨rfl, hb1⟩
                          constructor
                          · rfl
                          · exact bstep hq hb1)
                   simp only [Act.put, List.setIfInBounds_toArray, List.set_cons_zero, List.set_cons_succ])
              refine held_nil ?_
              intro w2 hb2
              have HBZ := Lib.hid hb2
              clear hb2
              go_wp2_with fail
              go_ret
              exact ⟨false, rfl, fun h => (by cases h), bstep (bstep HBW2.out HB2.out) HBZ.out⟩
            repeat first
              | (refine held_skip ?_ ?_; (· first | rfl | (go_simp; done)); simp only [Act.put, List.setIfInBounds_toArray, List.set_cons_zero, List.set_cons_succ])
              | (refine held_val (v := ?_) ?_ ?_ ?_
                 rotate_left
                 · first | rfl | (go_simp; done)
                 · intro wq hq
                   obtain ⟨c0, c1, c2, c3, c4, c5⟩ := cells6 ((hq.block _ (lt_of_block HBB2.out)).trans HBB2.out)
                   go_simp
                   with_reducible rfl
                 simp only [Act.put, List.setIfInBounds_toArray, List.set_cons_zero, List.set_cons_succ])
              | (refine held_call (v := ?_) (f := ?_) (args := ?_) ?_ ?_ ?_ ?_
                 rotate_left 3
                 · first | rfl | (go_simp; done)
                 · intro wq
                   go_simp
                   constructor
                   · rfl
                   · rfl
                 · intro wq hq
                   first
                     | (refine (rgood_is ya _ yc x.p G HGH.out rfl (by have := HPL.out; omega) wq (((HR.out.grow HBW.out).grow HB2.out).grow hq).pts).mono ?_
                        rintro e wn ⟨rfl, hb1⟩
                        constructor
                        · rfl
                        · exact bstep hq hb1)
                     | (refine (rend_is ya _ yc x.p E HE.out rfl (by have := HPL.out; omega) wq (((HR.out.grow HBW.out).grow HB2.out).grow hq).pts).mono ?_
                        rintro e wn ⟨rfl, hb1⟩
                        constructor
                        · rfl
                        · exact bstep hq hb1)
                 simp only [Act.put, List.setIfInBounds_toArray, List.set_cons_zero, List.set_cons_succ])
            cases G
            skip
            · repeat first
                | (refine held_skip ?_ ?_; (· first | rfl | (go_simp; done)); simp only [Act.put, List.setIfInBounds_toArray, List.set_cons_zero, List.set_cons_succ])
                | (refine held_val (v := ?_) ?_ ?_ ?_
                   rotate_left
                   · first | rfl | (go_simp; done)
                   · intro wq hq
                     obtain ⟨c0, c1, c2, c3, c4, c5⟩ := cells6 ((hq.block _ (lt_of_block HBB2.out)).trans HBB2.out)
                     go_simp
                     with_reducible rfl
                   simp only [Act.put, List.setIfInBounds_toArray, List.set_cons_zero, List.set_cons_succ])
                | (refine held_call (v := ?_) (f := ?_) (args := ?_) ?_ ?_ ?_ ?_
                   rotate_left 3
                   · first | rfl | (go_simp; done)
                   · intro wq
                     go_simp
                     constructor
                     · rfl
                     · rfl
                   · intro wq hq
                     first
                       | (refine (rgood_is ya _ yc x.p G HGH.out rfl (by have := HPL.out; omega) wq (((HR.out.grow HBW.out).grow HB2.out).grow hq).pts).mono ?_
                          rintro e wn ⟨rfl, hb1⟩
                          constructor
                          · rfl
                          · exact bstep hq hb1)
                       | (refine (rend_is ya _ yc x.p E HE.out rfl (by have := HPL.out; omega) wq (((HR.out.grow HBW.out).grow HB2.out).grow hq).pts).mono ?_
                          rintro e wn ⟨rfl, hb1⟩
                          constructor
                          · rfl
                          · exact bstep hq hb1)
                   simp only [Act.put, List.setIfInBounds_toArray, List.set_cons_zero, List.set_cons_succ])
              refine held_nil ?_
              intro w2 hb2
              have HBZ := Lib.hid hb2
              clear hb2
              go_wp2_with fail
              go_ret
              exact ⟨false, rfl, fun h => (by cases h), bstep (bstep HBW2.out HB2.out) HBZ.out⟩
            repeat first
              | (refine held_skip ?_ ?_; (· first | rfl | (go_simp; done)); simp only [Act.put, List.setIfInBounds_toArray, List.set_cons_zero, List.set_cons_succ])
              | (refine held_val (v := ?_) ?_ ?_ ?_
                 rotate_left
                 · first | rfl | (go_simp; done)
                 · intro wq hq
                   obtain ⟨c0, c1, c2, c3, c4, c5⟩ := cells6 ((hq.block _ (lt_of_block HBB2.out)).trans HBB2.out)
                   go_simp
                   with_reducible rfl
                 simp only [Act.put, List.setIfInBounds_toArray, List.set_cons_zero, List.set_cons_succ])
              | (refine held_call (v := ?_) (f := ?_) (args := ?_) ?_ ?_ ?_ ?_
                 rotate_left 3
                 · first | rfl | (go_simp; done)
                 · intro wq
                   go_simp
                   constructor
                   · rfl
                   · rfl
                 · intro wq hq
                   first
                     | (refine (rgood_is ya _ yc x.p G HGH.out rfl (by have := HPL.out; omega) wq (((HR.out.grow HBW.out).grow HB2.out).grow hq).pts).mono ?_
                        rintro e wn ⟨rfl, hb1⟩
                        constructor
                        · rfl
                        · exact bstep hq hb1)
                     | (refine (rend_is ya _ yc x.p E HE.out rfl (by have := HPL.out; omega) wq (((HR.out.grow HBW.out).grow HB2.out).grow hq).pts).mono ?_
                        rintro e wn ⟨rfl, hb1⟩
                        constructor
                        · rfl
                        · exact bstep hq hb1)
                 simp only [Act.put, List.setIfInBounds_toArray, List.set_cons_zero, List.set_cons_succ])
            cases A12
            rotate_left
            · refine held_nil ?_
              intro w2 hb2
              have HBZ := Lib.hid hb2
              clear hb2
              go_wp2_with fail
              go_ret
              exact ⟨false, rfl, fun h => (by cases h), bstep (bstep HBW2.out HB2.out) HBZ.out⟩
            refine held_nil ?_
            intro w2 hb2
            have HB3 := Lib.hid hb2
            clear hb2
            go_wp2_with fail
            have hz := HR.out
            have hokx : OkX nx x := okx_of hz (.inl rfl) HL.out HN.out a1 a2 a4 a5 a6 a7 s0 a9 a10 a11 HGH.out HE.out a12 (fun _ => ⟨b1, b2, b3⟩)
            have hnew : OkI xs nx k := by
              intro x' hx'
              obtain rfl : x = x' := by have := HXK.out; rw [this] at hx'; simpa using hx'
              refine ⟨hokx, fun p h0 hp => ?_⟩
              omega
            exact ⟨⟨k + 1, by omega, by simp, fun j hj => (by rcases Nat.lt_succ_iff_lt_or_eq.1 hj with h | rfl; exact HOK.out j h; exact hnew), bstep (bstep HBW2.out HB2.out) HB3.out⟩, by simp [intOf]; omega⟩
        by_cases hk2 : yk = 2
        · subst hk2
          clear hk1
          as_aux_lemma =>
            go_wp2_with fail
            clear c0 c1 c2 c3 c4 c5
            generalize wr.alloc (.cells #[.int .i64 yi, .int .i64 2, .int .i64 yl, .int .i64 yo, .int .i64 ys', .slice ya x.p.length yc] 62) = w1 at *
            refine held_below (by kernel_rfl) (by kernel_rfl) ?_
            repeat first
              | (refine held_skip ?_ ?_; (· first | rfl | (go_simp; done)); simp only [Act.put, List.setIfInBounds_toArray, List.set_cons_zero, List.set_cons_succ])
              | (refine held_val (v := ?_) ?_ ?_ ?_
                 rotate_left
                 · first | rfl | (go_simp; done)
                 · intro wq hq
                   obtain ⟨c0, c1, c2, c3, c4, c5⟩ := cells6 ((hq.block _ (lt_of_block HBB.out)).trans HBB.out)
                   go_simp
                   with_reducible rfl
                 simp only [Act.put, List.setIfInBounds_toArray, List.set_cons_zero, List.set_cons_succ])
            cases A1
            rotate_left
            · repeat first
                | (refine held_skip ?_ ?_; (· first | rfl | (go_simp; done)); simp only [Act.put, List.setIfInBounds_toArray, List.set_cons_zero, List.set_cons_succ])
                | (refine held_val (v := ?_) ?_ ?_ ?_
                   rotate_left
                   · first | rfl | (go_simp; done)
                   · intro wq hq
                     obtain ⟨c0, c1, c2, c3, c4, c5⟩ := cells6 ((hq.block _ (lt_of_block HBB.out)).trans HBB.out)
                     go_simp
                     with_reducible rfl
                   simp only [Act.put, List.setIfInBounds_toArray, List.set_cons_zero, List.set_cons_succ])
              refine held_nil ?_
              intro w2 hb2
              have HBZ := Lib.hid hb2
              clear hb2
              go_wp2_with fail
              go_ret
              exact ⟨false, rfl, fun h => (by cases h), bstep HBW2.out HBZ.out⟩
            repeat first
              | (refine held_skip ?_ ?_; (· first | rfl | (go_simp; done)); simp only [Act.put, List.setIfInBounds_toArray, List.set_cons_zero, List.set_cons_succ])
              | (refine held_val (v := ?_) ?_ ?_ ?_
                 rotate_left
                 · first | rfl | (go_simp; done)
                 · intro wq hq
                   obtain ⟨c0, c1, c2, c3, c4, c5⟩ := cells6 ((hq.block _ (lt_of_block HBB.out)).trans HBB.out)
                   go_simp
                   with_reducible rfl
                 simp only [Act.put, List.setIfInBounds_toArray, List.set_cons_zero, List.set_cons_succ])
            cases A2
            rotate_left
            · repeat first
                | (refine held_skip ?_ ?_; (· first | rfl | (go_simp; done)); simp only [Act.put, List.setIfInBounds_toArray, List.set_cons_zero, List.set_cons_succ])
                | (refine held_val (v := ?_) ?_ ?_ ?_
                   rotate_left
                   · first | rfl | (go_simp; done)
                   · intro wq hq
                     obtain ⟨c0, c1, c2, c3, c4, c5⟩ := cells6 ((hq.block _ (lt_of_block HBB.out)).trans HBB.out)
                     go_simp
                     with_reducible rfl
                   simp only [Act.put, List.setIfInBounds_toArray, List.set_cons_zero, List.set_cons_succ])
              refine held_nil ?_
              intro w2 hb2
              have HBZ := Lib.hid hb2
              clear hb2
              go_wp2_with fail
              go_ret
              exact ⟨false, rfl, fun h => (by cases h), bstep HBW2.out HBZ.out⟩
            repeat first
              | (refine held_skip ?_ ?_; (· first | rfl | (go_simp; done)); simp only [Act.put, List.setIfInBounds_toArray, List.set_cons_zero, List.set_cons_succ])
              | (refine held_val (v := ?_) ?_ ?_ ?_
                 rotate_left
                 · first | rfl | (go_simp; done)
                 · intro wq hq
                   obtain ⟨c0, c1, c2, c3, c4, c5⟩ := cells6 ((hq.block _ (lt_of_block HBB.out)).trans HBB.out)
                   go_simp
                   with_reducible rfl
                 simp only [Act.put, List.setIfInBounds_toArray, List.set_cons_zero, List.set_cons_succ])
            cases A4
            rotate_left
            · repeat first
                | (refine held_skip ?_ ?_; (· first | rfl | (go_simp; done)); simp only [Act.put, List.setIfInBounds_toArray, List.set_cons_zero, List.set_cons_succ])
                | (refine held_val (v := ?_) ?_ ?_ ?_
                   rotate_left
                   · first | rfl | (go_simp; done)
                   · intro wq hq
                     obtain ⟨c0, c1, c2, c3, c4, c5⟩ := cells6 ((hq.block _ (lt_of_block HBB.out)).trans HBB.out)
                     go_simp
                     with_reducible rfl
                   simp only [Act.put, List.setIfInBounds_toArray, List.set_cons_zero, List.set_cons_succ])
              refine held_nil ?_
              intro w2 hb2
              have HBZ := Lib.hid hb2
              clear hb2
              go_wp2_with fail
              go_ret
              exact ⟨false, rfl, fun h => (by cases h), bstep HBW2.out HBZ.out⟩
            repeat first
              | (refine held_skip ?_ ?_; (· first | rfl | (go_simp; done)); simp only [Act.put, List.setIfInBounds_toArray, List.set_cons_zero, List.set_cons_succ])
              | (refine held_val (v := ?_) ?_ ?_ ?_
                 rotate_left
                 · first | rfl | (go_simp; done)
                 · intro wq hq
                   obtain ⟨c0, c1, c2, c3, c4, c5⟩ := cells6 ((hq.block _ (lt_of_block HBB.out)).trans HBB.out)
                   go_simp
                   with_reducible rfl
                 simp only [Act.put, List.setIfInBounds_toArray, List.set_cons_zero, List.set_cons_succ])
            cases A5
            rotate_left
            · repeat first
                | (refine held_skip ?_ ?_; (· first | rfl | (go_simp; done)); simp only [Act.put, List.setIfInBounds_toArray, List.set_cons_zero, List.set_cons_succ])
                | (refine held_val (v := ?_) ?_ ?_ ?_
                   rotate_left
                   · first | rfl | (go_simp; done)
                   · intro wq hq
                     obtain ⟨c0, c1, c2, c3, c4, c5⟩ := cells6 ((hq.block _ (lt_of_block HBB.out)).trans HBB.out)
                     go_simp
                     with_reducible rfl
                   simp only [Act.put, List.setIfInBounds_toArray, List.set_cons_zero, List.set_cons_succ])
              refine held_nil ?_
              intro w2 hb2
              have HBZ := Lib.hid hb2
              clear hb2
              go_wp2_with fail
              go_ret
              exact ⟨false, rfl, fun h => (by cases h), bstep HBW2.out HBZ.out⟩
            repeat first
              | (refine held_skip ?_ ?_; (· first | rfl | (go_simp; done)); simp only [Act.put, List.setIfInBounds_toArray, List.set_cons_zero, List.set_cons_succ])
              | (refine held_val (v := ?_) ?_ ?_ ?_
                 rotate_left
                 · first | rfl | (go_simp; done)
                 · intro wq hq
                   obtain ⟨c0, c1, c2, c3, c4, c5⟩ := cells6 ((hq.block _ (lt_of_block HBB.out)).trans HBB.out)
                   go_simp
                   with_reducible rfl
                 simp only [Act.put, List.setIfInBounds_toArray, List.set_cons_zero, List.set_cons_succ])
            cases A6
            rotate_left
            · repeat first
                | (refine held_skip ?_ ?_; (· first | rfl | (go_simp; done)); simp only [Act.put, List.setIfInBounds_toArray, List.set_cons_zero, List.set_cons_succ])
                | (refine held_val (v := ?_) ?_ ?_ ?_
                   rotate_left
                   · first | rfl | (go_simp; done)
                   · intro wq hq
                     obtain ⟨c0, c1, c2, c3, c4, c5⟩ := cells6 ((hq.block _ (lt_of_block HBB.out)).trans HBB.out)
                     go_simp
                     with_reducible rfl
                   simp only [Act.put, List.setIfInBounds_toArray, List.set_cons_zero, List.set_cons_succ])
              refine held_nil ?_
              intro w2 hb2
              have HBZ := Lib.hid hb2
              clear hb2
              go_wp2_with fail
              go_ret
              exact ⟨false, rfl, fun h => (by cases h), bstep HBW2.out HBZ.out⟩
            repeat first
              | (refine held_skip ?_ ?_; (· first | rfl | (go_simp; done)); simp only [Act.put, List.setIfInBounds_toArray, List.set_cons_zero, List.set_cons_succ])
              | (refine held_val (v := ?_) ?_ ?_ ?_
                 rotate_left
                 · first | rfl | (go_simp; done)
                 · intro wq hq
                   obtain ⟨c0, c1, c2, c3, c4, c5⟩ := cells6 ((hq.block _ (lt_of_block HBB.out)).trans HBB.out)
                   go_simp
                   with_reducible rfl
                 simp only [Act.put, List.setIfInBounds_toArray, List.set_cons_zero, List.set_cons_succ])
            cases A7
            rotate_left
            · repeat first
                | (refine held_skip ?_ ?_; (· first | rfl | (go_simp; done)); simp only [Act.put, List.setIfInBounds_toArray, List.set_cons_zero, List.set_cons_succ])
                | (refine held_val (v := ?_) ?_ ?_ ?_
                   rotate_left
                   · first | rfl | (go_simp; done)
                   · intro wq hq
                     obtain ⟨c0, c1, c2, c3, c4, c5⟩ := cells6 ((hq.block _ (lt_of_block HBB.out)).trans HBB.out)
                     go_simp
                     with_reducible rfl
                   simp only [Act.put, List.setIfInBounds_toArray, List.set_cons_zero, List.set_cons_succ])
              refine held_nil ?_
              intro w2 hb2
              have HBZ := Lib.hid hb2
              clear hb2
              go_wp2_with fail
              go_ret
              exact ⟨false, rfl, fun h => (by cases h), bstep HBW2.out HBZ.out⟩
            repeat first
              | (refine held_skip ?_ ?_; (· first | rfl | (go_simp; done)); simp only [Act.put, List.setIfInBounds_toArray, List.set_cons_zero, List.set_cons_succ])
              | (refine held_val (v := ?_) ?_ ?_ ?_
                 rotate_left
                 · first | rfl | (go_simp; done)
                 · intro wq hq
                   obtain ⟨c0, c1, c2, c3, c4, c5⟩ := cells6 ((hq.block _ (lt_of_block HBB.out)).trans HBB.out)
                   go_simp
                   with_reducible rfl
                 simp only [Act.put, List.setIfInBounds_toArray, List.set_cons_zero, List.set_cons_succ])
            cases A9
            rotate_left
            · refine held_nil ?_
              intro w2 hb2
              have HBZ := Lib.hid hb2
              clear hb2
              go_wp2_with fail
              go_ret
              exact ⟨false, rfl, fun h => (by cases h), bstep HBW2.out HBZ.out⟩
            refine held_nil ?_
            intro w2 hb2
            have HB2 := Lib.hid hb2
            have hbb := (hb2.block _ (lt_of_block HBB.out)).trans HBB.out
            obtain ⟨c0, c1, c2, c3, c4, c5⟩ := cells6 hbb
            have HBB2 := Lib.hid hbb
            clear hb2 hbb
            go_wp2_with fail
            clear c0 c1 c2 c3 c4 c5
            refine held_below (by kernel_rfl) (by kernel_rfl) ?_
            repeat first
              | (refine held_skip ?_ ?_; (· first | rfl | (go_simp; done)); simp only [Act.put, List.setIfInBounds_toArray, List.set_cons_zero, List.set_cons_succ])
              | (refine held_val (v := ?_) ?_ ?_ ?_
                 rotate_left
                 · first | rfl | (go_simp; done)
                 · intro wq hq
                   obtain ⟨c0, c1, c2, c3, c4, c5⟩ := cells6 ((hq.block _ (lt_of_block HBB2.out)).trans HBB2.out)
                   go_simp
                   with_reducible rfl
                 simp only [Act.put, List.setIfInBounds_toArray, List.set_cons_zero, List.set_cons_succ])
              | (refine held_call (v := ?_) (f := ?_) (args := ?_) ?_ ?_ ?_ ?_
                 rotate_left 3
                 · first | rfl | (go_simp; done)
                 · intro wq
                   go_simp
                   constructor
                   · rfl
                   · rfl
                 · intro wq hq
                   first
                     | (refine (rgood_is ya _ yc x.p G HGH.out rfl (by have := HPL.out; omega) wq (((HR.out.grow HBW.out).grow HB2.out).grow hq).pts).mono ?_
                        rintro e wn ⟨rfl, hb1⟩
                        constructor
                        · rfl
                        · exact bstep hq hb1)
                     | (refine (rend_is ya _ yc x.p E HE.out rfl (by have := HPL.out; omega) wq (((HR.out.grow HBW.out).grow HB2.out).grow hq).pts).mono ?_
                        rintro e wn ⟨rfl, hb1⟩
                        constructor
                        · rfl
                        · exact bstep hq hb1)
                 simp only [Act.put, List.setIfInBounds_toArray, List.set_cons_zero, List.set_cons_succ])
            cases A10
            rotate_left
            · repeat first
                | (refine held_skip ?_ ?_; (· first | rfl | (go_simp; done)); simp only [Act.put, List.setIfInBounds_toArray, List.set_cons_zero, List.set_cons_succ])
                | (refine held_val (v := ?_) ?_ ?_ ?_
                   rotate_left
                   · first | rfl | (go_simp; done)
                   · intro wq hq
                     obtain ⟨c0, c1, c2, c3, c4, c5⟩ := cells6 ((hq.block _ (lt_of_block HBB2.out)).trans HBB2.out)
                     go_simp
                     with_reducible rfl
                   simp only [Act.put, List.setIfInBounds_toArray, List.set_cons_zero, List.set_cons_succ])
                | (refine held_call (v := ?_) (f := ?_) (args := ?_) ?_ ?_ ?_ ?_
                   rotate_left 3
                   · first | rfl | (go_simp; done)
                   · intro wq
                     go_simp
                     constructor
                     · rfl
                     · rfl
                   · intro wq hq
                     first
                       | (refine (rgood_is ya _ yc x.p G HGH.out rfl (by have := HPL.out; omega) wq (((HR.out.grow HBW.out).grow HB2.out).grow hq).pts).mono ?_
                          rintro e wn ⟨rfl, hb1⟩
                          constructor
                          · rfl
                          · exact bstep hq hb1)
                       | (refine (rend_is ya _ yc x.p E HE.out rfl (by have := HPL.out; omega) wq (((HR.out.grow HBW.out).grow HB2.out).grow hq).pts).mono ?_
                          rintro e wn ⟨rfl, hb1⟩
                          constructor
                          · rfl
                          · exact bstep hq hb1)
                   simp only [Act.put, List.setIfInBounds_toArray, List.set_cons_zero, List.set_cons_succ])
              refine held_nil ?_
              intro w2 hb2
              have HBZ := Lib.hid hb2
              clear hb2
              go_wp2_with fail
              go_ret
              exact ⟨false, rfl, fun h => (by cases h), bstep (bstep HBW2.out HB2.out) HBZ.out⟩
            repeat first
              | (refine held_skip ?_ ?_; (· first | rfl | (go_simp; done)); simp only [Act.put, List.setIfInBounds_toArray, List.set_cons_zero, List.set_cons_succ])
              | (refine held_val (v := ?_) ?_ ?_ ?_
                 rotate_left
                 · first | rfl | (go_simp; done)
                 · intro wq hq
                   obtain ⟨c0, c1, c2, c3, c4, c5⟩ := cells6 ((hq.block _ (lt_of_block HBB2.out)).trans HBB2.out)
                   go_simp
                   with_reducible rfl
                 simp only [Act.put, List.setIfInBounds_toArray, List.set_cons_zero, List.set_cons_succ])
              | (refine held_call (v := ?_) (f := ?_) (args := ?_) ?_ ?_ ?_ ?_
                 rotate_left 3
                 · first | rfl | (go_simp; done)
                 · intro wq
                   go_simp
                   constructor
                   · rfl
                   · rfl
                 · intro wq hq
                   first
                     | (refine (rgood_is ya _ yc x.p G HGH.out rfl (by have := HPL.out; omega) wq (((HR.out.grow HBW.out).grow HB2.out).grow hq).pts).mono ?_
                        rintro e wn ⟨rfl, hb1⟩
                        constructor
                        · rfl
                        · exact bstep hq hb1)
                     | (refine (rend_is ya _ yc x.p E HE.out rfl (by have := HPL.out; omega) wq (((HR.out.grow HBW.out).grow HB2.out).grow hq).pts).mono ?_
                        rintro e wn ⟨rfl, hb1⟩
                        constructor
                        · rfl
                        · exact bstep hq hb1)
                 simp only [Act.put, List.setIfInBounds_toArray, List.set_cons_zero, List.set_cons_succ])
            cases A11
            rotate_left
            · repeat first
                | (refine held_skip ?_ ?_; (· first | rfl | (go_simp; done)); simp only [Act.put, List.setIfInBounds_toArray, List.set_cons_zero, List.set_cons_succ])
                | (refine held_val (v := ?_) ?_ ?_ ?_
                   rotate_left
                   · first | rfl | (go_simp; done)
                   · intro wq hq
                     obtain ⟨c0, c1, c2, c3, c4, c5⟩ := cells6 ((hq.block _ (lt_of_block HBB2.out)).trans HBB2.out)
                     go_simp
                     with_reducible rfl
                   simp only [Act.put, List.setIfInBounds_toArray, List.set_cons_zero, List.set_cons_succ])
                | (refine held_call (v := ?_) (f := ?_) (args := ?_) ?_ ?_ ?_ ?_
                   rotate_left 3
                   · first | rfl | (go_simp; done)
                   · intro wq
                     go_simp
                     constructor
                     · rfl
                     · rfl
                   · intro wq hq
                     first
                       | (refine (rgood_is ya _ yc x.p G HGH.out rfl (by have := HPL.out; omega) wq (((HR.out.grow HBW.out).grow HB2.out).grow hq).pts).mono ?_
                          rintro e wn ⟨rfl, hb1⟩
                          constructor
                          · rfl
                          · exact bstep hq hb1)
                       | (refine (rend_is ya _ yc x.p E HE.out rfl (by have := HPL.out; omega) wq (((HR.out.grow HBW.out).grow HB2.out).grow hq).pts).mono ?_
                          rintro e wn ⟨rfl, hb1⟩
                          constructor
                          · rfl
                          · exact bstep hq hb1)
                   simp only [Act.put, List.setIfInBounds_toArray, List.set_cons_zero, List.set_cons_succ])
              refine held_nil ?_
              intro w2 hb2
              have HBZ := Lib.hid hb2
              clear hb2
              go_wp2_with fail
              go_ret
              exact ⟨false, rfl, fun h => (by cases h), bstep (bstep HBW2.out HB2.out) HBZ.out⟩
            repeat first
              | (refine held_skip ?_ ?_; (· first | rfl | (go_simp; done)); simp only [Act.put, List.setIfInBounds_toArray, List.set_cons_zero, List.set_cons_succ])
              | (refine held_val (v := ?_) ?_ ?_ ?_
                 rotate_left
                 · first | rfl | (go_simp; done)
                 · intro wq hq
                   obtain ⟨c0, c1, c2, c3, c4, c5⟩ := cells6 ((hq.block _ (lt_of_block HBB2.out)).trans HBB2.out)
                   go_simp
                   with_reducible rfl
                 simp only [Act.put, List.setIfInBounds_toArray, List.set_cons_zero, List.set_cons_succ])
              | (refine held_call (v := ?_) (f := ?_) (args := ?_) ?_ ?_ ?_ ?_
                 rotate_left 3
                 · first | rfl | (go_simp; done)
                 · intro wq
                   go_simp
                   constructor
                   · rfl
                   · rfl
                 · intro wq hq
                   first
                     | (refine (rgood_is ya _ yc x.p G HGH.out rfl (by have := HPL.out; omega) wq (((HR.out.grow HBW.out).grow HB2.out).grow hq).pts).mono ?_
                        rintro e wn ⟨rfl, hb1⟩
                        constructor
                        · rfl
                        · exact bstep hq hb1)
                     | (refine (rend_is ya _ yc x.p E HE.out rfl (by have := HPL.out; omega) wq (((HR.out.grow HBW.out).grow HB2.out).grow hq).pts).mono ?_
                        rintro e wn ⟨rfl, hb1⟩
                        constructor
                        · rfl
                        · exact bstep hq hb1)
                 simp only [Act.put, List.setIfInBounds_toArray, List.set_cons_zero, List.set_cons_succ])
            cases G
            skip
            · repeat first
                | (refine held_skip ?_ ?_; (· first | rfl | (go_simp; done)); simp only [Act.put, List.setIfInBounds_toArray, List.set_cons_zero, List.set_cons_succ])
                | (refine held_val (v := ?_) ?_ ?_ ?_
                   rotate_left
                   · first | rfl | (go_simp; done)
                   · intro wq hq
                     obtain ⟨c0, c1, c2, c3, c4, c5⟩ := cells6 ((hq.block _ (lt_of_block HBB2.out)).trans HBB2.out)
                     go_simp
                     with_reducible rfl
                   simp only [Act.put, List.setIfInBounds_toArray, List.set_cons_zero, List.set_cons_succ])
                | (refine held_call (v := ?_) (f := ?_) (args := ?_) ?_ ?_ ?_ ?_
                   rotate_left 3
                   · first | rfl | (go_simp; done)
                   · intro wq
                     go_simp
                     constructor
                     · rfl
                     · rfl
                   · intro wq hq
                     first
                       | (refine (rgood_is ya _ yc x.p G HGH.out rfl (by have := HPL.out; omega) wq (((HR.out.grow HBW.out).grow HB2.out).grow hq).pts).mono ?_
                          rintro e wn ⟨rfl, hb1⟩
                          constructor
                          · rfl
                          · exact bstep hq hb1)
                       | (refine (rend_is ya _ yc x.p E HE.out rfl (by have := HPL.out; omega) wq (((HR.out.grow HBW.out).grow HB2.out).grow hq).pts).mono ?_
                          rintro e wn ⟨rfl, hb1⟩
                          constructor
                          · rfl
                          · exact bstep hq hb1)
                   simp only [Act.put, List.setIfInBounds_toArray, List.set_cons_zero, List.set_cons_succ])
              refine held_nil ?_
              intro w2 hb2
              have HBZ := Lib.hid hb2
              clear hb2
              go_wp2_with fail
              go_ret
              exact ⟨false, rfl, fun h => (by cases h), bstep (bstep HBW2.out HB2.out) HBZ.out⟩
            repeat first
              | (refine held_skip ?_ ?_; (· first | rfl | (go_simp; done)); simp only [Act.put, List.setIfInBounds_toArray, List.set_cons_zero, List.set_cons_succ])
              | (refine held_val (v := ?_) ?_ ?_ ?_
                 rotate_left
                 · first | rfl | (go_simp; done)
                 · intro wq hq
                   obtain ⟨c0, c1, c2, c3, c4, c5⟩ := cells6 ((hq.block _ (lt_of_block HBB2.out)).trans HBB2.out)
                   go_simp
                   with_reducible rfl
                 simp only [Act.put, List.setIfInBounds_toArray, List.set_cons_zero, List.set_cons_succ])
              | (refine held_call (v := ?_) (f := ?_) (args := ?_) ?_ ?_ ?_ ?_
                 rotate_left 3
                 · first | rfl | (go_simp; done)
                 · intro wq
                   go_simp
                   constructor
                   · rfl
                   · rfl
                 · intro wq hq
                   first
                     | (refine (rgood_is ya _ yc x.p G HGH.out rfl (by have := HPL.out; omega) wq (((HR.out.grow HBW.out).grow HB2.out).grow hq).pts).mono ?_
                        rintro e wn ⟨rfl, hb1⟩
                        constructor
                        · rfl
                        · exact bstep hq hb1)
                     | (refine (rend_is ya _ yc x.p E HE.out rfl (by have := HPL.out; omega) wq (((HR.out.grow HBW.out).grow HB2.out).grow hq).pts).mono ?_
                        rintro e wn ⟨rfl, hb1⟩
                        constructor
                        · rfl
                        · exact bstep hq hb1)
                 simp only [Act.put, List.setIfInBounds_toArray, List.set_cons_zero, List.set_cons_succ])
            cases A12
            rotate_left
            · refine held_nil ?_
              intro w2 hb2
              have HBZ := Lib.hid hb2
              clear hb2
              go_wp2_with fail
              go_ret
              exact ⟨false, rfl, fun h => (by cases h), bstep (bstep HBW2.out HB2.out) HBZ.out⟩
            refine held_nil ?_
            intro w2 hb2
            have HB3 := Lib.hid hb2
            clear hb2
            go_wp2_with fail
            have hz := HR.out
            have hokx : OkX nx x := okx_of hz (.inr rfl) HL.out HN.out a1 a2 a4 a5 a6 a7 s0 a9 a10 a11 HGH.out HE.out a12 (fun e => absurd e (by decide))
            have hnew : OkI xs nx k := by
              intro x' hx'
              obtain rfl : x = x' := by have := HXK.out; rw [this] at hx'; simpa using hx'
              refine ⟨hokx, fun p h0 hp => ?_⟩
              omega
            exact ⟨⟨k + 1, by omega, by simp, fun j hj => (by rcases Nat.lt_succ_iff_lt_or_eq.1 hj with h | rfl; exact HOK.out j h; exact hnew), bstep (bstep HBW2.out HB2.out) HB3.out⟩, by simp [intOf]; omega⟩
        have t1 : (yk != 1) = true := by simp; exact hk1
        have t2 : (yk != 2) = true := by simp; exact hk2
        clear hk1 hk2
        as_aux_lemma =>
          go_wp2_with fail
          clear c0 c1 c2 c3 c4 c5
          generalize wr.alloc (.cells #[.int .i64 yi, .int .i64 yk, .int .i64 yl, .int .i64 yo, .int .i64 ys', .slice ya x.p.length yc] 62) = w1 at *
          refine held_below (by kernel_rfl) (by kernel_rfl) ?_
          repeat first
            | (refine held_skip ?_ ?_; (· first | rfl | (go_simp; done)); simp only [Act.put, List.setIfInBounds_toArray, List.set_cons_zero, List.set_cons_succ])
            | (refine held_val (v := ?_) ?_ ?_ ?_
               rotate_left
               · first | rfl | (go_simp; done)
               · intro wq hq
                 obtain ⟨c0, c1, c2, c3, c4, c5⟩ := cells6 ((hq.block _ (lt_of_block HBB.out)).trans HBB.out)
                 go_simp
                 with_reducible rfl
               simp only [Act.put, List.setIfInBounds_toArray, List.set_cons_zero, List.set_cons_succ])
          cases A1
          rotate_left
          · repeat first
              | (refine held_skip ?_ ?_; (· first | rfl | (go_simp; done)); simp only [Act.put, List.setIfInBounds_toArray, List.set_cons_zero, List.set_cons_succ])
              | (refine held_val (v := ?_) ?_ ?_ ?_
                 rotate_left
                 · first | rfl | (go_simp; done)
                 · intro wq hq
                   obtain ⟨c0, c1, c2, c3, c4, c5⟩ := cells6 ((hq.block _ (lt_of_block HBB.out)).trans HBB.out)
                   go_simp
                   with_reducible rfl
                 simp only [Act.put, List.setIfInBounds_toArray, List.set_cons_zero, List.set_cons_succ])
            refine held_nil ?_
            intro w2 hb2
            have HBZ := Lib.hid hb2
            clear hb2
            go_wp2_with fail
            go_ret
            exact ⟨false, rfl, fun h => (by cases h), bstep HBW2.out HBZ.out⟩
          repeat first
            | (refine held_skip ?_ ?_; (· first | rfl | (go_simp; done)); simp only [Act.put, List.setIfInBounds_toArray, List.set_cons_zero, List.set_cons_succ])
            | (refine held_val (v := ?_) ?_ ?_ ?_
               rotate_left
               · first | rfl | (go_simp; done)
               · intro wq hq
                 obtain ⟨c0, c1, c2, c3, c4, c5⟩ := cells6 ((hq.block _ (lt_of_block HBB.out)).trans HBB.out)
                 go_simp
                 with_reducible rfl
               simp only [Act.put, List.setIfInBounds_toArray, List.set_cons_zero, List.set_cons_succ])
          cases A2
          rotate_left
          · repeat first
              | (refine held_skip ?_ ?_; (· first | rfl | (go_simp; done)); simp only [Act.put, List.setIfInBounds_toArray, List.set_cons_zero, List.set_cons_succ])
              | (refine held_val (v := ?_) ?_ ?_ ?_
                 rotate_left
                 · first | rfl | (go_simp; done)
                 · intro wq hq
                   obtain ⟨c0, c1, c2, c3, c4, c5⟩ := cells6 ((hq.block _ (lt_of_block HBB.out)).trans HBB.out)
                   go_simp
                   with_reducible rfl
                 simp only [Act.put, List.setIfInBounds_toArray, List.set_cons_zero, List.set_cons_succ])
            refine held_nil ?_
            intro w2 hb2
            have HBZ := Lib.hid hb2
            clear hb2
            go_wp2_with fail
            go_ret
            exact ⟨false, rfl, fun h => (by cases h), bstep HBW2.out HBZ.out⟩
          repeat first
            | (refine held_skip ?_ ?_; (· first | rfl | (go_simp; done)); simp only [Act.put, List.setIfInBounds_toArray, List.set_cons_zero, List.set_cons_succ])
            | (refine held_val (v := ?_) ?_ ?_ ?_
               rotate_left
               · first | rfl | (go_simp; done)
               · intro wq hq
                 obtain ⟨c0, c1, c2, c3, c4, c5⟩ := cells6 ((hq.block _ (lt_of_block HBB.out)).trans HBB.out)
                 go_simp
                 with_reducible rfl
               simp only [Act.put, List.setIfInBounds_toArray, List.set_cons_zero, List.set_cons_succ])
          refine held_nil ?_
          intro w2 hb2
          have HBZ := Lib.hid hb2
          clear hb2
          go_wp2_with fail
          go_ret
          exact ⟨false, rfl, fun h => (by cases h), bstep HBW2.out HBZ.out⟩
      · obtain ⟨j, hj⟩ : ∃ j, k = j + 1 := ⟨k - 1, by omega⟩
        obtain ⟨yj, hyj⟩ : ∃ yj, ys[j]? = some yj := ⟨_, List.getElem?_eq_getElem (by omega)⟩
        obtain ⟨a2', ea2, _, p0, _⟩ := iv_at HH.out.at_ hyj
        obtain rfl : a = a2' := by simpa using ea2
        obtain ⟨pv, hpv⟩ : ∃ pv, yj.i = pv := ⟨_, rfl⟩
        rw [hpv] at p0
        have HPV : Hid (∀ p, xs[k - 1]? = some p → ¬ yi ≤ pv → p.i < x.i) := Lib.hid (by
          intro p hp hle
          have e1 := (HH.out.read.2 j p yj (by rw [← hp, hj]; rfl) hyj).i
          have e2 : yi = x.i := HR.out.i
          omega)
        obtain ⟨A3, a3⟩ : ∃ A, decide (yi ≤ pv) = A := ⟨_, rfl⟩
        have z1 : 0 < k := by omega
        have z2 : IntKind.i64.wrap ((k : Int) - 1) = (j : Int) := by rw [IntWalk.i64_in _ (by omega)]; omega
        have z3 : (j : Int) < (xs.length : Int) := by omega
        have z4 : j < xs.length := by omega
        have P0 := Lib.hid p0
        clear hk0 hyj hpv hj p0 hy hbel
        by_cases hk1 : yk = 1
        · subst hk1
          obtain ⟨B1, b1⟩ : ∃ B, (yo != 0) = B := ⟨_, rfl⟩
          obtain ⟨B2, b2⟩ : ∃ B, (ys' != 0) = B := ⟨_, rfl⟩
          obtain ⟨B3, b3⟩ : ∃ B, ((x.p.length : Int) != 0) = B := ⟨_, rfl⟩
          as_aux_lemma =>
            go_wp2_with fail
            clear c0 c1 c2 c3 c4 c5
            generalize wr.alloc (.cells #[.int .i64 yi, .int .i64 1, .int .i64 yl, .int .i64 yo, .int .i64 ys', .slice ya x.p.length yc] 62) = w1 at *
            refine held_below (by kernel_rfl) (by kernel_rfl) ?_
            repeat first
              | (refine held_skip ?_ ?_; (· first | rfl | (go_simp; done)); simp only [Act.put, List.setIfInBounds_toArray, List.set_cons_zero, List.set_cons_succ])
              | (refine held_val (v := ?_) ?_ ?_ ?_
                 rotate_left
                 · first | rfl | (go_simp; done)
                 · intro wq hq
                   obtain ⟨c0, c1, c2, c3, c4, c5⟩ := cells6 ((hq.block _ (lt_of_block HBB.out)).trans HBB.out)
                   have p0 := cell_step (bstep HBW.out hq) P0.out
                   go_simp
                   with_reducible rfl
                 simp only [Act.put, List.setIfInBounds_toArray, List.set_cons_zero, List.set_cons_succ])
            cases A1
            rotate_left
            · repeat first
                | (refine held_skip ?_ ?_; (· first | rfl | (go_simp; done)); simp only [Act.put, List.setIfInBounds_toArray, List.set_cons_zero, List.set_cons_succ])
                | (refine held_val (v := ?_) ?_ ?_ ?_
                   rotate_left
                   · first | rfl | (go_simp; done)
                   · intro wq hq
                     obtain ⟨c0, c1, c2, c3, c4, c5⟩ := cells6 ((hq.block _ (lt_of_block HBB.out)).trans HBB.out)
                     have p0 := cell_step (bstep HBW.out hq) P0.out
                     go_simp
                     with_reducible rfl
                   simp only [Act.put, List.setIfInBounds_toArray, List.set_cons_zero, List.set_cons_succ])
              refine held_nil ?_
              intro w2 hb2
              have HBZ := Lib.hid hb2
              clear hb2
              go_wp2_with fail
              go_ret
              exact ⟨false, rfl, fun h => (by cases h), bstep HBW2.out HBZ.out⟩
            repeat first
              | (refine held_skip ?_ ?_; (· first | rfl | (go_simp; done)); simp only [Act.put, List.setIfInBounds_toArray, List.set_cons_zero, List.set_cons_succ])
              | (refine held_val (v := ?_) ?_ ?_ ?_
                 rotate_left
                 · first | rfl | (go_simp; done)
                 · intro wq hq
                   obtain ⟨c0, c1, c2, c3, c4, c5⟩ := cells6 ((hq.block _ (lt_of_block HBB.out)).trans HBB.out)
                   have p0 := cell_step (bstep HBW.out hq) P0.out
                   go_simp
                   with_reducible rfl
                 simp only [Act.put, List.setIfInBounds_toArray, List.set_cons_zero, List.set_cons_succ])
            cases A2
            rotate_left
            · repeat first
                | (refine held_skip ?_ ?_; (· first | rfl | (go_simp; done)); simp only [Act.put, List.setIfInBounds_toArray, List.set_cons_zero, List.set_cons_succ])
                | (refine held_val (v := ?_) ?_ ?_ ?_
                   rotate_left
                   · first | rfl | (go_simp; done)
                   · intro wq hq
                     obtain ⟨c0, c1, c2, c3, c4, c5⟩ := cells6 ((hq.block _ (lt_of_block HBB.out)).trans HBB.out)
                     have p0 := cell_step (bstep HBW.out hq) P0.out
                     go_simp
                     with_reducible rfl
                   simp only [Act.put, List.setIfInBounds_toArray, List.set_cons_zero, List.set_cons_succ])
              refine held_nil ?_
              intro w2 hb2
              have HBZ := Lib.hid hb2
              clear hb2
              go_wp2_with fail
              go_ret
              exact ⟨false, rfl, fun h => (by cases h), bstep HBW2.out HBZ.out⟩
            repeat first
              | (refine held_skip ?_ ?_; (· first | rfl | (go_simp; done)); simp only [Act.put, List.setIfInBounds_toArray, List.set_cons_zero, List.set_cons_succ])
              | (refine held_val (v := ?_) ?_ ?_ ?_
                 rotate_left
                 · first | rfl | (go_simp; done)
                 · intro wq hq
                   obtain ⟨c0, c1, c2, c3, c4, c5⟩ := cells6 ((hq.block _ (lt_of_block HBB.out)).trans HBB.out)
                   have p0 := cell_step (bstep HBW.out hq) P0.out
                   go_simp
                   with_reducible rfl
                 simp only [Act.put, List.setIfInBounds_toArray, List.set_cons_zero, List.set_cons_succ])
            cases A3
            rotate_left
            · repeat first
                | (refine held_skip ?_ ?_; (· first | rfl | (go_simp; done)); simp only [Act.put, List.setIfInBounds_toArray, List.set_cons_zero, List.set_cons_succ])
                | (refine held_val (v := ?_) ?_ ?_ ?_
                   rotate_left
                   · first | rfl | (go_simp; done)
                   · intro wq hq
                     obtain ⟨c0, c1, c2, c3, c4, c5⟩ := cells6 ((hq.block _ (lt_of_block HBB.out)).trans HBB.out)
                     have p0 := cell_step (bstep HBW.out hq) P0.out
                     go_simp
                     with_reducible rfl
                   simp only [Act.put, List.setIfInBounds_toArray, List.set_cons_zero, List.set_cons_succ])
              refine held_nil ?_
              intro w2 hb2
              have HBZ := Lib.hid hb2
              clear hb2
              go_wp2_with fail
              go_ret
              exact ⟨false, rfl, fun h => (by cases h), bstep HBW2.out HBZ.out⟩
            repeat first
              | (refine held_skip ?_ ?_; (· first | rfl | (go_simp; done)); simp only [Act.put, List.setIfInBounds_toArray, List.set_cons_zero, List.set_cons_succ])
              | (refine held_val (v := ?_) ?_ ?_ ?_
                 rotate_left
                 · first | rfl | (go_simp; done)
                 · intro wq hq
                   obtain ⟨c0, c1, c2, c3, c4, c5⟩ := cells6 ((hq.block _ (lt_of_block HBB.out)).trans HBB.out)
                   have p0 := cell_step (bstep HBW.out hq) P0.out
                   go_simp
                   with_reducible rfl
                 simp only [Act.put, List.setIfInBounds_toArray, List.set_cons_zero, List.set_cons_succ])
            cases A4
            rotate_left
            · repeat first
                | (refine held_skip ?_ ?_; (· first | rfl | (go_simp; done)); simp only [Act.put, List.setIfInBounds_toArray, List.set_cons_zero, List.set_cons_succ])
                | (refine held_val (v := ?_) ?_ ?_ ?_
                   rotate_left
                   · first | rfl | (go_simp; done)
                   · intro wq hq
                     obtain ⟨c0, c1, c2, c3, c4, c5⟩ := cells6 ((hq.block _ (lt_of_block HBB.out)).trans HBB.out)
                     have p0 := cell_step (bstep HBW.out hq) P0.out
                     go_simp
                     with_reducible rfl
                   simp only [Act.put, List.setIfInBounds_toArray, List.set_cons_zero, List.set_cons_succ])
              refine held_nil ?_
              intro w2 hb2
              have HBZ := Lib.hid hb2
              clear hb2
              go_wp2_with fail
              go_ret
              exact ⟨false, rfl, fun h => (by cases h), bstep HBW2.out HBZ.out⟩
            repeat first
              | (refine held_skip ?_ ?_; (· first | rfl | (go_simp; done)); simp only [Act.put, List.setIfInBounds_toArray, List.set_cons_zero, List.set_cons_succ])
              | (refine held_val (v := ?_) ?_ ?_ ?_
                 rotate_left
                 · first | rfl | (go_simp; done)
                 · intro wq hq
                   obtain ⟨c0, c1, c2, c3, c4, c5⟩ := cells6 ((hq.block _ (lt_of_block HBB.out)).trans HBB.out)
                   have p0 := cell_step (bstep HBW.out hq) P0.out
                   go_simp
                   with_reducible rfl
                 simp only [Act.put, List.setIfInBounds_toArray, List.set_cons_zero, List.set_cons_succ])
            cases A5
            rotate_left
            · repeat first
                | (refine held_skip ?_ ?_; (· first | rfl | (go_simp; done)); simp only [Act.put, List.setIfInBounds_toArray, List.set_cons_zero, List.set_cons_succ])
                | (refine held_val (v := ?_) ?_ ?_ ?_
                   rotate_left
                   · first | rfl | (go_simp; done)
                   · intro wq hq
                     obtain ⟨c0, c1, c2, c3, c4, c5⟩ := cells6 ((hq.block _ (lt_of_block HBB.out)).trans HBB.out)
                     have p0 := cell_step (bstep HBW.out hq) P0.out
                     go_simp
                     with_reducible rfl
                   simp only [Act.put, List.setIfInBounds_toArray, List.set_cons_zero, List.set_cons_succ])
              refine held_nil ?_
              intro w2 hb2
              have HBZ := Lib.hid hb2
              clear hb2
              go_wp2_with fail
              go_ret
              exact ⟨false, rfl, fun h => (by cases h), bstep HBW2.out HBZ.out⟩
            repeat first
              | (refine held_skip ?_ ?_; (· first | rfl | (go_simp; done)); simp only [Act.put, List.setIfInBounds_toArray, List.set_cons_zero, List.set_cons_succ])
              | (refine held_val (v := ?_) ?_ ?_ ?_
                 rotate_left
                 · first | rfl | (go_simp; done)
                 · intro wq hq
                   obtain ⟨c0, c1, c2, c3, c4, c5⟩ := cells6 ((hq.block _ (lt_of_block HBB.out)).trans HBB.out)
                   have p0 := cell_step (bstep HBW.out hq) P0.out
                   go_simp
                   with_reducible rfl
                 simp only [Act.put, List.setIfInBounds_toArray, List.set_cons_zero, List.set_cons_succ])
            cases A6
            rotate_left
            · repeat first
                | (refine held_skip ?_ ?_; (· first | rfl | (go_simp; done)); simp only [Act.put, List.setIfInBounds_toArray, List.set_cons_zero, List.set_cons_succ])
                | (refine held_val (v := ?_) ?_ ?_ ?_
                   rotate_left
                   · first | rfl | (go_simp; done)
                   · intro wq hq
                     obtain ⟨c0, c1, c2, c3, c4, c5⟩ := cells6 ((hq.block _ (lt_of_block HBB.out)).trans HBB.out)
                     have p0 := cell_step (bstep HBW.out hq) P0.out
                     go_simp
                     with_reducible rfl
                   simp only [Act.put, List.setIfInBounds_toArray, List.set_cons_zero, List.set_cons_succ])
              refine held_nil ?_
              intro w2 hb2
              have HBZ := Lib.hid hb2
              clear hb2
              go_wp2_with fail
              go_ret
              exact ⟨false, rfl, fun h => (by cases h), bstep HBW2.out HBZ.out⟩
            repeat first
              | (refine held_skip ?_ ?_; (· first | rfl | (go_simp; done)); simp only [Act.put, List.setIfInBounds_toArray, List.set_cons_zero, List.set_cons_succ])
              | (refine held_val (v := ?_) ?_ ?_ ?_
                 rotate_left
                 · first | rfl | (go_simp; done)
                 · intro wq hq
                   obtain ⟨c0, c1, c2, c3, c4, c5⟩ := cells6 ((hq.block _ (lt_of_block HBB.out)).trans HBB.out)
                   have p0 := cell_step (bstep HBW.out hq) P0.out
                   go_simp
                   with_reducible rfl
                 simp only [Act.put, List.setIfInBounds_toArray, List.set_cons_zero, List.set_cons_succ])
            cases A7
            rotate_left
            · repeat first
                | (refine held_skip ?_ ?_; (· first | rfl | (go_simp; done)); simp only [Act.put, List.setIfInBounds_toArray, List.set_cons_zero, List.set_cons_succ])
                | (refine held_val (v := ?_) ?_ ?_ ?_
                   rotate_left
                   · first | rfl | (go_simp; done)
                   · intro wq hq
                     obtain ⟨c0, c1, c2, c3, c4, c5⟩ := cells6 ((hq.block _ (lt_of_block HBB.out)).trans HBB.out)
                     have p0 := cell_step (bstep HBW.out hq) P0.out
                     go_simp
                     with_reducible rfl
                   simp only [Act.put, List.setIfInBounds_toArray, List.set_cons_zero, List.set_cons_succ])
              refine held_nil ?_
              intro w2 hb2
              have HBZ := Lib.hid hb2
              clear hb2
              go_wp2_with fail
              go_ret
              exact ⟨false, rfl, fun h => (by cases h), bstep HBW2.out HBZ.out⟩
            repeat first
              | (refine held_skip ?_ ?_; (· first | rfl | (go_simp; done)); simp only [Act.put, List.setIfInBounds_toArray, List.set_cons_zero, List.set_cons_succ])
              | (refine held_val (v := ?_) ?_ ?_ ?_
                 rotate_left
                 · first | rfl | (go_simp; done)
                 · intro wq hq
                   obtain ⟨c0, c1, c2, c3, c4, c5⟩ := cells6 ((hq.block _ (lt_of_block HBB.out)).trans HBB.out)
                   have p0 := cell_step (bstep HBW.out hq) P0.out
                   go_simp
                   with_reducible rfl
                 simp only [Act.put, List.setIfInBounds_toArray, List.set_cons_zero, List.set_cons_succ])
            cases A9
            rotate_left
            · refine held_nil ?_
              intro w2 hb2
              have HBZ := Lib.hid hb2
              clear hb2
              go_wp2_with fail
              go_ret
              exact ⟨false, rfl, fun h => (by cases h), bstep HBW2.out HBZ.out⟩
            refine held_nil ?_
            intro w2 hb2
            have HB2 := Lib.hid hb2
            have hbb := (hb2.block _ (lt_of_block HBB.out)).trans HBB.out
            obtain ⟨c0, c1, c2, c3, c4, c5⟩ := cells6 hbb
            have HBB2 := Lib.hid hbb
            clear hb2 hbb
            cases B1
            rotate_left
            · go_wp2_with fail
              go_ret
              exact ⟨false, rfl, fun h => (by cases h), bstep HBW2.out HB2.out⟩
            cases B2
            rotate_left
            · go_wp2_with fail
              go_ret
              exact ⟨false, rfl, fun h => (by cases h), bstep HBW2.out HB2.out⟩
            cases B3
            rotate_left
            · go_wp2_with fail
              go_ret
              exact ⟨false, rfl, fun h => (by cases h), bstep HBW2.out HB2.out⟩
            go_wp2_with fail
            clear c0 c1 c2 c3 c4 c5
            refine held_below (by kernel_rfl) (by kernel_rfl) ?_
            repeat first
              | (refine held_skip ?_ ?_; (· first | rfl | (go_simp; done)); simp only [Act.put, List.setIfInBounds_toArray, List.set_cons_zero, List.set_cons_succ])
              | (refine held_val (v := ?_) ?_ ?_ ?_
                 rotate_left
                 · first | rfl | (go_simp; done)
                 · intro wq hq
                   obtain ⟨c0, c1, c2, c3, c4, c5⟩ := cells6 ((hq.block _ (lt_of_block HBB2.out)).trans HBB2.out)
                   go_simp
                   with_reducible rfl
                 simp only [Act.put, List.setIfInBounds_toArray, List.set_cons_zero, List.set_cons_succ])
              | (refine held_call (v := ?_) (f := ?_) (args := ?_) ?_ ?_ ?_ ?_
                 rotate_left 3
                 · first | rfl | (go_simp; done)
                 · intro wq
                   go_simp
                   constructor
                   · rfl
                   · rfl
                 · intro wq hq
                   first
                     | (refine (rgood_is ya _ yc x.p G HGH.out rfl (by have := HPL.out; omega) wq (((HR.out.grow HBW.out).grow HB2.out).grow hq).pts).mono ?_
                        rintro e wn ⟨rfl, hb1⟩
                        constructor
                        · rfl
                        · exact bstep hq hb1)
                     | (refine (rend_is ya _ yc x.p E HE.out rfl (by have := HPL.out; omega) wq (((HR.out.grow HBW.out).grow HB2.out).grow hq).pts).mono ?_
                        rintro e wn ⟨rfl, hb1⟩
                        constructor
                        · rfl
                        · exact bstep hq hb1)
                 simp only [Act.put, List.setIfInBounds_toArray, List.set_cons_zero, List.set_cons_succ])
            cases A10
            rotate_left
            · repeat first
                | (refine held_skip ?_ ?_; (· first | rfl | (go_simp; done)); simp only [Act.put, List.setIfInBounds_toArray, List.set_cons_zero, List.set_cons_succ])
                | (refine held_val (v := ?_) ?_ ?_ ?_
                   rotate_left
                   · first | rfl | (go_simp; done)
                   · intro wq hq
                     obtain ⟨c0, c1, c2, c3, c4, c5⟩ := cells6 ((hq.block _ (lt_of_block HBB2.out)).trans HBB2.out)
                     go_simp
                     with_reducible rfl
                   simp only [Act.put, List.setIfInBounds_toArray, List.set_cons_zero, List.set_cons_succ])
                | (refine held_call (v := ?_) (f := ?_) (args := ?_) ?_ ?_ ?_ ?_
                   rotate_left 3
                   · first | rfl | (go_simp; done)
                   · intro wq
                     go_simp
                     constructor
                     · rfl
                     · rfl
                   · intro wq hq
                     first
                       | (refine (rgood_is ya _ yc x.p G HGH.out rfl (by have := HPL.out; omega) wq (((HR.out.grow HBW.out).grow HB2.out).grow hq).pts).mono ?_
                          rintro e wn ⟨rfl, hb1⟩
                          constructor
                          · rfl
                          · exact bstep hq hb1)
                       | (refine (rend_is ya _ yc x.p E HE.out rfl (by have := HPL.out; omega) wq (((HR.out.grow HBW.out).grow HB2.out).grow hq).pts).mono ?_
                          rintro e wn ⟨rfl, hb1⟩
                          constructor
                          · rfl
                          · exact bstep hq hb1)
                   simp only [Act.put, List.setIfInBounds_toArray, List.set_cons_zero, List.set_cons_succ])
              refine held_nil ?_
              intro w2 hb2
              have HBZ := Lib.hid hb2
              clear hb2
              go_wp2_with fail
              go_ret
              exact ⟨false, rfl, fun h => (by cases h), bstep (bstep HBW2.out HB2.out) HBZ.out⟩
            repeat first
              | (refine held_skip ?_ ?_; (· first | rfl | (go_simp; done)); simp only [Act.put, List.setIfInBounds_toArray, List.set_cons_zero, List.set_cons_succ])
              | (refine held_val (v := ?_) ?_ ?_ ?_
                 rotate_left
                 · first | rfl | (go_simp; done)
                 · intro wq hq
                   obtain ⟨c0, c1, c2, c3, c4, c5⟩ := cells6 ((hq.block _ (lt_of_block HBB2.out)).trans HBB2.out)
                   go_simp
                   with_reducible rfl
                 simp only [Act.put, List.setIfInBounds_toArray, List.set_cons_zero, List.set_cons_succ])
              | (refine held_call (v := ?_) (f := ?_) (args := ?_) ?_ ?_ ?_ ?_
                 rotate_left 3
                 · first | rfl | (go_simp; done)
                 · intro wq
                   go_simp
                   constructor
                   · rfl
                   · rfl
                 · intro wq hq
                   first
                     | (refine (rgood_is ya _ yc x.p G HGH.out rfl (by have := HPL.out; omega) wq (((HR.out.grow HBW.out).grow HB2.out).grow hq).pts).mono ?_
                        rintro e wn ⟨rfl, hb1⟩
                        constructor
                        · rfl
                        · exact bstep hq hb1)
                     | (refine (rend_is ya _ yc x.p E HE.out rfl (by have := HPL.out; omega) wq (((HR.out.grow HBW.out).grow HB2.out).grow hq).pts).mono ?_
                        rintro e wn ⟨rfl, hb1⟩
                        constructor
                        · rfl
                        · exact bstep hq hb1)
                 simp only [Act.put, List.setIfInBounds_toArray, List.set_cons_zero, List.set_cons_succ])
            cases A11
            rotate_left
            · repeat first
                | (refine held_skip ?_ ?_; (· first | rfl | (go_simp; done)); simp only [Act.put, List.setIfInBounds_toArray, List.set_cons_zero, List.set_cons_succ])
                | (refine held_val (v := ?_) ?_ ?_ ?_
                   rotate_left
                   · first | rfl | (go_simp; done)
                   · intro wq hq
                     obtain ⟨c0, c1, c2, c3, c4, c5⟩ := cells6 ((hq.block _ (lt_of_block HBB2.out)).trans HBB2.out)
                     go_simp
                     with_reducible rfl
                   simp only [Act.put, List.setIfInBounds_toArray, List.set_cons_zero, List.set_cons_succ])
                | (refine held_call (v := ?_) (f := ?_) (args := ?_) ?_ ?_ ?_ ?_
                   rotate_left 3
                   · first | rfl | (go_simp; done)
                   · intro wq
                     go_simp
                     constructor
                     · rfl
                     · rfl
                   · intro wq hq
                     first
                       | (refine (rgood_is ya _ yc x.p G HGH.out rfl (by have := HPL.out; omega) wq (((HR.out.grow HBW.out).grow HB2.out).grow hq).pts).mono ?_
                          rintro e wn ⟨rfl, hb1⟩
                          constructor
                          · rfl
                          · exact bstep hq hb1)
                       | (refine (rend_is ya _ yc x.p E HE.out rfl (by have := HPL.out; omega) wq (((HR.out.grow HBW.out).grow HB2.out).grow hq).pts).mono ?_
                          rintro e wn ⟨rfl, hb1⟩
                          constructor
                          · rfl
                          · exact bstep hq hb1)
                   simp only [Act.put, List.setIfInBounds_toArray, List.set_cons_zero, List.set_cons_succ])
              refine held_nil ?_
              intro w2 hb2
              have HBZ := Lib.hid hb2
              clear hb2
              go_wp2_with fail
              go_ret
              exact ⟨false, rfl, fun h => (by cases h), bstep (bstep HBW2.out HB2.out) HBZ.out⟩
            repeat first
              | (refine held_skip ?_ ?_; (· first | rfl | (go_simp; done)); simp only [Act.put, List.setIfInBounds_toArray, List.set_cons_zero, List.set_cons_succ])
              | (refine held_val (v := ?_) ?_ ?_ ?_
                 rotate_left
                 · first | rfl | (go_simp; done)
                 · intro wq hq
                   obtain ⟨c0, c1, c2, c3, c4, c5⟩ := cells6 ((hq.block _ (lt_of_block HBB2.out)).trans HBB2.out)
                   go_simp
                   with_reducible rfl
                 simp only [Act.put, List.setIfInBounds_toArray, List.set_cons_zero, List.set_cons_succ])
              | (refine held_call (v := ?_) (f := ?_) (args := ?_) ?_ ?_ ?_ ?_
                 rotate_left 3
                 · first | rfl | (go_simp; done)
                 · intro wq
                   go_simp
                   constructor
                   · rfl
                   · rfl
                 · intro wq hq
                   first
                     | (refine (rgood_is ya _ yc x.p G HGH.out rfl (by have := HPL.out; omega) wq (((HR.out.grow HBW.out).grow HB2.out).grow hq).pts).mono ?_
                        rintro e wn ⟨rfl, hb1⟩
                        constructor
                        · rfl
                        · exact bstep hq hb1)
                     | (refine (rend_is ya _ yc x.p E HE.out rfl (by have := HPL.out; omega) wq (((HR.out.grow HBW.out).grow HB2.out).grow hq).pts).mono ?_
                        rintro e wn ⟨rfl, hb1⟩
                        constructor
                        · rfl
                        · exact bstep hq hb1)
                 simp only [Act.put, List.setIfInBounds_toArray, List.set_cons_zero, List.set_cons_succ])
            cases G
            skip
            · repeat first
                | (refine held_skip ?_ ?_; (· first | rfl | (go_simp; done)); simp only [Act.put, List.setIfInBounds_toArray, List.set_cons_zero, List.set_cons_succ])
                | (refine held_val (v := ?_) ?_ ?_ ?_
                   rotate_left
                   · first | rfl | (go_simp; done)
                   · intro wq hq
                     obtain ⟨c0, c1, c2, c3, c4, c5⟩ := cells6 ((hq.block _ (lt_of_block HBB2.out)).trans HBB2.out)
                     go_simp
                     with_reducible rfl
                   simp only [Act.put, List.setIfInBounds_toArray, List.set_cons_zero, List.set_cons_succ])
                | (refine held_call (v := ?_) (f := ?_) (args := ?_) ?_ ?_ ?_ ?_
                   rotate_left 3
                   · first | rfl | (go_simp; done)
                   · intro wq
                     go_simp
                     constructor
                     · rfl
                     · rfl
                   · intro wq hq
                     first
                       | (refine (rgood_is ya _ yc x.p G HGH.out rfl (by have := HPL.out; omega) wq (((HR.out.grow HBW.out).grow HB2.out).grow hq).pts).mono ?_
                          rintro e wn ⟨rfl, hb1⟩
                          constructor
                          · rfl
                          · exact bstep hq hb1)
                       | (refine (rend_is ya _ yc x.p E HE.out rfl (by have := HPL.out; omega) wq (((HR.out.grow HBW.out).grow HB2.out).grow hq).pts).mono ?_
                          rintro e wn ⟨rfl, hb1⟩
                          constructor
                          · rfl
                          · exact bstep hq hb1)
                   simp only [Act.put, List.setIfInBounds_toArray, List.set_cons_zero, List.set_cons_succ])
              refine held_nil ?_
              intro w2 hb2
              have HBZ := Lib.hid hb2
              clear hb2
              go_wp2_with fail
              go_ret
              exact ⟨false, rfl, fun h => (by cases h), bstep (bstep HBW2.out HB2.out) HBZ.out⟩
            repeat first
              | (refine held_skip ?_ ?_; (· first | rfl | (go_simp; done)); simp only [Act.put, List.setIfInBounds_toArray, List.set_cons_zero, List.set_cons_succ])
              | (refine held_val (v := ?_) ?_ ?_ ?_
                 rotate_left
                 · first | rfl | (go_simp; done)
                 · intro wq hq
                   obtain ⟨c0, c1, c2, c3, c4, c5⟩ := cells6 ((hq.block _ (lt_of_block HBB2.out)).trans HBB2.out)
                   go_simp
                   with_reducible rfl
                 simp only [Act.put, List.setIfInBounds_toArray, List.set_cons_zero, List.set_cons_succ])
              | (refine held_call (v := ?_) (f := ?_) (args := ?_) ?_ ?_ ?_ ?_
                 rotate_left 3
                 · first | rfl | (go_simp; done)
                 · intro wq
                   go_simp
                   constructor
                   · rfl
                   · rfl
                 · intro wq hq
                   first
                     | (refine (rgood_is ya _ yc x.p G HGH.out rfl (by have := HPL.out; omega) wq (((HR.out.grow HBW.out).grow HB2.out).grow hq).pts).mono ?_
                        rintro e wn ⟨rfl, hb1⟩
                        constructor
                        · rfl
                        · exact bstep hq hb1)
                     | (refine (rend_is ya _ yc x.p E HE.out rfl (by have := HPL.out; omega) wq (((HR.out.grow HBW.out).grow HB2.out).grow hq).pts).mono ?_
                        rintro e wn ⟨rfl, hb1⟩
                        constructor
                        · rfl
                        · exact bstep hq hb1)
                 simp only [Act.put, List.setIfInBounds_toArray, List.set_cons_zero, List.set_cons_succ])
            cases A12
            rotate_left
            · refine held_nil ?_
              intro w2 hb2
              have HBZ := Lib.hid hb2
              clear hb2
              go_wp2_with fail
              go_ret
              exact ⟨false, rfl, fun h => (by cases h), bstep (bstep HBW2.out HB2.out) HBZ.out⟩
            refine held_nil ?_
            intro w2 hb2
            have HB3 := Lib.hid hb2
            clear hb2
            go_wp2_with fail
            have hz := HR.out
            have hokx : OkX nx x := okx_of hz (.inl rfl) HL.out HN.out a1 a2 a4 a5 a6 a7 s0 a9 a10 a11 HGH.out HE.out a12 (fun _ => ⟨b1, b2, b3⟩)
            have hnew : OkI xs nx k := by
              intro x' hx'
              obtain rfl : x = x' := by have := HXK.out; rw [this] at hx'; simpa using hx'
              refine ⟨hokx, fun p h0 hp => ?_⟩
              exact HPV.out p hp (by have := of_decide_eq_false a3; omega)
            exact ⟨⟨k + 1, by omega, by simp, fun j hj => (by rcases Nat.lt_succ_iff_lt_or_eq.1 hj with h | rfl; exact HOK.out j h; exact hnew), bstep (bstep HBW2.out HB2.out) HB3.out⟩, by simp [intOf]; omega⟩
        by_cases hk2 : yk = 2
        · subst hk2
          clear hk1
          as_aux_lemma =>
            go_wp2_with fail
            clear c0 c1 c2 c3 c4 c5
            generalize wr.alloc (.cells #[.int .i64 yi, .int .i64 2, .int .i64 yl, .int .i64 yo, .int .i64 ys', .slice ya x.p.length yc] 62) = w1 at *
            refine held_below (by kernel_rfl) (by kernel_rfl) ?_
            repeat first
              | (refine held_skip ?_ ?_; (· first | rfl | (go_simp; done)); simp only [Act.put, List.setIfInBounds_toArray, List.set_cons_zero, List.set_cons_succ])
              | (refine held_val (v := ?_) ?_ ?_ ?_
                 rotate_left
                 · first | rfl | (go_simp; done)
                 · intro wq hq
                   obtain ⟨c0, c1, c2, c3, c4, c5⟩ := cells6 ((hq.block _ (lt_of_block HBB.out)).trans HBB.out)
                   have p0 := cell_step (bstep HBW.out hq) P0.out
                   go_simp
                   with_reducible rfl
                 simp only [Act.put, List.setIfInBounds_toArray, List.set_cons_zero, List.set_cons_succ])
            cases A1
            rotate_left
            · repeat first
                | (refine held_skip ?_ ?_; (· first | rfl | (go_simp; done)); simp only [Act.put, List.setIfInBounds_toArray, List.set_cons_zero, List.set_cons_succ])
                | (refine held_val (v := ?_) ?_ ?_ ?_
                   rotate_left
                   · first | rfl | (go_simp; done)
                   · intro wq hq
                     obtain ⟨c0, c1, c2, c3, c4, c5⟩ := cells6 ((hq.block _ (lt_of_block HBB.out)).trans HBB.out)
                     have p0 := cell_step (bstep HBW.out hq) P0.out
                     go_simp
                     with_reducible rfl
                   simp only [Act.put, List.setIfInBounds_toArray, List.set_cons_zero, List.set_cons_succ])
              refine held_nil ?_
              intro w2 hb2
              have HBZ := Lib.hid hb2
              clear hb2
              go_wp2_with fail
              go_ret
              exact ⟨false, rfl, fun h => (by cases h), bstep HBW2.out HBZ.out⟩
            repeat first
              | (refine held_skip ?_ ?_; (· first | rfl | (go_simp; done)); simp only [Act.put, List.setIfInBounds_toArray, List.set_cons_zero, List.set_cons_succ])
              | (refine held_val (v := ?_) ?_ ?_ ?_
                 rotate_left
                 · first | rfl | (go_simp; done)
                 · intro wq hq
                   obtain ⟨c0, c1, c2, c3, c4, c5⟩ := cells6 ((hq.block _ (lt_of_block HBB.out)).trans HBB.out)
                   have p0 := cell_step (bstep HBW.out hq) P0.out
                   go_simp
                   with_reducible rfl
                 simp only [Act.put, List.setIfInBounds_toArray, List.set_cons_zero, List.set_cons_succ])
            cases A2
            rotate_left
            · repeat first
                | (refine held_skip ?_ ?_; (· first | rfl | (go_simp; done)); simp only [Act.put, List.setIfInBounds_toArray, List.set_cons_zero, List.set_cons_succ])
                | (refine held_val (v := ?_) ?_ ?_ ?_
                   rotate_left
                   · first | rfl | (go_simp; done)
                   · intro wq hq
                     obtain ⟨c0, c1, c2, c3, c4, c5⟩ := cells6 ((hq.block _ (lt_of_block HBB.out)).trans HBB.out)
                     have p0 := cell_step (bstep HBW.out hq) P0.out
                     go_simp
                     with_reducible rfl
                   simp only [Act.put, List.setIfInBounds_toArray, List.set_cons_zero, List.set_cons_succ])
              refine held_nil ?_
              intro w2 hb2
              have HBZ := Lib.hid hb2
              clear hb2
              go_wp2_with fail
              go_ret
              exact ⟨false, rfl, fun h => (by cases h), bstep HBW2.out HBZ.out⟩
            repeat first
              | (refine held_skip ?_ ?_; (· first | rfl | (go_simp; done)); simp only [Act.put, List.setIfInBounds_toArray, List.set_cons_zero, List.set_cons_succ])
              | (refine held_val (v := ?_) ?_ ?_ ?_
                 rotate_left
                 · first | rfl | (go_simp; done)
                 · intro wq hq
                   obtain ⟨c0, c1, c2, c3, c4, c5⟩ := cells6 ((hq.block _ (lt_of_block HBB.out)).trans HBB.out)
                   have p0 := cell_step (bstep HBW.out hq) P0.out
                   go_simp
                   with_reducible rfl
                 simp only [Act.put, List.setIfInBounds_toArray, List.set_cons_zero, List.set_cons_succ])
            cases A3
            rotate_left
            · repeat first
                | (refine held_skip ?_ ?_; (· first | rfl | (go_simp; done)); simp only [Act.put, List.setIfInBounds_toArray, List.set_cons_zero, List.set_cons_succ])
                | (refine held_val (v := ?_) ?_ ?_ ?_
                   rotate_left
                   · first | rfl | (go_simp; done)
                   · intro wq hq
                     obtain ⟨c0, c1, c2, c3, c4, c5⟩ := cells6 ((hq.block _ (lt_of_block HBB.out)).trans HBB.out)
                     have p0 := cell_step (bstep HBW.out hq) P0.out
                     go_simp
                     with_reducible rfl
                   simp only [Act.put, List.setIfInBounds_toArray, List.set_cons_zero, List.set_cons_succ])
              refine held_nil ?_
              intro w2 hb2
              have HBZ := Lib.hid hb2
              clear hb2
              go_wp2_with fail
              go_ret
              exact ⟨false, rfl, fun h => (by cases h), bstep HBW2.out HBZ.out⟩
            repeat first
              | (refine held_skip ?_ ?_; (· first | rfl | (go_simp; done)); simp only [Act.put, List.setIfInBounds_toArray, List.set_cons_zero, List.set_cons_succ])
              | (refine held_val (v := ?_) ?_ ?_ ?_
                 rotate_left
                 · first | rfl | (go_simp; done)
                 · intro wq hq
                   obtain ⟨c0, c1, c2, c3, c4, c5⟩ := cells6 ((hq.block _ (lt_of_block HBB.out)).trans HBB.out)
                   have p0 := cell_step (bstep HBW.out hq) P0.out
                   go_simp
                   with_reducible rfl
                 simp only [Act.put, List.setIfInBounds_toArray, List.set_cons_zero, List.set_cons_succ])
            cases A4
            rotate_left
            · repeat first
                | (refine held_skip ?_ ?_; (· first | rfl | (go_simp; done)); simp only [Act.put, List.setIfInBounds_toArray, List.set_cons_zero, List.set_cons_succ])
                | (refine held_val (v := ?_) ?_ ?_ ?_
                   rotate_left
                   · first | rfl | (go_simp; done)
                   · intro wq hq
                     obtain ⟨c0, c1, c2, c3, c4, c5⟩ := cells6 ((hq.block _ (lt_of_block HBB.out)).trans HBB.out)
                     have p0 := cell_step (bstep HBW.out hq) P0.out
                     go_simp
                     with_reducible rfl
                   simp only [Act.put, List.setIfInBounds_toArray, List.set_cons_zero, List.set_cons_succ])
              refine held_nil ?_
              intro w2 hb2
              have HBZ := Lib.hid hb2
              clear hb2
              go_wp2_with fail
              go_ret
              exact ⟨false, rfl, fun h => (by cases h), bstep HBW2.out HBZ.out⟩
            repeat first
              | (refine held_skip ?_ ?_; (· first | rfl | (go_simp; done)); simp only [Act.put, List.setIfInBounds_toArray, List.set_cons_zero, List.set_cons_succ])
              | (refine held_val (v := ?_) ?_ ?_ ?_
                 rotate_left
                 · first | rfl | (go_simp; done)
                 · intro wq hq
                   obtain ⟨c0, c1, c2, c3, c4, c5⟩ := cells6 ((hq.block _ (lt_of_block HBB.out)).trans HBB.out)
                   have p0 := cell_step (bstep HBW.out hq) P0.out
                   go_simp
                   with_reducible rfl
                 simp only [Act.put, List.setIfInBounds_toArray, List.set_cons_zero, List.set_cons_succ])
            cases A5
            rotate_left
            · repeat first
                | (refine held_skip ?_ ?_; (· first | rfl | (go_simp; done)); simp only [Act.put, List.setIfInBounds_toArray, List.set_cons_zero, List.set_cons_succ])
                | (refine held_val (v := ?_) ?_ ?_ ?_
                   rotate_left
                   · first | rfl | (go_simp; done)
                   · intro wq hq
                     obtain ⟨c0, c1, c2, c3, c4, c5⟩ := cells6 ((hq.block _ (lt_of_block HBB.out)).trans HBB.out)
                     have p0 := cell_step (bstep HBW.out hq) P0.out
                     go_simp
                     with_reducible rfl
                   simp only [Act.put, List.setIfInBounds_toArray, List.set_cons_zero, List.set_cons_succ])
              refine held_nil ?_
              intro w2 hb2
              have HBZ := Lib.hid hb2
              clear hb2
              go_wp2_with fail
              go_ret
              exact ⟨false, rfl, fun h => (by cases h), bstep HBW2.out HBZ.out⟩
            repeat first
              | (refine held_skip ?_ ?_; (· first | rfl | (go_simp; done)); simp only [Act.put, List.setIfInBounds_toArray, List.set_cons_zero, List.set_cons_succ])
              | (refine held_val (v := ?_) ?_ ?_ ?_
                 rotate_left
                 · first | rfl | (go_simp; done)
                 · intro wq hq
                   obtain ⟨c0, c1, c2, c3, c4, c5⟩ := cells6 ((hq.block _ (lt_of_block HBB.out)).trans HBB.out)
                   have p0 := cell_step (bstep HBW.out hq) P0.out
                   go_simp
                   with_reducible rfl
                 simp only [Act.put, List.setIfInBounds_toArray, List.set_cons_zero, List.set_cons_succ])
            cases A6
            rotate_left
            · repeat first
                | (refine held_skip ?_ ?_; (· first | rfl | (go_simp; done)); simp only [Act.put, List.setIfInBounds_toArray, List.set_cons_zero, List.set_cons_succ])
                | (refine held_val (v := ?_) ?_ ?_ ?_
                   rotate_left
                   · first | rfl | (go_simp; done)
                   · intro wq hq
                     obtain ⟨c0, c1, c2, c3, c4, c5⟩ := cells6 ((hq.block _ (lt_of_block HBB.out)).trans HBB.out)
                     have p0 := cell_step (bstep HBW.out hq) P0.out
                     go_simp
                     with_reducible rfl
                   simp only [Act.put, List.setIfInBounds_toArray, List.set_cons_zero, List.set_cons_succ])
              refine held_nil ?_
              intro w2 hb2
              have HBZ := Lib.hid hb2
              clear hb2
              go_wp2_with fail
              go_ret
              exact ⟨false, rfl, fun h => (by cases h), bstep HBW2.out HBZ.out⟩
            repeat first
              | (refine held_skip ?_ ?_; (· first | rfl | (go_simp; done)); simp only [Act.put, List.setIfInBounds_toArray, List.set_cons_zero, List.set_cons_succ])
              | (refine held_val (v := ?_) ?_ ?_ ?_
                 rotate_left
                 · first | rfl | (go_simp; done)
                 · intro wq hq
                   obtain ⟨c0, c1, c2, c3, c4, c5⟩ := cells6 ((hq.block _ (lt_of_block HBB.out)).trans HBB.out)
                   have p0 := cell_step (bstep HBW.out hq) P0.out
                   go_simp
                   with_reducible rfl
                 simp only [Act.put, List.setIfInBounds_toArray, List.set_cons_zero, List.set_cons_succ])
            cases A7
            rotate_left
            · repeat first
                | (refine held_skip ?_ ?_; (· first | rfl | (go_simp; done)); simp only [Act.put, List.setIfInBounds_toArray, List.set_cons_zero, List.set_cons_succ])
                | (refine held_val (v := ?_) ?_ ?_ ?_
                   rotate_left
                   · first | rfl | (go_simp; done)
                   · intro wq hq
                     obtain ⟨c0, c1, c2, c3, c4, c5⟩ := cells6 ((hq.block _ (lt_of_block HBB.out)).trans HBB.out)
                     have p0 := cell_step (bstep HBW.out hq) P0.out
                     go_simp
                     with_reducible rfl
                   simp only [Act.put, List.setIfInBounds_toArray, List.set_cons_zero, List.set_cons_succ])
              refine held_nil ?_
              intro w2 hb2
              have HBZ := Lib.hid hb2
              clear hb2
              go_wp2_with fail
              go_ret
              exact ⟨false, rfl, fun h => (by cases h), bstep HBW2.out HBZ.out⟩
            repeat first
              | (refine held_skip ?_ ?_; (· first | rfl | (go_simp; done)); simp only [Act.put, List.setIfInBounds_toArray, List.set_cons_zero, List.set_cons_succ])
              | (refine held_val (v := ?_) ?_ ?_ ?_
                 rotate_left
                 · first | rfl | (go_simp; done)
                 · intro wq hq
                   obtain ⟨c0, c1, c2, c3, c4, c5⟩ := cells6 ((hq.block _ (lt_of_block HBB.out)).trans HBB.out)
                   have p0 := cell_step (bstep HBW.out hq) P0.out
                   go_simp
                   with_reducible rfl
                 simp only [Act.put, List.setIfInBounds_toArray, List.set_cons_zero, List.set_cons_succ])
            cases A9
            rotate_left
            · refine held_nil ?_
              intro w2 hb2
              have HBZ := Lib.hid hb2
              clear hb2
              go_wp2_with fail
              go_ret
              exact ⟨false, rfl, fun h => (by cases h), bstep HBW2.out HBZ.out⟩
            refine held_nil ?_
            intro w2 hb2
            have HB2 := Lib.hid hb2
            have hbb := (hb2.block _ (lt_of_block HBB.out)).trans HBB.out
            obtain ⟨c0, c1, c2, c3, c4, c5⟩ := cells6 hbb
            have HBB2 := Lib.hid hbb
            clear hb2 hbb
            go_wp2_with fail
            clear c0 c1 c2 c3 c4 c5
            refine held_below (by kernel_rfl) (by kernel_rfl) ?_
            repeat first
              | (refine held_skip ?_ ?_; (· first | rfl | (go_simp; done)); simp only [Act.put, List.setIfInBounds_toArray, List.set_cons_zero, List.set_cons_succ])
              | (refine held_val (v := ?_) ?_ ?_ ?_
                 rotate_left
                 · first | rfl | (go_simp; done)
                 · intro wq hq
                   obtain ⟨c0, c1, c2, c3, c4, c5⟩ := cells6 ((hq.block _ (lt_of_block HBB2.out)).trans HBB2.out)
                   go_simp
                   with_reducible rfl
                 simp only [Act.put, List.setIfInBounds_toArray, List.set_cons_zero, List.set_cons_succ])
              | (refine held_call (v := ?_) (f := ?_) (args := ?_) ?_ ?_ ?_ ?_
                 rotate_left 3
                 · first | rfl | (go_simp; done)
                 · intro wq
                   go_simp
                   constructor
                   · rfl
                   · rfl
                 · intro wq hq
                   first
                     | (refine (rgood_is ya _ yc x.p G HGH.out rfl (by have := HPL.out; omega) wq (((HR.out.grow HBW.out).grow HB2.out).grow hq).pts).mono ?_
                        rintro e wn ⟨rfl, hb1⟩
                        constructor
                        · rfl
                        · exact bstep hq hb1)
                     | (refine (rend_is ya _ yc x.p E HE.out rfl (by have := HPL.out; omega) wq (((HR.out.grow HBW.out).grow HB2.out).grow hq).pts).mono ?_
                        rintro e wn ⟨rfl, hb1⟩
                        constructor
                        · rfl
                        · exact bstep hq hb1)
                 simp only [Act.put, List.setIfInBounds_toArray, List.set_cons_zero, List.set_cons_succ])
            cases A10
            rotate_left
            · repeat first
                | (refine held_skip ?_ ?_; (· first | rfl | (go_simp; done)); simp only [Act.put, List.setIfInBounds_toArray, List.set_cons_zero, List.set_cons_succ])
                | (refine held_val (v := ?_) ?_ ?_ ?_
                   rotate_left
                   · first | rfl | (go_simp; done)
                   · intro wq hq
                     obtain ⟨c0, c1, c2, c3, c4, c5⟩ := cells6 ((hq.block _ (lt_of_block HBB2.out)).trans HBB2.out)
                     go_simp
                     with_reducible rfl
                   simp only [Act.put, List.setIfInBounds_toArray, List.set_cons_zero, List.set_cons_succ])
                | (refine held_call (v := ?_) (f := ?_) (args := ?_) ?_ ?_ ?_ ?_
                   rotate_left 3
                   · first | rfl | (go_simp; done)
                   · intro wq
                     go_simp
                     constructor
                     · rfl
                     · rfl
                   · intro wq hq
                     first
                       | (refine (rgood_is ya _ yc x.p G HGH.out rfl (by have := HPL.out; omega) wq (((HR.out.grow HBW.out).grow HB2.out).grow hq).pts).mono ?_
                          rintro e wn ⟨rfl, hb1⟩
                          constructor
                          · rfl
                          · exact bstep hq hb1)
                       | (refine (rend_is ya _ yc x.p E HE.out rfl (by have := HPL.out; omega) wq (((HR.out.grow HBW.out).grow HB2.out).grow hq).pts).mono ?_
                          rintro e wn ⟨rfl, hb1⟩
                          constructor
                          · rfl
                          · exact bstep hq hb1)
                   simp only [Act.put, List.setIfInBounds_toArray, List.set_cons_zero, List.set_cons_succ])
              refine held_nil ?_
              intro w2 hb2
              have HBZ := Lib.hid hb2
              clear hb2
              go_wp2_with fail
              go_ret
              exact ⟨false, rfl, fun h => (by cases h), bstep (bstep HBW2.out HB2.out) HBZ.out⟩
            repeat first
              | (refine held_skip ?_ ?_; (· first | rfl | (go_simp; done)); simp only [Act.put, List.setIfInBounds_toArray, List.set_cons_zero, List.set_cons_succ])
              | (refine held_val (v := ?_) ?_ ?_ ?_
                 rotate_left
                 · first | rfl | (go_simp; done)
                 · intro wq hq
                   obtain ⟨c0, c1, c2, c3, c4, c5⟩ := cells6 ((hq.block _ (lt_of_block HBB2.out)).trans HBB2.out)
                   go_simp
                   with_reducible rfl
                 simp only [Act.put, List.setIfInBounds_toArray, List.set_cons_zero, List.set_cons_succ])
              | (refine held_call (v := ?_) (f := ?_) (args := ?_) ?_ ?_ ?_ ?_
                 rotate_left 3
                 · first | rfl | (go_simp; done)
                 · intro wq
                   go_simp
                   constructor
                   · rfl
                   · rfl
                 · intro wq hq
                   first
                     | (refine (rgood_is ya _ yc x.p G HGH.out rfl (by have := HPL.out; omega) wq (((HR.out.grow HBW.out).grow HB2.out).grow hq).pts).mono ?_
                        rintro e wn ⟨rfl, hb1⟩
                        constructor
                        · rfl
                        · exact bstep hq hb1)
                     | (refine (rend_is ya _ yc x.p E HE.out rfl (by have := HPL.out; omega) wq (((HR.out.grow HBW.out).grow HB2.out).grow hq).pts).mono ?_
                        rintro e wn ⟨rfl, hb1⟩
                        constructor
                        · rfl
                        · exact bstep hq hb1)
                 simp only [Act.put, List.setIfInBounds_toArray, List.set_cons_zero, List.set_cons_succ])
            cases A11
            rotate_left
            · repeat first
                | (refine held_skip ?_ ?_; (· first | rfl | (go_simp; done)); simp only [Act.put, List.setIfInBounds_toArray, List.set_cons_zero, List.set_cons_succ])
                | (refine held_val (v := ?_) ?_ ?_ ?_
                   rotate_left
                   · first | rfl | (go_simp; done)
                   · intro wq hq
                     obtain ⟨c0, c1, c2, c3, c4, c5⟩ := cells6 ((hq.block _ (lt_of_block HBB2.out)).trans HBB2.out)
                     go_simp
                     with_reducible rfl
                   simp only [Act.put, List.setIfInBounds_toArray, List.set_cons_zero, List.set_cons_succ])
                | (refine held_call (v := ?_) (f := ?_) (args := ?_) ?_ ?_ ?_ ?_
                   rotate_left 3
                   · first | rfl | (go_simp; done)
                   · intro wq
                     go_simp
                     constructor
                     · rfl
                     · rfl
                   · intro wq hq
                     first
                       | (refine (rgood_is ya _ yc x.p G HGH.out rfl (by have := HPL.out; omega) wq (((HR.out.grow HBW.out).grow HB2.out).grow hq).pts).mono ?_
                          rintro e wn ⟨rfl, hb1⟩
                          constructor
                          · rfl
                          · exact bstep hq hb1)
                       | (refine (rend_is ya _ yc x.p E HE.out rfl (by have := HPL.out; omega) wq (((HR.out.grow HBW.out).grow HB2.out).grow hq).pts).mono ?_
                          rintro e wn ⟨rfl, hb1⟩
                          constructor
                          · rfl
                          · exact bstep hq hb1)
                   simp only [Act.put, List.setIfInBounds_toArray, List.set_cons_zero, List.set_cons_succ])
              refine held_nil ?_
              intro w2 hb2
              have HBZ := Lib.hid hb2
              clear hb2
              go_wp2_with fail
              go_ret
              exact ⟨false, rfl, fun h => (by cases h), bstep (bstep HBW2.out HB2.out) HBZ.out⟩
            repeat first
              | (refine held_skip ?_ ?_; (· first | rfl | (go_simp; done)); simp only [Act.put, List.setIfInBounds_toArray, List.set_cons_zero, List.set_cons_succ])
              | (refine held_val (v := ?_) ?_ ?_ ?_
                 rotate_left
                 · first | rfl | (go_simp; done)
                 · intro wq hq
                   obtain ⟨c0, c1, c2, c3, c4, c5⟩ := cells6 ((hq.block _ (lt_of_block HBB2.out)).trans HBB2.out)
                   go_simp
                   with_reducible rfl
                 simp only [Act.put, List.setIfInBounds_toArray, List.set_cons_zero, List.set_cons_succ])
              | (refine held_call (v := ?_) (f := ?_) (args := ?_) ?_ ?_ ?_ ?_
                 rotate_left 3
                 · first | rfl | (go_simp; done)
                 · intro wq
                   go_simp
                   constructor
                   · rfl
                   · rfl
                 · intro wq hq
                   first
                     | (refine (rgood_is ya _ yc x.p G HGH.out rfl (by have := HPL.out; omega) wq (((HR.out.grow HBW.out).grow HB2.out).grow hq).pts).mono ?_
                        rintro e wn ⟨rfl, hb1⟩
                        constructor
                        · rfl
                        · exact bstep hq hb1)
                     | (refine (rend_is ya _ yc x.p E HE.out rfl (by have := HPL.out; omega) wq (((HR.out.grow HBW.out).grow HB2.out).grow hq).pts).mono ?_
                        rintro e wn ⟨rfl, hb1⟩
                        constructor
                        · rfl
                        · exact bstep hq hb1)
                 simp only [Act.put, List.setIfInBounds_toArray, List.set_cons_zero, List.set_cons_succ])
            cases G
            skip
            · repeat first
                | (refine held_skip ?_ ?_; (· first | rfl | (go_simp; done)); simp only [Act.put, List.setIfInBounds_toArray, List.set_cons_zero, List.set_cons_succ])
                | (refine held_val (v := ?_) ?_ ?_ ?_
                   rotate_left
                   · first | rfl | (go_simp; done)
                   · intro wq hq
                     obtain ⟨c0, c1, c2, c3, c4, c5⟩ := cells6 ((hq.block _ (lt_of_block HBB2.out)).trans HBB2.out)
                     go_simp
                     with_reducible rfl
                   simp only [Act.put, List.setIfInBounds_toArray, List.set_cons_zero, List.set_cons_succ])
                | (refine held_call (v := ?_) (f := ?_) (args := ?_) ?_ ?_ ?_ ?_
                   rotate_left 3
                   · first | rfl | (go_simp; done)
                   · intro wq
                     go_simp
                     constructor
                     · rfl
                     · rfl
                   · intro wq hq
                     first
                       | (refine (rgood_is ya _ yc x.p G HGH.out rfl (by have := HPL.out; omega) wq (((HR.out.grow HBW.out).grow HB2.out).grow hq).pts).mono ?_
                          rintro e wn ⟨rfl, hb1⟩
                          constructor
                          · rfl
                          · exact bstep hq hb1)
                       | (refine (rend_is ya _ yc x.p E HE.out rfl (by have := HPL.out; omega) wq (((HR.out.grow HBW.out).grow HB2.out).grow hq).pts).mono ?_
                          rintro e wn ⟨rfl, hb1⟩
                          constructor
                          · rfl
                          · exact bstep hq hb1)
                   simp only [Act.put, List.setIfInBounds_toArray, List.set_cons_zero, List.set_cons_succ])
              refine held_nil ?_
              intro w2 hb2
              have HBZ := Lib.hid hb2
              clear hb2
              go_wp2_with fail
              go_ret
              exact ⟨false, rfl, fun h => (by cases h), bstep (bstep HBW2.out HB2.out) HBZ.out⟩
            repeat first
              | (refine held_skip ?_ ?_; (· first | rfl | (go_simp; done)); simp only [Act.put, List.setIfInBounds_toArray, List.set_cons_zero, List.set_cons_succ])
              | (refine held_val (v := ?_) ?_ ?_ ?_
                 rotate_left
                 · first | rfl | (go_simp; done)
                 · intro wq hq
                   obtain ⟨c0, c1, c2, c3, c4, c5⟩ := cells6 ((hq.block _ (lt_of_block HBB2.out)).trans HBB2.out)
                   go_simp
                   with_reducible rfl
                 simp only [Act.put, List.setIfInBounds_toArray, List.set_cons_zero, List.set_cons_succ])
              | (refine held_call (v := ?_) (f := ?_) (args := ?_) ?_ ?_ ?_ ?_
                 rotate_left 3
                 · first | rfl | (go_simp; done)
                 · intro wq
                   go_simp
                   constructor
                   · rfl
                   · rfl
                 · intro wq hq
                   first
                     | (refine (rgood_is ya _ yc x.p G HGH.out rfl (by have := HPL.out; omega) wq (((HR.out.grow HBW.out).grow HB2.out).grow hq).pts).mono ?_
                        rintro e wn ⟨rfl, hb1⟩
                        constructor
                        · rfl
                        · exact bstep hq hb1)
                     | (refine (rend_is ya _ yc x.p E HE.out rfl (by have := HPL.out; omega) wq (((HR.out.grow HBW.out).grow HB2.out).grow hq).pts).mono ?_
                        rintro e wn ⟨rfl, hb1⟩
                        constructor
                        · rfl
                        · exact bstep hq hb1)
                 simp only [Act.put, List.setIfInBounds_toArray, List.set_cons_zero, List.set_cons_succ])
            cases A12
            rotate_left
            · refine held_nil ?_
              intro w2 hb2
              have HBZ := Lib.hid hb2
              clear hb2
              go_wp2_with fail
              go_ret
              exact ⟨false, rfl, fun h => (by cases h), bstep (bstep HBW2.out HB2.out) HBZ.out⟩
            refine held_nil ?_
            intro w2 hb2
            have HB3 := Lib.hid hb2
            clear hb2
            go_wp2_with fail
            have hz := HR.out
            have hokx : OkX nx x := okx_of hz (.inr rfl) HL.out HN.out a1 a2 a4 a5 a6 a7 s0 a9 a10 a11 HGH.out HE.out a12 (fun e => absurd e (by decide))
            have hnew : OkI xs nx k := by
              intro x' hx'
              obtain rfl : x = x' := by have := HXK.out; rw [this] at hx'; simpa using hx'
              refine ⟨hokx, fun p h0 hp => ?_⟩
              exact HPV.out p hp (by have := of_decide_eq_false a3; omega)
            exact ⟨⟨k + 1, by omega, by simp, fun j hj => (by rcases Nat.lt_succ_iff_lt_or_eq.1 hj with h | rfl; exact HOK.out j h; exact hnew), bstep (bstep HBW2.out HB2.out) HB3.out⟩, by simp [intOf]; omega⟩
        have t1 : (yk != 1) = true := by simp; exact hk1
        have t2 : (yk != 2) = true := by simp; exact hk2
        clear hk1 hk2
        as_aux_lemma =>
          go_wp2_with fail
          clear c0 c1 c2 c3 c4 c5
          generalize wr.alloc (.cells #[.int .i64 yi, .int .i64 yk, .int .i64 yl, .int .i64 yo, .int .i64 ys', .slice ya x.p.length yc] 62) = w1 at *
          refine held_below (by kernel_rfl) (by kernel_rfl) ?_
          repeat first
            | (refine held_skip ?_ ?_; (· first | rfl | (go_simp; done)); simp only [Act.put, List.setIfInBounds_toArray, List.set_cons_zero, List.set_cons_succ])
            | (refine held_val (v := ?_) ?_ ?_ ?_
               rotate_left
               · first | rfl | (go_simp; done)
               · intro wq hq
                 obtain ⟨c0, c1, c2, c3, c4, c5⟩ := cells6 ((hq.block _ (lt_of_block HBB.out)).trans HBB.out)
                 have p0 := cell_step (bstep HBW.out hq) P0.out
                 go_simp
                 with_reducible rfl
               simp only [Act.put, List.setIfInBounds_toArray, List.set_cons_zero, List.set_cons_succ])
          cases A1
          rotate_left
          · repeat first
              | (refine held_skip ?_ ?_; (· first | rfl | (go_simp; done)); simp only [Act.put, List.setIfInBounds_toArray, List.set_cons_zero, List.set_cons_succ])
              | (refine held_val (v := ?_) ?_ ?_ ?_
                 rotate_left
                 · first | rfl | (go_simp; done)
                 · intro wq hq
                   obtain ⟨c0, c1, c2, c3, c4, c5⟩ := cells6 ((hq.block _ (lt_of_block HBB.out)).trans HBB.out)
                   have p0 := cell_step (bstep HBW.out hq) P0.out
                   go_simp
                   with_reducible rfl
                 simp only [Act.put, List.setIfInBounds_toArray, List.set_cons_zero, List.set_cons_succ])
            refine held_nil ?_
            intro w2 hb2
            have HBZ := Lib.hid hb2
            clear hb2
            go_wp2_with fail
            go_ret
            exact ⟨false, rfl, fun h => (by cases h), bstep HBW2.out HBZ.out⟩
          repeat first
            | (refine held_skip ?_ ?_; (· first | rfl | (go_simp; done)); simp only [Act.put, List.setIfInBounds_toArray, List.set_cons_zero, List.set_cons_succ])
            | (refine held_val (v := ?_) ?_ ?_ ?_
               rotate_left
               · first | rfl | (go_simp; done)
               · intro wq hq
                 obtain ⟨c0, c1, c2, c3, c4, c5⟩ := cells6 ((hq.block _ (lt_of_block HBB.out)).trans HBB.out)
                 have p0 := cell_step (bstep HBW.out hq) P0.out
                 go_simp
                 with_reducible rfl
               simp only [Act.put, List.setIfInBounds_toArray, List.set_cons_zero, List.set_cons_succ])
          cases A2
          rotate_left
          · repeat first
              | (refine held_skip ?_ ?_; (· first | rfl | (go_simp; done)); simp only [Act.put, List.setIfInBounds_toArray, List.set_cons_zero, List.set_cons_succ])
              | (refine held_val (v := ?_) ?_ ?_ ?_
                 rotate_left
                 · first | rfl | (go_simp; done)
                 · intro wq hq
                   obtain ⟨c0, c1, c2, c3, c4, c5⟩ := cells6 ((hq.block _ (lt_of_block HBB.out)).trans HBB.out)
                   have p0 := cell_step (bstep HBW.out hq) P0.out
                   go_simp
                   with_reducible rfl
                 simp only [Act.put, List.setIfInBounds_toArray, List.set_cons_zero, List.set_cons_succ])
            refine held_nil ?_
            intro w2 hb2
            have HBZ := Lib.hid hb2
            clear hb2
            go_wp2_with fail
            go_ret
            exact ⟨false, rfl, fun h => (by cases h), bstep HBW2.out HBZ.out⟩
          repeat first
            | (refine held_skip ?_ ?_; (· first | rfl | (go_simp; done)); simp only [Act.put, List.setIfInBounds_toArray, List.set_cons_zero, List.set_cons_succ])
            | (refine held_val (v := ?_) ?_ ?_ ?_
               rotate_left
               · first | rfl | (go_simp; done)
               · intro wq hq
                 obtain ⟨c0, c1, c2, c3, c4, c5⟩ := cells6 ((hq.block _ (lt_of_block HBB.out)).trans HBB.out)
                 have p0 := cell_step (bstep HBW.out hq) P0.out
                 go_simp
                 with_reducible rfl
               simp only [Act.put, List.setIfInBounds_toArray, List.set_cons_zero, List.set_cons_succ])
          cases A3
          rotate_left
          · repeat first
              | (refine held_skip ?_ ?_; (· first | rfl | (go_simp; done)); simp only [Act.put, List.setIfInBounds_toArray, List.set_cons_zero, List.set_cons_succ])
              | (refine held_val (v := ?_) ?_ ?_ ?_
                 rotate_left
                 · first | rfl | (go_simp; done)
                 · intro wq hq
                   obtain ⟨c0, c1, c2, c3, c4, c5⟩ := cells6 ((hq.block _ (lt_of_block HBB.out)).trans HBB.out)
                   have p0 := cell_step (bstep HBW.out hq) P0.out
                   go_simp
                   with_reducible rfl
                 simp only [Act.put, List.setIfInBounds_toArray, List.set_cons_zero, List.set_cons_succ])
            refine held_nil ?_
            intro w2 hb2
            have HBZ := Lib.hid hb2
            clear hb2
            go_wp2_with fail
            go_ret
            exact ⟨false, rfl, fun h => (by cases h), bstep HBW2.out HBZ.out⟩
          repeat first
            | (refine held_skip ?_ ?_; (· first | rfl | (go_simp; done)); simp only [Act.put, List.setIfInBounds_toArray, List.set_cons_zero, List.set_cons_succ])
            | (refine held_val (v := ?_) ?_ ?_ ?_
               rotate_left
               · first | rfl | (go_simp; done)
               · intro wq hq
                 obtain ⟨c0, c1, c2, c3, c4, c5⟩ := cells6 ((hq.block _ (lt_of_block HBB.out)).trans HBB.out)
                 have p0 := cell_step (bstep HBW.out hq) P0.out
                 go_simp
                 with_reducible rfl
               simp only [Act.put, List.setIfInBounds_toArray, List.set_cons_zero, List.set_cons_succ])
          refine held_nil ?_
          intro w2 hb2
          have HBZ := Lib.hid hb2
          clear hb2
          go_wp2_with fail
          go_ret
          exact ⟨false, rfl, fun h => (by cases h), bstep HBW2.out HBZ.out⟩
    · obtain rfl : k = xs.length := by omega
      have b0 := cell_step (HLB.out.mono (Nat.le_refl _)) B0.out
      have b1 := cell_step (HLB.out.mono (Nat.le_refl _)) B1.out
      have b2 := cell_step (HLB.out.mono (Nat.le_refl _)) B2.out
      have z9 : (0 : Int) < (xs.length : Int) := by have := HL.out; omega
      have z10 : 0 < xs.length := by have := HL.out; omega
      obtain ⟨F1, f1⟩ : ∃ F, (r.i == 1) = F := ⟨_, rfl⟩
      obtain ⟨F2, f2⟩ : ∃ F, (r.k == 1) = F := ⟨_, rfl⟩
      obtain ⟨F3, f3⟩ : ∃ F, (r.l == 1) = F := ⟨_, rfl⟩
      clear hbel
      cases F1
      · go_wp2_with fail
        go_ret
        exact ⟨false, rfl, fun h => (by cases h), HLB.out⟩
      cases F2
      · go_wp2_with fail
        go_ret
        exact ⟨false, rfl, fun h => (by cases h), HLB.out⟩
      cases F3
      · go_wp2_with fail
        go_ret
        exact ⟨false, rfl, fun h => (by cases h), HLB.out⟩
      go_wp2_with fail
      go_ret
      refine ⟨true, rfl, fun _ => ⟨HN.out, HL.out, HOK.out, fun x hx => ?_⟩, HLB.out⟩
      obtain rfl : r = x := by have := HR0.out; rw [this] at hx; simpa using hx
      simp at f1 f2 f3
      exact ⟨f1, f2, f3⟩
end Go.Proofs.YthnkpoagpjnopaaDoor.InoW
