/- extent.Good. -/
import Derived.Test.YtappgelpigoknaaExtOne
import Derived.Test.YtappgelpigoknaaHeld
namespace Go.Proofs.Ytappgelpigoknaa.ExtW
open Go.RowKit
/-- parts that stand behind an address below block B -/
def PtsAt (B : Nat) (oa : Option Addr) (l : List Pt) (w : World) : Prop :=
  ∀ i x, l[i]? = some x → ∃ a, oa = some a ∧ a.block < B ∧ w.cell? (a.add (i * 4)) = some (.int .i64 x.o) ∧ w.cell? ⟨(a.add (i * 4)).block, (a.add (i * 4)).off + 1, none⟩ = some (.int .i64 x.n) ∧
    w.cell? ⟨(a.add (i * 4)).block, (a.add (i * 4)).off + 2, none⟩ = some (.int .i64 x.a) ∧ w.cell? ⟨(a.add (i * 4)).block, (a.add (i * 4)).off + 3, none⟩ = some (.int .i64 x.f)
theorem PtsAt.below {B : Nat} {oa : Option Addr} {l : List Pt} {w w' : World} (h : PtsAt B oa l w) (hb : Below B w w') : PtsAt B oa l w' := by
  intro i x hx
  obtain ⟨a, h1, h2, h3, h4, h5, h6⟩ := h i x hx
  have hbk : ∀ j, (a.add j).block < B := fun j => by unfold Addr.add; split <;> exact h2
  exact ⟨a, h1, h2, (hb.cell (hbk _)).trans h3, (hb.cell (p := ⟨_, _, none⟩) (hbk (i * 4))).trans h4, (hb.cell (p := ⟨_, _, none⟩) (hbk (i * 4))).trans h5, (hb.cell (p := ⟨_, _, none⟩) (hbk (i * 4))).trans h6⟩
theorem PtsAt.mono {B C : Nat} {oa : Option Addr} {l : List Pt} {w : World} (h : PtsAt B oa l w) (hb : B ≤ C) : PtsAt C oa l w := by
  intro i x hx
  obtain ⟨a, h1, h2, h3⟩ := h i x hx
  exact ⟨a, h1, Nat.lt_of_lt_of_le h2 hb, h3⟩
theorem one_is (x : Pt) (b : Bool) (hb : decide (One x) = b) (w : World) :
    Calls Try.prog 49 #[.agg #[.int .i64 x.o, .int .i64 x.n, .int .i64 x.a, .int .i64 x.f]] w fun e w' => e = .returned (.bool b) ∧ Below w.heap.size w w' := by
  rw [← hb]; exact one_any x w
theorem joins_is (p x : Pt) (b : Bool) (hb : decide (Joins p x) = b) (hp : One p) (w : World) :
    Calls Try.prog 64 #[.agg #[.int .i64 p.o, .int .i64 p.n, .int .i64 p.a, .int .i64 p.f], .agg #[.int .i64 x.o, .int .i64 x.n, .int .i64 x.a, .int .i64 x.f]] w fun e w' => e = .returned (.bool b) ∧ Below w.heap.size w w' := by
  have := hp.small
  rw [← hb]; exact joins_any p x (by omega) (by omega) (by omega) w
set_option maxHeartbeats 800000 in
theorem good_any (B : Nat) (oa : Option Addr) (cap : Nat) (l : List Pt) (hl : l.length ≤ 9223372036854775807) (w : World) (hB : B ≤ w.heap.size) (h : PtsAt B oa l w) :
    Calls Try.prog 48 #[.slice oa l.length cap] w fun e w' => e = .returned (.bool (decide (Good l))) ∧ Below w.heap.size w w' := by
  have HP := Lib.hid h
  have HL := Lib.hid hB
  clear h hB
  by_cases hlen : 64 < l.length
  · have HG : Hid (decide (Good l) = false) := Lib.hid (decide_eq_false fun h => by have := h.1; omega)
    go_enter Try.func48, Try.ntmps48
    go_wp2_with fail
    go_ret
    exact ⟨by rw [HG.out]; rfl, Below.refl _ _⟩
  · have hlen2 : l.length ≤ 64 := by omega
    have HLEN := Lib.hid hlen2
    clear hlen hl
    go_enter Try.func48, Try.ntmps48
    go_wp2_with fail
    go_loopw [10] (fun i wr => ∃ k : Nat, k ≤ l.length ∧ i = .int .i64 (k : Int) ∧ (∀ j, j < k → OkAt l j) ∧ Below w.heap.size w wr) (fun i _ => ((l.length : Int) - intOf i).toNat)
    case atStart => exact ⟨0, by omega, rfl, fun j hj => absurd hj (by omega), Below.refl _ _⟩
    case round =>
      obtain ⟨k, hk, rfl, hall, hbel⟩ := hrel
      have HALL := Lib.hid hall
      have HB := Lib.hid hbel
      clear hall hbel
      by_cases hlt : k < l.length
      · obtain ⟨x, hx⟩ : ∃ x, l[k]? = some x := ⟨_, List.getElem?_eq_getElem hlt⟩
        obtain ⟨a, rfl, hab, c0, c1, c2, c3⟩ := (HP.out.below (HB.out.mono HL.out)) k x hx
        have HX := Lib.hid hx
        clear hx
        by_cases h1 : One x
        · have H1 : Hid (decide (One x) = true) := Lib.hid (decide_eq_true h1)
          have H1' := Lib.hid h1
          clear h1
          by_cases hk0 : k = 0
          · have hz : decide (0 < k) = false := decide_eq_false (by omega)
            have HN : Hid (∀ j, j < k + 1 → OkAt l j) := Lib.hid fun j hj y hy => by
              obtain rfl : j = k := by omega
              rw [HX.out] at hy
              obtain rfl : x = y := by simpa using hy
              exact ⟨H1'.out, fun p h0 => absurd h0 (by omega)⟩
            clear hk0
            go_wp2_with fail
            refine held_region (fun w' => (w'.cell? ⟨wr.heap.size, 0, none⟩ = some (.int .i64 x.o) ∧ w'.cell? ⟨wr.heap.size, 1, none⟩ = some (.int .i64 x.n) ∧ w'.cell? ⟨wr.heap.size, 2, none⟩ = some (.int .i64 x.a) ∧ w'.cell? ⟨wr.heap.size, 3, none⟩ = some (.int .i64 x.f)) ∧ Below wr.heap.size wr w') (by kernel_rfl) (by kernel_rfl) ?_ ?_
            · exact ⟨⟨by simp, by simp, by simp, by simp⟩, (below_alloc wr _).drew⟩
            repeat first
              | (refine held_skip ?_ ?_; (· first | rfl | (go_simp; done)); simp only [Act.put, List.setIfInBounds_toArray, List.set_cons_zero, List.set_cons_succ])
              | (refine held_val (v := ?_) ?_ ?_ ?_
                 rotate_left
                 · first | rfl | (go_simp; done)
                 · intro wq hq
                   go_simp
                   with_reducible rfl
                 simp only [Act.put, List.setIfInBounds_toArray, List.set_cons_zero, List.set_cons_succ])
              | (refine held_call (v := ?_) (f := ?_) (args := ?_) ?_ ?_ ?_ ?_
                 rotate_left 3
                 · first | rfl | (go_simp; done)
                 · intro wq
                   go_simp
                   constructor
                   · rfl
                   · rfl
                 · intro wq hq
                   first
                     | (refine (one_is x _ H1.out _).mono ?_
                        rintro e w1 ⟨rfl, hb1⟩
                        constructor
                        · rfl
                        · exact ⟨⟨cell_step hb1 hq.1.1, cell_step hb1 hq.1.2.1, cell_step hb1 hq.1.2.2.1, cell_step hb1 hq.1.2.2.2⟩, bstep hq.2 hb1⟩)
                 simp only [Act.put, List.setIfInBounds_toArray, List.set_cons_zero, List.set_cons_succ])
            refine held_nil ?_
            intro w2 hw2
            obtain ⟨hcc, hb2⟩ := hw2
            go_wp2
            exact ⟨⟨k + 1, by omega, by simp, HN.out, bstep HB.out hb2⟩, by simp [intOf]; omega⟩
          · obtain ⟨m, hm⟩ : ∃ m, k = m + 1 := ⟨k - 1, by omega⟩
            have hw : IntKind.i64.wrap ((k : Int) - 1) = (m : Int) := by rw [IntWalk.i64_in _ (by omega)]; omega
            have hz : decide (0 < k) = true := decide_eq_true (by omega)
            obtain ⟨p, hp⟩ : ∃ p, l[m]? = some p := ⟨_, List.getElem?_eq_getElem (by omega)⟩
            have HOK := Lib.hid (HALL.out m (by omega) p hp)
            obtain ⟨a', ha', _, d0, d1, d2, d3⟩ := (HP.out.below (HB.out.mono HL.out)) m p hp
            obtain rfl : a = a' := by simpa using ha'
            clear ha'
            have HQ := Lib.hid hp
            clear hp
            have hps := HOK.out.1.small
            have hw2 : IntKind.i64.wrap (p.o + p.n) = p.o + p.n := IntWalk.i64_in _ (by omega)
            have HM := Lib.hid hm
            have hm0 : (0 : Int) ≤ (m : Int) := by omega
            have hm1 : (m : Int) < (l.length : Int) := by omega
            have hm2 : m < l.length := by omega
            by_cases h2 : p.o + p.n ≤ x.o
            · have hz2 : decide (x.o < p.o + p.n) = false := decide_eq_false (by omega)
              by_cases h3 : Joins p x
              · have HJ : Hid (decide (Joins p x) = true) := Lib.hid (decide_eq_true h3)
                have HG : Hid (decide (Good l) = false) := Lib.hid (decide_eq_false fun h => absurd h3 ((((chain_iff l).1 h.2 k hlt) x HX.out).2 p (by omega) (by rw [hm]; exact HQ.out)).2)
                clear h3 h2 hps hm
                go_wp2_with fail
                refine held_region (fun w' => ((w'.cell? ⟨wr.heap.size, 0, none⟩ = some (.int .i64 x.o) ∧ w'.cell? ⟨wr.heap.size, 1, none⟩ = some (.int .i64 x.n) ∧ w'.cell? ⟨wr.heap.size, 2, none⟩ = some (.int .i64 x.a) ∧ w'.cell? ⟨wr.heap.size, 3, none⟩ = some (.int .i64 x.f)) ∧ (w'.cell? (a.add (m * 4)) = some (.int .i64 p.o) ∧ w'.cell? ⟨(a.add (m * 4)).block, (a.add (m * 4)).off + 1, none⟩ = some (.int .i64 p.n) ∧ w'.cell? ⟨(a.add (m * 4)).block, (a.add (m * 4)).off + 2, none⟩ = some (.int .i64 p.a) ∧ w'.cell? ⟨(a.add (m * 4)).block, (a.add (m * 4)).off + 3, none⟩ = some (.int .i64 p.f))) ∧ Below wr.heap.size wr w') (by kernel_rfl) (by kernel_rfl) ?_ ?_
                · exact ⟨⟨⟨by simp, by simp, by simp, by simp⟩, ⟨cell_step (below_alloc wr _).drew d0, cell_step (below_alloc wr _).drew d1, cell_step (below_alloc wr _).drew d2, cell_step (below_alloc wr _).drew d3⟩⟩, (below_alloc wr _).drew⟩
                repeat first
                  | (refine held_skip ?_ ?_; (· first | rfl | (go_simp; done)); simp only [Act.put, List.setIfInBounds_toArray, List.set_cons_zero, List.set_cons_succ])
                  | (refine held_val (v := ?_) ?_ ?_ ?_
                     rotate_left
                     · first | rfl | (go_simp; done)
                     · intro wq hq
                       go_simp
                       with_reducible rfl
                     simp only [Act.put, List.setIfInBounds_toArray, List.set_cons_zero, List.set_cons_succ])
                  | (refine held_call (v := ?_) (f := ?_) (args := ?_) ?_ ?_ ?_ ?_
                     rotate_left 3
                     · first | rfl | (go_simp; done)
                     · intro wq
                       go_simp
                       constructor
                       · rfl
                       · rfl
                     · intro wq hq
                       first
                         | (go_at_call 49; refine (one_is x _ H1.out _).mono ?_
                            rintro e w1 ⟨rfl, hb1⟩
                            constructor
                            · rfl
                            · exact ⟨⟨⟨cell_step hb1 hq.1.1.1, cell_step hb1 hq.1.1.2.1, cell_step hb1 hq.1.1.2.2.1, cell_step hb1 hq.1.1.2.2.2⟩, ⟨cell_step hb1 hq.1.2.1, cell_step hb1 hq.1.2.2.1, cell_step hb1 hq.1.2.2.2.1, cell_step hb1 hq.1.2.2.2.2⟩⟩, bstep hq.2 hb1⟩)
                         | (go_at_call 64; refine (joins_is p x _ HJ.out HOK.out.1 _).mono ?_
                            rintro e w1 ⟨rfl, hb1⟩
                            constructor
                            · rfl
                            · exact ⟨⟨⟨cell_step hb1 hq.1.1.1, cell_step hb1 hq.1.1.2.1, cell_step hb1 hq.1.1.2.2.1, cell_step hb1 hq.1.1.2.2.2⟩, ⟨cell_step hb1 hq.1.2.1, cell_step hb1 hq.1.2.2.1, cell_step hb1 hq.1.2.2.2.1, cell_step hb1 hq.1.2.2.2.2⟩⟩, bstep hq.2 hb1⟩)
                     simp only [Act.put, List.setIfInBounds_toArray, List.set_cons_zero, List.set_cons_succ])
                refine held_nil ?_
                intro w2 hw2
                obtain ⟨hcc, hb2⟩ := hw2
                go_wp2
                go_ret
                exact ⟨by rw [HG.out]; rfl, bstep HB.out hb2⟩
              · have HJ : Hid (decide (Joins p x) = false) := Lib.hid (decide_eq_false h3)
                have HN : Hid (∀ j, j < k + 1 → OkAt l j) := Lib.hid fun j hj y hy => by
                  by_cases hjk : j < k
                  · exact HALL.out j hjk y hy
                  · obtain rfl : j = k := by omega
                    rw [HX.out] at hy
                    obtain rfl : x = y := by simpa using hy
                    refine ⟨H1'.out, fun q _ hq => ?_⟩
                    rw [hm] at hq
                    have hq' := HQ.out.symm.trans hq
                    obtain rfl : p = q := by simpa using hq'
                    exact ⟨h2, h3⟩
                clear h3 h2 hps hm
                go_wp2_with fail
                refine held_region (fun w' => ((w'.cell? ⟨wr.heap.size, 0, none⟩ = some (.int .i64 x.o) ∧ w'.cell? ⟨wr.heap.size, 1, none⟩ = some (.int .i64 x.n) ∧ w'.cell? ⟨wr.heap.size, 2, none⟩ = some (.int .i64 x.a) ∧ w'.cell? ⟨wr.heap.size, 3, none⟩ = some (.int .i64 x.f)) ∧ (w'.cell? (a.add (m * 4)) = some (.int .i64 p.o) ∧ w'.cell? ⟨(a.add (m * 4)).block, (a.add (m * 4)).off + 1, none⟩ = some (.int .i64 p.n) ∧ w'.cell? ⟨(a.add (m * 4)).block, (a.add (m * 4)).off + 2, none⟩ = some (.int .i64 p.a) ∧ w'.cell? ⟨(a.add (m * 4)).block, (a.add (m * 4)).off + 3, none⟩ = some (.int .i64 p.f))) ∧ Below wr.heap.size wr w') (by kernel_rfl) (by kernel_rfl) ?_ ?_
                · exact ⟨⟨⟨by simp, by simp, by simp, by simp⟩, ⟨cell_step (below_alloc wr _).drew d0, cell_step (below_alloc wr _).drew d1, cell_step (below_alloc wr _).drew d2, cell_step (below_alloc wr _).drew d3⟩⟩, (below_alloc wr _).drew⟩
                repeat first
                  | (refine held_skip ?_ ?_; (· first | rfl | (go_simp; done)); simp only [Act.put, List.setIfInBounds_toArray, List.set_cons_zero, List.set_cons_succ])
                  | (refine held_val (v := ?_) ?_ ?_ ?_
                     rotate_left
                     · first | rfl | (go_simp; done)
                     · intro wq hq
                       go_simp
                       with_reducible rfl
                     simp only [Act.put, List.setIfInBounds_toArray, List.set_cons_zero, List.set_cons_succ])
                  | (refine held_call (v := ?_) (f := ?_) (args := ?_) ?_ ?_ ?_ ?_
                     rotate_left 3
                     · first | rfl | (go_simp; done)
                     · intro wq
                       go_simp
                       constructor
                       · rfl
                       · rfl
                     · intro wq hq
                       first
                         | (go_at_call 49; refine (one_is x _ H1.out _).mono ?_
                            rintro e w1 ⟨rfl, hb1⟩
                            constructor
                            · rfl
                            · exact ⟨⟨⟨cell_step hb1 hq.1.1.1, cell_step hb1 hq.1.1.2.1, cell_step hb1 hq.1.1.2.2.1, cell_step hb1 hq.1.1.2.2.2⟩, ⟨cell_step hb1 hq.1.2.1, cell_step hb1 hq.1.2.2.1, cell_step hb1 hq.1.2.2.2.1, cell_step hb1 hq.1.2.2.2.2⟩⟩, bstep hq.2 hb1⟩)
                         | (go_at_call 64; refine (joins_is p x _ HJ.out HOK.out.1 _).mono ?_
                            rintro e w1 ⟨rfl, hb1⟩
                            constructor
                            · rfl
                            · exact ⟨⟨⟨cell_step hb1 hq.1.1.1, cell_step hb1 hq.1.1.2.1, cell_step hb1 hq.1.1.2.2.1, cell_step hb1 hq.1.1.2.2.2⟩, ⟨cell_step hb1 hq.1.2.1, cell_step hb1 hq.1.2.2.1, cell_step hb1 hq.1.2.2.2.1, cell_step hb1 hq.1.2.2.2.2⟩⟩, bstep hq.2 hb1⟩)
                     simp only [Act.put, List.setIfInBounds_toArray, List.set_cons_zero, List.set_cons_succ])
                refine held_nil ?_
                intro w2 hw2
                obtain ⟨hcc, hb2⟩ := hw2
                go_wp2
                exact ⟨⟨k + 1, by omega, by simp, HN.out, bstep HB.out hb2⟩, by simp [intOf]; omega⟩
            · have hz2 : decide (x.o < p.o + p.n) = true := decide_eq_true (by omega)
              have HG : Hid (decide (Good l) = false) := Lib.hid (decide_eq_false fun h => h2 ((((chain_iff l).1 h.2 k hlt) x HX.out).2 p (by omega) (by rw [hm]; exact HQ.out)).1)
              clear h2 hps hm
              go_wp2_with fail
              refine held_region (fun w' => ((w'.cell? ⟨wr.heap.size, 0, none⟩ = some (.int .i64 x.o) ∧ w'.cell? ⟨wr.heap.size, 1, none⟩ = some (.int .i64 x.n) ∧ w'.cell? ⟨wr.heap.size, 2, none⟩ = some (.int .i64 x.a) ∧ w'.cell? ⟨wr.heap.size, 3, none⟩ = some (.int .i64 x.f)) ∧ (w'.cell? (a.add (m * 4)) = some (.int .i64 p.o) ∧ w'.cell? ⟨(a.add (m * 4)).block, (a.add (m * 4)).off + 1, none⟩ = some (.int .i64 p.n) ∧ w'.cell? ⟨(a.add (m * 4)).block, (a.add (m * 4)).off + 2, none⟩ = some (.int .i64 p.a) ∧ w'.cell? ⟨(a.add (m * 4)).block, (a.add (m * 4)).off + 3, none⟩ = some (.int .i64 p.f))) ∧ Below wr.heap.size wr w') (by kernel_rfl) (by kernel_rfl) ?_ ?_
              · exact ⟨⟨⟨by simp, by simp, by simp, by simp⟩, ⟨cell_step (below_alloc wr _).drew d0, cell_step (below_alloc wr _).drew d1, cell_step (below_alloc wr _).drew d2, cell_step (below_alloc wr _).drew d3⟩⟩, (below_alloc wr _).drew⟩
              repeat first
                | (refine held_skip ?_ ?_; (· first | rfl | (go_simp; done)); simp only [Act.put, List.setIfInBounds_toArray, List.set_cons_zero, List.set_cons_succ])
                | (refine held_val (v := ?_) ?_ ?_ ?_
                   rotate_left
                   · first | rfl | (go_simp; done)
                   · intro wq hq
                     go_simp
                     with_reducible rfl
                   simp only [Act.put, List.setIfInBounds_toArray, List.set_cons_zero, List.set_cons_succ])
                | (refine held_call (v := ?_) (f := ?_) (args := ?_) ?_ ?_ ?_ ?_
                   rotate_left 3
                   · first | rfl | (go_simp; done)
                   · intro wq
                     go_simp
                     constructor
                     · rfl
                     · rfl
                   · intro wq hq
                     first
                       | (go_at_call 49; refine (one_is x _ H1.out _).mono ?_
                          rintro e w1 ⟨rfl, hb1⟩
                          constructor
                          · rfl
                          · exact ⟨⟨⟨cell_step hb1 hq.1.1.1, cell_step hb1 hq.1.1.2.1, cell_step hb1 hq.1.1.2.2.1, cell_step hb1 hq.1.1.2.2.2⟩, ⟨cell_step hb1 hq.1.2.1, cell_step hb1 hq.1.2.2.1, cell_step hb1 hq.1.2.2.2.1, cell_step hb1 hq.1.2.2.2.2⟩⟩, bstep hq.2 hb1⟩)
                   simp only [Act.put, List.setIfInBounds_toArray, List.set_cons_zero, List.set_cons_succ])
              refine held_nil ?_
              intro w2 hw2
              obtain ⟨hcc, hb2⟩ := hw2
              go_wp2
              go_ret
              exact ⟨by rw [HG.out]; rfl, bstep HB.out hb2⟩
        · have H1 : Hid (decide (One x) = false) := Lib.hid (decide_eq_false h1)
          have HG : Hid (decide (Good l) = false) := Lib.hid (decide_eq_false fun h => h1 (((chain_iff l).1 h.2 k hlt) x HX.out).1)
          clear h1
          go_wp2_with fail
          refine held_region (fun w' => (w'.cell? ⟨wr.heap.size, 0, none⟩ = some (.int .i64 x.o) ∧ w'.cell? ⟨wr.heap.size, 1, none⟩ = some (.int .i64 x.n) ∧ w'.cell? ⟨wr.heap.size, 2, none⟩ = some (.int .i64 x.a) ∧ w'.cell? ⟨wr.heap.size, 3, none⟩ = some (.int .i64 x.f)) ∧ Below wr.heap.size wr w') (by kernel_rfl) (by kernel_rfl) ?_ ?_
          · exact ⟨⟨by simp, by simp, by simp, by simp⟩, (below_alloc wr _).drew⟩
          repeat first
            | (refine held_skip ?_ ?_; (· first | rfl | (go_simp; done)); simp only [Act.put, List.setIfInBounds_toArray, List.set_cons_zero, List.set_cons_succ])
            | (refine held_val (v := ?_) ?_ ?_ ?_
               rotate_left
               · first | rfl | (go_simp; done)
               · intro wq hq
                 go_simp
                 with_reducible rfl
               simp only [Act.put, List.setIfInBounds_toArray, List.set_cons_zero, List.set_cons_succ])
            | (refine held_call (v := ?_) (f := ?_) (args := ?_) ?_ ?_ ?_ ?_
               rotate_left 3
               · first | rfl | (go_simp; done)
               · intro wq
                 go_simp
                 constructor
                 · rfl
                 · rfl
               · intro wq hq
                 first
                   | (refine (one_is x _ H1.out _).mono ?_
                      rintro e w1 ⟨rfl, hb1⟩
                      constructor
                      · rfl
                      · exact ⟨⟨cell_step hb1 hq.1.1, cell_step hb1 hq.1.2.1, cell_step hb1 hq.1.2.2.1, cell_step hb1 hq.1.2.2.2⟩, bstep hq.2 hb1⟩)
               simp only [Act.put, List.setIfInBounds_toArray, List.set_cons_zero, List.set_cons_succ])
          refine held_nil ?_
          intro w2 hw2
          obtain ⟨hcc, hb2⟩ := hw2
          go_wp2
          go_ret
          exact ⟨by rw [HG.out]; rfl, bstep HB.out hb2⟩
      · obtain rfl : k = l.length := by omega
        have HG : Hid (decide (Good l) = true) := Lib.hid (decide_eq_true ⟨HLEN.out, (chain_iff l).2 HALL.out⟩)
        go_wp2_with fail
        go_ret
        exact ⟨by rw [HG.out]; rfl, HB.out⟩
end Go.Proofs.Ytappgelpigoknaa.ExtW
