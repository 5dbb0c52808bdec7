/- The reference's Good. -/
import Derived.Test.YtappgelpigoknaaExtRef1
namespace Go.Proofs.Ytappgelpigoknaa.ExtW
open Go.RowKit
set_option maxRecDepth 100000 in
set_option maxHeartbeats 3200000 in
theorem rgood_any (oa : Option Addr) (cap : Nat) (l : List Pt) (hl : l.length ≤ 9223372036854775807) (w : World) (h : PtsAt w.heap.size oa l w) :
    Calls Try.prog 65 #[.slice oa l.length cap] w fun e w' => e = .returned (.bool (decide (Good l))) ∧ Below w.heap.size w w' := by
  have HP := Lib.hid h
  clear h
  by_cases hlen : 64 < l.length
  · have HG : Hid (decide (Good l) = false) := Lib.hid (decide_eq_false fun h => by have := h.1; omega)
    go_enter Try.func65, Try.ntmps65
    go_wp2_with fail
    go_ret
    exact ⟨by rw [HG.out]; rfl, Below.refl _ _⟩
  · have hlen2 : l.length ≤ 64 := by omega
    have HLEN := Lib.hid hlen2
    clear hlen hl
    go_enter Try.func65, Try.ntmps65
    go_wp2_with fail
    go_loopw [3] (fun i wr => ∃ k : Nat, k ≤ l.length ∧ i = .int .i64 (k : Int) ∧ (∀ j, j < k → OkAt l j) ∧ Below w.heap.size w wr) (fun i _ => ((l.length : Int) - intOf i).toNat)
    case atStart => exact ⟨0, by omega, rfl, fun j hj => absurd hj (by omega), Below.refl _ _⟩
    case round =>
      obtain ⟨k, hk, rfl, hall, hbel⟩ := hrel
      have HALL := Lib.hid hall
      have HB := Lib.hid hbel
      clear hall hbel
      by_cases hlt : k < l.length
      · obtain ⟨x, hx⟩ : ∃ x, l[k]? = some x := ⟨_, List.getElem?_eq_getElem hlt⟩
        obtain ⟨a, rfl, hab, c0, c1, c2, c3⟩ := (HP.out.below HB.out) k x hx
        have HX := Lib.hid hx
        clear hx
        by_cases h1 : One x
        · have H1 : Hid (decide (One x) = true) := Lib.hid (decide_eq_true h1)
          have H1' := Lib.hid h1
          clear h1
          by_cases hk0 : k = 0
          · have hz : ((k : Int) == 0) = true := by rw [beq_iff_eq]; omega
            have HN : Hid (∀ j, j < k + 1 → OkAt l j) := Lib.hid fun j hj y hy => by
              obtain rfl : j = k := by omega
              rw [HX.out] at hy
              obtain rfl : x = y := by simpa using hy
              exact ⟨H1'.out, fun p h0 => absurd h0 (by omega)⟩
            clear hk0
            go_wp2_with (go_at_call 66; refine (rone_is x _ H1.out _).mono ?_; rintro e w1 ⟨rfl, hb1⟩; have HB1 := Lib.hid (bstep HB.out hb1); clear hb1)
            exact ⟨⟨k + 1, by omega, by simp, HN.out, HB1.out⟩, by simp [intOf]; omega⟩
          · have hz : ((k : Int) == 0) = false := by rw [beq_eq_false_iff_ne]; omega
            obtain ⟨m, hm⟩ : ∃ m, k = m + 1 := ⟨k - 1, by omega⟩
            have hw : IntKind.i64.wrap ((k : Int) - 1) = (m : Int) := by rw [IntWalk.i64_in _ (by omega)]; omega
            obtain ⟨p, hp⟩ : ∃ p, l[m]? = some p := ⟨_, List.getElem?_eq_getElem (by omega)⟩
            have HOK := Lib.hid (HALL.out m (by omega) p hp)
            obtain ⟨a', ha', _, d0, d1, d2, d3⟩ := (HP.out.below HB.out) m p hp
            obtain rfl : a = a' := by simpa using ha'
            clear ha'
            have HQ := Lib.hid hp
            clear hp
            have hps := HOK.out.1.small
            have hw2 : IntKind.i64.wrap (p.o + p.n) = p.o + p.n := IntWalk.i64_in _ (by omega)
            have hw3 : IntKind.i64.wrap (p.f + p.n) = p.f + p.n := IntWalk.i64_in _ (by omega)
            have HM := Lib.hid hm
            have hm0 : (0 : Int) ≤ (m : Int) := by omega
            have hm1 : (m : Int) < (l.length : Int) := by omega
            have hm2 : m < l.length := by omega
            have BAD : Hid (¬ Next p x → decide (Good l) = false) := Lib.hid fun hn => decide_eq_false fun h => hn ((((chain_iff l).1 h.2 k hlt) x HX.out).2 p (by omega) (by rw [hm]; exact HQ.out))
            have FINE : Hid (Next p x → ∀ j, j < k + 1 → OkAt l j) := Lib.hid fun hn j hj y hy => by
              by_cases hjk : j < k
              · exact HALL.out j hjk y hy
              · obtain rfl : j = k := by omega
                rw [HX.out] at hy
                obtain rfl : x = y := by simpa using hy
                refine ⟨H1'.out, fun q _ hq => ?_⟩
                rw [hm] at hq
                have hq' := HQ.out.symm.trans hq
                obtain rfl : p = q := by simpa using hq'
                exact hn
            clear hps hm
            obtain ⟨E, hE⟩ : ∃ E, p.o + p.n = E := ⟨_, rfl⟩
            obtain ⟨G, hG⟩ : ∃ G, p.f + p.n = G := ⟨_, rfl⟩
            rw [hE] at hw2
            rw [hG] at hw3
            have HEE := Lib.hid hE
            have HGG := Lib.hid hG
            have HNX : Hid (Next p x ↔ (E ≤ x.o ∧ ¬ (E = x.o ∧ p.a = x.a ∧ G = x.f))) := Lib.hid (by unfold Next Joins; rw [hE, hG])
            have hw4 : IntKind.i64.wrap (p.o + p.n) = E := by rw [hE]; exact hw2
            have hw5 : IntKind.i64.wrap (p.f + p.n) = G := by rw [hG]; exact hw3
            clear hE hG hw2 hw3
            by_cases q1 : x.o < E
            · have HG : Hid (decide (Good l) = false) := Lib.hid (BAD.out (fun h => by have := HNX.out.1 h; omega))
              go_wp2_with (go_at_call 66; refine (rone_is x _ H1.out _).mono ?_; rintro e w1 ⟨rfl, hb1⟩; have HB1 := Lib.hid (bstep HB.out hb1); replace c0 := cell_step hb1 c0; replace c1 := cell_step hb1 c1; replace c2 := cell_step hb1 c2; replace c3 := cell_step hb1 c3; replace d0 := cell_step hb1 d0; replace d1 := cell_step hb1 d1; replace d2 := cell_step hb1 d2; replace d3 := cell_step hb1 d3; clear hb1)
              refine held_below (by kernel_rfl) (by kernel_rfl) ?_
              repeat first
                | (refine held_skip ?_ ?_; (· first | rfl | (go_simp; done)); simp only [Act.put, List.setIfInBounds_toArray, List.set_cons_zero, List.set_cons_succ])
                | (refine held_val (v := ?_) ?_ ?_ ?_
                   rotate_left
                   · first | rfl | (go_simp; done)
                   · intro wq hq
                     have k0 := cell_step hq d0
                     have k1 := cell_step hq d1
                     have k2 := cell_step hq d2
                     have k3 := cell_step hq d3
                     go_simp
                     with_reducible rfl
                   simp only [Act.put, List.setIfInBounds_toArray, List.set_cons_zero, List.set_cons_succ])
              refine held_nil ?_
              intro w2 hb2
              have HB2 := Lib.hid (bstep HB1.out hb2)
              replace c0 := cell_step hb2 c0
              replace d0 := cell_step hb2 d0
              replace c1 := cell_step hb2 c1
              replace d1 := cell_step hb2 d1
              replace c2 := cell_step hb2 c2
              replace d2 := cell_step hb2 d2
              replace c3 := cell_step hb2 c3
              replace d3 := cell_step hb2 d3
              clear hb2
              go_wp2_with fail
              refine held_below (by kernel_rfl) (by kernel_rfl) ?_
              repeat first
                | (refine held_skip ?_ ?_; (· first | rfl | (go_simp; done)); simp only [Act.put, List.setIfInBounds_toArray, List.set_cons_zero, List.set_cons_succ])
                | (refine held_val (v := ?_) ?_ ?_ ?_
                   rotate_left
                   · first | rfl | (go_simp; done)
                   · intro wq hq
                     have e0 := cell_step hq c0
                     have e1 := cell_step hq c1
                     have e2 := cell_step hq c2
                     have e3 := cell_step hq c3
                     have k0 := cell_step hq d0
                     have k1 := cell_step hq d1
                     have k2 := cell_step hq d2
                     have k3 := cell_step hq d3
                     go_simp
                     with_reducible rfl
                   simp only [Act.put, List.setIfInBounds_toArray, List.set_cons_zero, List.set_cons_succ])
              refine held_nil ?_
              intro w2 hb2
              have HB3 := Lib.hid (bstep HB2.out hb2)
              clear hb2
              go_wp2_with fail
              go_ret
              exact ⟨by rw [HG.out]; rfl, HB3.out⟩
            · have q1' : decide (x.o < E) = false := decide_eq_false q1
              by_cases q2 : E = x.o
              · have b2 : (E == x.o) = true := by rw [beq_iff_eq]; exact q2
                by_cases q3 : p.a = x.a
                · have b3 : (p.a == x.a) = true := by rw [beq_iff_eq]; exact q3
                  by_cases q4 : G = x.f
                  · have b4 : (G == x.f) = true := by rw [beq_iff_eq]; exact q4
                    have HG : Hid (decide (Good l) = false) := Lib.hid (BAD.out (fun h => (HNX.out.1 h).2 ⟨q2, q3, q4⟩))
                    clear q1 q2 q3 q4
                    go_wp2_with (go_at_call 66; refine (rone_is x _ H1.out _).mono ?_; rintro e w1 ⟨rfl, hb1⟩; have HB1 := Lib.hid (bstep HB.out hb1); replace c0 := cell_step hb1 c0; replace c1 := cell_step hb1 c1; replace c2 := cell_step hb1 c2; replace c3 := cell_step hb1 c3; replace d0 := cell_step hb1 d0; replace d1 := cell_step hb1 d1; replace d2 := cell_step hb1 d2; replace d3 := cell_step hb1 d3; clear hb1)
                    refine held_below (by kernel_rfl) (by kernel_rfl) ?_
                    repeat first
                      | (refine held_skip ?_ ?_; (· first | rfl | (go_simp; done)); simp only [Act.put, List.setIfInBounds_toArray, List.set_cons_zero, List.set_cons_succ])
                      | (refine held_val (v := ?_) ?_ ?_ ?_
                         rotate_left
                         · first | rfl | (go_simp; done)
                         · intro wq hq
                           have k0 := cell_step hq d0
                           have k1 := cell_step hq d1
                           have k2 := cell_step hq d2
                           have k3 := cell_step hq d3
                           go_simp
                           with_reducible rfl
                         simp only [Act.put, List.setIfInBounds_toArray, List.set_cons_zero, List.set_cons_succ])
                    refine held_nil ?_
                    intro w2 hb2
                    have HB2 := Lib.hid (bstep HB1.out hb2)
                    replace c0 := cell_step hb2 c0
                    replace d0 := cell_step hb2 d0
                    replace c1 := cell_step hb2 c1
                    replace d1 := cell_step hb2 d1
                    replace c2 := cell_step hb2 c2
                    replace d2 := cell_step hb2 d2
                    replace c3 := cell_step hb2 c3
                    replace d3 := cell_step hb2 d3
                    clear hb2
                    go_wp2_with fail
                    refine held_below (by kernel_rfl) (by kernel_rfl) ?_
                    repeat first
                      | (refine held_skip ?_ ?_; (· first | rfl | (go_simp; done)); simp only [Act.put, List.setIfInBounds_toArray, List.set_cons_zero, List.set_cons_succ])
                      | (refine held_val (v := ?_) ?_ ?_ ?_
                         rotate_left
                         · first | rfl | (go_simp; done)
                         · intro wq hq
                           have e0 := cell_step hq c0
                           have e1 := cell_step hq c1
                           have e2 := cell_step hq c2
                           have e3 := cell_step hq c3
                           have k0 := cell_step hq d0
                           have k1 := cell_step hq d1
                           have k2 := cell_step hq d2
                           have k3 := cell_step hq d3
                           go_simp
                           with_reducible rfl
                         simp only [Act.put, List.setIfInBounds_toArray, List.set_cons_zero, List.set_cons_succ])
                    refine held_nil ?_
                    intro w2 hb2
                    have HB3 := Lib.hid (bstep HB2.out hb2)
                    clear hb2
                    go_wp2_with fail
                    go_ret
                    exact ⟨by rw [HG.out]; rfl, HB3.out⟩
                  · have b4 : (G == x.f) = false := by rw [beq_eq_false_iff_ne]; exact q4
                    have HN := Lib.hid (FINE.out (HNX.out.2 ⟨by omega, fun h => q4 h.2.2⟩))
                    clear q1 q2 q3 q4
                    go_wp2_with (go_at_call 66; refine (rone_is x _ H1.out _).mono ?_; rintro e w1 ⟨rfl, hb1⟩; have HB1 := Lib.hid (bstep HB.out hb1); replace c0 := cell_step hb1 c0; replace c1 := cell_step hb1 c1; replace c2 := cell_step hb1 c2; replace c3 := cell_step hb1 c3; replace d0 := cell_step hb1 d0; replace d1 := cell_step hb1 d1; replace d2 := cell_step hb1 d2; replace d3 := cell_step hb1 d3; clear hb1)
                    refine held_below (by kernel_rfl) (by kernel_rfl) ?_
                    repeat first
                      | (refine held_skip ?_ ?_; (· first | rfl | (go_simp; done)); simp only [Act.put, List.setIfInBounds_toArray, List.set_cons_zero, List.set_cons_succ])
                      | (refine held_val (v := ?_) ?_ ?_ ?_
                         rotate_left
                         · first | rfl | (go_simp; done)
                         · intro wq hq
                           have k0 := cell_step hq d0
                           have k1 := cell_step hq d1
                           have k2 := cell_step hq d2
                           have k3 := cell_step hq d3
                           go_simp
                           with_reducible rfl
                         simp only [Act.put, List.setIfInBounds_toArray, List.set_cons_zero, List.set_cons_succ])
                    refine held_nil ?_
                    intro w2 hb2
                    have HB2 := Lib.hid (bstep HB1.out hb2)
                    replace c0 := cell_step hb2 c0
                    replace d0 := cell_step hb2 d0
                    replace c1 := cell_step hb2 c1
                    replace d1 := cell_step hb2 d1
                    replace c2 := cell_step hb2 c2
                    replace d2 := cell_step hb2 d2
                    replace c3 := cell_step hb2 c3
                    replace d3 := cell_step hb2 d3
                    clear hb2
                    go_wp2_with fail
                    refine held_below (by kernel_rfl) (by kernel_rfl) ?_
                    repeat first
                      | (refine held_skip ?_ ?_; (· first | rfl | (go_simp; done)); simp only [Act.put, List.setIfInBounds_toArray, List.set_cons_zero, List.set_cons_succ])
                      | (refine held_val (v := ?_) ?_ ?_ ?_
                         rotate_left
                         · first | rfl | (go_simp; done)
                         · intro wq hq
                           have e0 := cell_step hq c0
                           have e1 := cell_step hq c1
                           have e2 := cell_step hq c2
                           have e3 := cell_step hq c3
                           have k0 := cell_step hq d0
                           have k1 := cell_step hq d1
                           have k2 := cell_step hq d2
                           have k3 := cell_step hq d3
                           go_simp
                           with_reducible rfl
                         simp only [Act.put, List.setIfInBounds_toArray, List.set_cons_zero, List.set_cons_succ])
                    refine held_nil ?_
                    intro w2 hb2
                    have HB3 := Lib.hid (bstep HB2.out hb2)
                    clear hb2
                    go_wp2_with fail
                    exact ⟨⟨k + 1, by omega, by simp, HN.out, HB3.out⟩, by simp [intOf]; omega⟩
                · have b3 : (p.a == x.a) = false := by rw [beq_eq_false_iff_ne]; exact q3
                  have HN := Lib.hid (FINE.out (HNX.out.2 ⟨by omega, fun h => q3 h.2.1⟩))
                  clear q1 q2 q3
                  go_wp2_with (go_at_call 66; refine (rone_is x _ H1.out _).mono ?_; rintro e w1 ⟨rfl, hb1⟩; have HB1 := Lib.hid (bstep HB.out hb1); replace c0 := cell_step hb1 c0; replace c1 := cell_step hb1 c1; replace c2 := cell_step hb1 c2; replace c3 := cell_step hb1 c3; replace d0 := cell_step hb1 d0; replace d1 := cell_step hb1 d1; replace d2 := cell_step hb1 d2; replace d3 := cell_step hb1 d3; clear hb1)
                  refine held_below (by kernel_rfl) (by kernel_rfl) ?_
                  repeat first
                    | (refine held_skip ?_ ?_; (· first | rfl | (go_simp; done)); simp only [Act.put, List.setIfInBounds_toArray, List.set_cons_zero, List.set_cons_succ])
                    | (refine held_val (v := ?_) ?_ ?_ ?_
                       rotate_left
                       · first | rfl | (go_simp; done)
                       · intro wq hq
                         have k0 := cell_step hq d0
                         have k1 := cell_step hq d1
                         have k2 := cell_step hq d2
                         have k3 := cell_step hq d3
                         go_simp
                         with_reducible rfl
                       simp only [Act.put, List.setIfInBounds_toArray, List.set_cons_zero, List.set_cons_succ])
                  refine held_nil ?_
                  intro w2 hb2
                  have HB2 := Lib.hid (bstep HB1.out hb2)
                  replace c0 := cell_step hb2 c0
                  replace d0 := cell_step hb2 d0
                  replace c1 := cell_step hb2 c1
                  replace d1 := cell_step hb2 d1
                  replace c2 := cell_step hb2 c2
                  replace d2 := cell_step hb2 d2
                  replace c3 := cell_step hb2 c3
                  replace d3 := cell_step hb2 d3
                  clear hb2
                  go_wp2_with fail
                  refine held_below (by kernel_rfl) (by kernel_rfl) ?_
                  repeat first
                    | (refine held_skip ?_ ?_; (· first | rfl | (go_simp; done)); simp only [Act.put, List.setIfInBounds_toArray, List.set_cons_zero, List.set_cons_succ])
                    | (refine held_val (v := ?_) ?_ ?_ ?_
                       rotate_left
                       · first | rfl | (go_simp; done)
                       · intro wq hq
                         have e0 := cell_step hq c0
                         have e1 := cell_step hq c1
                         have e2 := cell_step hq c2
                         have e3 := cell_step hq c3
                         have k0 := cell_step hq d0
                         have k1 := cell_step hq d1
                         have k2 := cell_step hq d2
                         have k3 := cell_step hq d3
                         go_simp
                         with_reducible rfl
                       simp only [Act.put, List.setIfInBounds_toArray, List.set_cons_zero, List.set_cons_succ])
                  refine held_nil ?_
                  intro w2 hb2
                  have HB3 := Lib.hid (bstep HB2.out hb2)
                  clear hb2
                  go_wp2_with fail
                  exact ⟨⟨k + 1, by omega, by simp, HN.out, HB3.out⟩, by simp [intOf]; omega⟩
              · have b2 : (E == x.o) = false := by rw [beq_eq_false_iff_ne]; exact q2
                have HN := Lib.hid (FINE.out (HNX.out.2 ⟨by omega, fun h => q2 h.1⟩))
                clear q1 q2
                go_wp2_with (go_at_call 66; refine (rone_is x _ H1.out _).mono ?_; rintro e w1 ⟨rfl, hb1⟩; have HB1 := Lib.hid (bstep HB.out hb1); replace c0 := cell_step hb1 c0; replace c1 := cell_step hb1 c1; replace c2 := cell_step hb1 c2; replace c3 := cell_step hb1 c3; replace d0 := cell_step hb1 d0; replace d1 := cell_step hb1 d1; replace d2 := cell_step hb1 d2; replace d3 := cell_step hb1 d3; clear hb1)
                refine held_below (by kernel_rfl) (by kernel_rfl) ?_
                repeat first
                  | (refine held_skip ?_ ?_; (· first | rfl | (go_simp; done)); simp only [Act.put, List.setIfInBounds_toArray, List.set_cons_zero, List.set_cons_succ])
                  | (refine held_val (v := ?_) ?_ ?_ ?_
                     rotate_left
                     · first | rfl | (go_simp; done)
                     · intro wq hq
                       have k0 := cell_step hq d0
                       have k1 := cell_step hq d1
                       have k2 := cell_step hq d2
                       have k3 := cell_step hq d3
                       go_simp
                       with_reducible rfl
                     simp only [Act.put, List.setIfInBounds_toArray, List.set_cons_zero, List.set_cons_succ])
                refine held_nil ?_
                intro w2 hb2
                have HB2 := Lib.hid (bstep HB1.out hb2)
                replace c0 := cell_step hb2 c0
                replace d0 := cell_step hb2 d0
                replace c1 := cell_step hb2 c1
                replace d1 := cell_step hb2 d1
                replace c2 := cell_step hb2 c2
                replace d2 := cell_step hb2 d2
                replace c3 := cell_step hb2 c3
                replace d3 := cell_step hb2 d3
                clear hb2
                go_wp2_with fail
                refine held_below (by kernel_rfl) (by kernel_rfl) ?_
                repeat first
                  | (refine held_skip ?_ ?_; (· first | rfl | (go_simp; done)); simp only [Act.put, List.setIfInBounds_toArray, List.set_cons_zero, List.set_cons_succ])
                  | (refine held_val (v := ?_) ?_ ?_ ?_
                     rotate_left
                     · first | rfl | (go_simp; done)
                     · intro wq hq
                       have e0 := cell_step hq c0
                       have e1 := cell_step hq c1
                       have e2 := cell_step hq c2
                       have e3 := cell_step hq c3
                       have k0 := cell_step hq d0
                       have k1 := cell_step hq d1
                       have k2 := cell_step hq d2
                       have k3 := cell_step hq d3
                       go_simp
                       with_reducible rfl
                     simp only [Act.put, List.setIfInBounds_toArray, List.set_cons_zero, List.set_cons_succ])
                refine held_nil ?_
                intro w2 hb2
                have HB3 := Lib.hid (bstep HB2.out hb2)
                clear hb2
                go_wp2_with fail
                exact ⟨⟨k + 1, by omega, by simp, HN.out, HB3.out⟩, by simp [intOf]; omega⟩
        · have H1 : Hid (decide (One x) = false) := Lib.hid (decide_eq_false h1)
          have HG : Hid (decide (Good l) = false) := Lib.hid (decide_eq_false fun h => h1 (((chain_iff l).1 h.2 k hlt) x HX.out).1)
          clear h1
          go_wp2_with (go_at_call 66; refine (rone_is x _ H1.out _).mono ?_; rintro e w1 ⟨rfl, hb1⟩; have HB1 := Lib.hid (bstep HB.out hb1); clear hb1)
          go_ret
          exact ⟨by rw [HG.out]; rfl, HB1.out⟩
      · obtain rfl : k = l.length := by omega
        have HG : Hid (decide (Good l) = true) := Lib.hid (decide_eq_true ⟨HLEN.out, (chain_iff l).2 HALL.out⟩)
        go_wp2_with fail
        go_ret
        exact ⟨by rw [HG.out]; rfl, HB.out⟩
theorem rgood_is (oa : Option Addr) (n cap : Nat) (l : List Pt) (b : Bool) (hb : decide (Good l) = b) (hn : n = l.length) (hl : l.length ≤ 9223372036854775807) (w : World) (h : PtsAt w.heap.size oa l w) :
    Calls Try.prog 65 #[.slice oa n cap] w fun e w' => e = .returned (.bool b) ∧ Below w.heap.size w w' := by
  subst hn; rw [← hb]; exact rgood_any oa cap l hl w h
end Go.Proofs.Ytappgelpigoknaa.ExtW
