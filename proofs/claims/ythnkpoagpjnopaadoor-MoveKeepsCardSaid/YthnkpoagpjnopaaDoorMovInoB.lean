/- Several texts in one, of what this seat needs. -/
import Derived.Test.YthnkpoagpjnopaaDoorMovInoA
import Derived.Test.YthnkpoagpjnopaaDoorOpen
import Derived.Test.YthnkpoagpjnopaaDoorHeld
namespace Go.Proofs.YthnkpoagpjnopaaDoor.ExtW
open Go.RowKit
set_option maxHeartbeats 1600000 in
theorem rone_any (x : Pt) (w : World) :
    Calls Tryd.prog 76 #[.agg #[.int .i64 x.o, .int .i64 x.n, .int .i64 x.a, .int .i64 x.f]] w fun e w' => e = .returned (.bool (decide (One x))) ∧ Below w.heap.size w w' := by
  obtain ⟨o, n, a, f⟩ := x
  have key : ∀ b : Bool, (decide (One ⟨o, n, a, f⟩)) = b → Calls Tryd.prog 76 #[.agg #[.int .i64 o, .int .i64 n, .int .i64 a, .int .i64 f]] w fun e w' => e = .returned (.bool b) ∧ Below w.heap.size w w' := by
    intro b hb
    by_cases h0 : 0 ≤ o
    · by_cases h1 : o ≤ 8192
      · by_cases h2 : 1 ≤ n
        · by_cases h3 : n ≤ 8192
          · have hw4 : IntKind.i64.wrap (o + n) = o + n := IntWalk.i64_in _ (by omega)
            by_cases h4 : o + n ≤ 8192
            · by_cases h5 : 0 ≤ a
              · by_cases h6 : a < 16384
                · by_cases h7 : 0 ≤ f
                  · by_cases h8 : f ≤ 1024
                    · by_cases h9 : n ≤ 1024
                      · have hw10 : IntKind.i64.wrap (f + n) = f + n := IntWalk.i64_in _ (by omega)
                        by_cases h10 : f + n ≤ 1024
                        · obtain rfl : b = true := by rw [← hb]; exact decide_eq_true (by unfold One Whole; simp only; omega)
                          clear hb
                          go_enter Tryd.func76, Tryd.ntmps76
                          go_wp2
                          go_ret
                          exact ⟨rfl, below_alloc w _⟩
                        · obtain rfl : b = false := by rw [← hb]; exact decide_eq_false fun h => h10 (by unfold One Whole at h; simp only at h; omega)
                          have d : decide (f + n ≤ 1024) = false := decide_eq_false h10
                          clear hb h10
                          go_enter Tryd.func76, Tryd.ntmps76
                          go_wp2
                          go_ret
                          exact ⟨rfl, below_alloc w _⟩
                      · obtain rfl : b = false := by rw [← hb]; exact decide_eq_false fun h => h9 (by unfold One Whole at h; simp only at h; omega)
                        have d : decide (n ≤ 1024) = false := decide_eq_false h9
                        clear hb h9
                        go_enter Tryd.func76, Tryd.ntmps76
                        go_wp2
                        go_ret
                        exact ⟨rfl, below_alloc w _⟩
                    · obtain rfl : b = false := by rw [← hb]; exact decide_eq_false fun h => h8 (by unfold One Whole at h; simp only at h; omega)
                      have d : decide (f ≤ 1024) = false := decide_eq_false h8
                      clear hb h8
                      go_enter Tryd.func76, Tryd.ntmps76
                      go_wp2
                      go_ret
                      exact ⟨rfl, below_alloc w _⟩
                  · obtain rfl : b = false := by rw [← hb]; exact decide_eq_false fun h => h7 (by unfold One Whole at h; simp only at h; omega)
                    have d : decide (0 ≤ f) = false := decide_eq_false h7
                    clear hb h7
                    go_enter Tryd.func76, Tryd.ntmps76
                    go_wp2
                    go_ret
                    exact ⟨rfl, below_alloc w _⟩
                · obtain rfl : b = false := by rw [← hb]; exact decide_eq_false fun h => h6 (by unfold One Whole at h; simp only at h; omega)
                  have d : decide (a < 16384) = false := decide_eq_false h6
                  clear hb h6
                  go_enter Tryd.func76, Tryd.ntmps76
                  go_wp2
                  go_ret
                  exact ⟨rfl, below_alloc w _⟩
              · obtain rfl : b = false := by rw [← hb]; exact decide_eq_false fun h => h5 (by unfold One Whole at h; simp only at h; omega)
                have d : decide (0 ≤ a) = false := decide_eq_false h5
                clear hb h5
                go_enter Tryd.func76, Tryd.ntmps76
                go_wp2
                go_ret
                exact ⟨rfl, below_alloc w _⟩
            · obtain rfl : b = false := by rw [← hb]; exact decide_eq_false fun h => h4 (by unfold One Whole at h; simp only at h; omega)
              have d : decide (o + n ≤ 8192) = false := decide_eq_false h4
              clear hb h4
              go_enter Tryd.func76, Tryd.ntmps76
              go_wp2
              go_ret
              exact ⟨rfl, below_alloc w _⟩
          · obtain rfl : b = false := by rw [← hb]; exact decide_eq_false fun h => h3 (by unfold One Whole at h; simp only at h; omega)
            have d : decide (n ≤ 8192) = false := decide_eq_false h3
            clear hb h3
            go_enter Tryd.func76, Tryd.ntmps76
            go_wp2
            go_ret
            exact ⟨rfl, below_alloc w _⟩
        · obtain rfl : b = false := by rw [← hb]; exact decide_eq_false fun h => h2 (by unfold One Whole at h; simp only at h; omega)
          have d : decide (1 ≤ n) = false := decide_eq_false h2
          clear hb h2
          go_enter Tryd.func76, Tryd.ntmps76
          go_wp2
          go_ret
          exact ⟨rfl, below_alloc w _⟩
      · obtain rfl : b = false := by rw [← hb]; exact decide_eq_false fun h => h1 (by unfold One Whole at h; simp only at h; omega)
        have d : decide (o ≤ 8192) = false := decide_eq_false h1
        clear hb h1
        go_enter Tryd.func76, Tryd.ntmps76
        go_wp2
        go_ret
        exact ⟨rfl, below_alloc w _⟩
    · obtain rfl : b = false := by rw [← hb]; exact decide_eq_false fun h => h0 (by unfold One Whole at h; simp only at h; omega)
      have d : decide (0 ≤ o) = false := decide_eq_false h0
      clear hb h0
      go_enter Tryd.func76, Tryd.ntmps76
      go_wp2
      go_ret
      exact ⟨rfl, below_alloc w _⟩
  exact key _ rfl
theorem rone_is (x : Pt) (b : Bool) (hb : decide (One x) = b) (w : World) :
    Calls Tryd.prog 76 #[.agg #[.int .i64 x.o, .int .i64 x.n, .int .i64 x.a, .int .i64 x.f]] w fun e w' => e = .returned (.bool b) ∧ Below w.heap.size w w' := by
  rw [← hb]; exact rone_any x w
end Go.Proofs.YthnkpoagpjnopaaDoor.ExtW

namespace Go.Proofs.YthnkpoagpjnopaaDoor.ExtW
open Go.RowKit
set_option maxRecDepth 100000 in
set_option maxHeartbeats 3200000 in
theorem rgood_any (oa : Option Addr) (cap : Nat) (l : List Pt) (hl : l.length ≤ 9223372036854775807) (w : World) (h : PtsAt w.heap.size oa l w) :
    Calls Tryd.prog 50 #[.slice oa l.length cap] w fun e w' => e = .returned (.bool (decide (Good l))) ∧ Below w.heap.size w w' := by
  have HP := Lib.hid h
  clear h
  by_cases hlen : 64 < l.length
  · have HG : Hid (decide (Good l) = false) := Lib.hid (decide_eq_false fun h => by have := h.1; omega)
    go_enter Tryd.func50, Tryd.ntmps50
    go_wp2_with fail
    go_ret
    exact ⟨by rw [HG.out]; rfl, Below.refl _ _⟩
  · have hlen2 : l.length ≤ 64 := by omega
    have HLEN := Lib.hid hlen2
    clear hlen hl
    go_enter Tryd.func50, Tryd.ntmps50
    go_wp2_with fail
    go_loopw [3] (fun i wr => ∃ k : Nat, k ≤ l.length ∧ i = .int .i64 (k : Int) ∧ (∀ j, j < k → OkAt l j) ∧ Below w.heap.size w wr) (fun i _ => ((l.length : Int) - intOf i).toNat)
    case atStart => exact ⟨0, by omega, rfl, fun j hj => absurd hj (by omega), Below.refl _ _⟩
    case round =>
      obtain ⟨k, hk, rfl, hall, hbel⟩ := hrel
      have HALL := Lib.hid hall
      have HB := Lib.hid hbel
      clear hall hbel
      by_cases hlt : k < l.length
      · obtain ⟨x, hx⟩ : ∃ x, l[k]? = some x := ⟨_, List.getElem?_eq_getElem hlt⟩
        obtain ⟨a, rfl, hab, c0, c1, c2, c3⟩ := (HP.out.below HB.out) k x hx
        have HX := Lib.hid hx
        clear hx
        by_cases h1 : One x
        · have H1 : Hid (decide (One x) = true) := Lib.hid (decide_eq_true h1)
          have H1' := Lib.hid h1
          clear h1
          by_cases hk0 : k = 0
          · have hz : ((k : Int) == 0) = true := by rw [beq_iff_eq]; omega
            have HN : Hid (∀ j, j < k + 1 → OkAt l j) := Lib.hid fun j hj y hy => by
              obtain rfl : j = k := by omega
              rw [HX.out] at hy
              obtain rfl : x = y := by simpa using hy
              exact ⟨H1'.out, fun p h0 => absurd h0 (by omega)⟩
            clear hk0
            go_wp2_with (go_at_call 76; refine (rone_is x _ H1.out _).mono ?_; rintro e w1 ⟨rfl, hb1⟩; have HB1 := Lib.hid (bstep HB.out hb1); clear hb1)
            exact ⟨⟨k + 1, by omega, by simp, HN.out, HB1.out⟩, by simp [intOf]; omega⟩
          · have hz : ((k : Int) == 0) = false := by rw [beq_eq_false_iff_ne]; omega
            obtain ⟨m, hm⟩ : ∃ m, k = m + 1 := ⟨k - 1, by omega⟩
            have hw : IntKind.i64.wrap ((k : Int) - 1) = (m : Int) := by rw [IntWalk.i64_in _ (by omega)]; omega
            obtain ⟨p, hp⟩ : ∃ p, l[m]? = some p := ⟨_, List.getElem?_eq_getElem (by omega)⟩
            have HOK := Lib.hid (HALL.out m (by omega) p hp)
            obtain ⟨a', ha', _, d0, d1, d2, d3⟩ := (HP.out.below HB.out) m p hp
            obtain rfl : a = a' := by simpa using ha'
            clear ha'
            have HQ := Lib.hid hp
            clear hp
            have hps := HOK.out.1.small
            have hw2 : IntKind.i64.wrap (p.o + p.n) = p.o + p.n := IntWalk.i64_in _ (by omega)
            have hw3 : IntKind.i64.wrap (p.f + p.n) = p.f + p.n := IntWalk.i64_in _ (by omega)
            have HM := Lib.hid hm
            have hm0 : (0 : Int) ≤ (m : Int) := by omega
            have hm1 : (m : Int) < (l.length : Int) := by omega
            have hm2 : m < l.length := by omega
            have BAD : Hid (¬ Next p x → decide (Good l) = false) := Lib.hid fun hn => decide_eq_false fun h => hn ((((chain_iff l).1 h.2 k hlt) x HX.out).2 p (by omega) (by rw [hm]; exact HQ.out))
            have FINE : Hid (Next p x → ∀ j, j < k + 1 → OkAt l j) := Lib.hid fun hn j hj y hy => by
              by_cases hjk : j < k
              · exact HALL.out j hjk y hy
              · obtain rfl : j = k := by omega
                rw [HX.out] at hy
                obtain rfl : x = y := by simpa using hy
                refine ⟨H1'.out, fun q _ hq => ?_⟩
                rw [hm] at hq
                have hq' := HQ.out.symm.trans hq
                obtain rfl : p = q := by simpa using hq'
                exact hn
            clear hps hm
            obtain ⟨E, hE⟩ : ∃ E, p.o + p.n = E := ⟨_, rfl⟩
            obtain ⟨G, hG⟩ : ∃ G, p.f + p.n = G := ⟨_, rfl⟩
            rw [hE] at hw2
            rw [hG] at hw3
            have HEE := Lib.hid hE
            have HGG := Lib.hid hG
            have HNX : Hid (Next p x ↔ (E ≤ x.o ∧ ¬ (E = x.o ∧ p.a = x.a ∧ G = x.f))) := Lib.hid (by unfold Next Joins; rw [hE, hG])
            have hw4 : IntKind.i64.wrap (p.o + p.n) = E := by rw [hE]; exact hw2
            have hw5 : IntKind.i64.wrap (p.f + p.n) = G := by rw [hG]; exact hw3
            clear hE hG hw2 hw3
            by_cases q1 : x.o < E
            · have HG : Hid (decide (Good l) = false) := Lib.hid (BAD.out (fun h => by have := HNX.out.1 h; omega))
              go_wp2_with (go_at_call 76; refine (rone_is x _ H1.out _).mono ?_; rintro e w1 ⟨rfl, hb1⟩; have HB1 := Lib.hid (bstep HB.out hb1); replace c0 := cell_step hb1 c0; replace c1 := cell_step hb1 c1; replace c2 := cell_step hb1 c2; replace c3 := cell_step hb1 c3; replace d0 := cell_step hb1 d0; replace d1 := cell_step hb1 d1; replace d2 := cell_step hb1 d2; replace d3 := cell_step hb1 d3; clear hb1)
              refine held_below (by kernel_rfl) (by kernel_rfl) ?_
              repeat first
                | (refine held_skip ?_ ?_; (· first | rfl | (go_simp; done)); simp only [Act.put, List.setIfInBounds_toArray, List.set_cons_zero, List.set_cons_succ])
                | (refine held_val (v := ?_) ?_ ?_ ?_
                   rotate_left
                   · first | rfl | (go_simp; done)
                   · intro wq hq
                     have k0 := cell_step hq d0
                     have k1 := cell_step hq d1
                     have k2 := cell_step hq d2
                     have k3 := cell_step hq d3
                     go_simp
                     with_reducible rfl
                   simp only [Act.put, List.setIfInBounds_toArray, List.set_cons_zero, List.set_cons_succ])
              refine held_nil ?_
              intro w2 hb2
              have HB2 := Lib.hid (bstep HB1.out hb2)
              replace c0 := cell_step hb2 c0
              replace d0 := cell_step hb2 d0
              replace c1 := cell_step hb2 c1
              replace d1 := cell_step hb2 d1
              replace c2 := cell_step hb2 c2
              replace d2 := cell_step hb2 d2
              replace c3 := cell_step hb2 c3
              replace d3 := cell_step hb2 d3
              clear hb2
              go_wp2_with fail
              refine held_below (by kernel_rfl) (by kernel_rfl) ?_
              repeat first
                | (refine held_skip ?_ ?_; (· first | rfl | (go_simp; done)); simp only [Act.put, List.setIfInBounds_toArray, List.set_cons_zero, List.set_cons_succ])
                | (refine held_val (v := ?_) ?_ ?_ ?_
                   rotate_left
                   · first | rfl | (go_simp; done)
                   · intro wq hq
                     have e0 := cell_step hq c0
                     have e1 := cell_step hq c1
                     have e2 := cell_step hq c2
                     have e3 := cell_step hq c3
                     have k0 := cell_step hq d0
                     have k1 := cell_step hq d1
                     have k2 := cell_step hq d2
                     have k3 := cell_step hq d3
                     go_simp
                     with_reducible rfl
                   simp only [Act.put, List.setIfInBounds_toArray, List.set_cons_zero, List.set_cons_succ])
              refine held_nil ?_
              intro w2 hb2
              have HB3 := Lib.hid (bstep HB2.out hb2)
              clear hb2
              go_wp2_with fail
              go_ret
              exact ⟨by rw [HG.out]; rfl, HB3.out⟩
            · have q1' : decide (x.o < E) = false := decide_eq_false q1
              by_cases q2 : E = x.o
              · have b2 : (E == x.o) = true := by rw [beq_iff_eq]; exact q2
                by_cases q3 : p.a = x.a
                · have b3 : (p.a == x.a) = true := by rw [beq_iff_eq]; exact q3
                  by_cases q4 : G = x.f
                  · have b4 : (G == x.f) = true := by rw [beq_iff_eq]; exact q4
                    have HG : Hid (decide (Good l) = false) := Lib.hid (BAD.out (fun h => (HNX.out.1 h).2 ⟨q2, q3, q4⟩))
                    clear q1 q2 q3 q4
                    go_wp2_with (go_at_call 76; refine (rone_is x _ H1.out _).mono ?_; rintro e w1 ⟨rfl, hb1⟩; have HB1 := Lib.hid (bstep HB.out hb1); replace c0 := cell_step hb1 c0; replace c1 := cell_step hb1 c1; replace c2 := cell_step hb1 c2; replace c3 := cell_step hb1 c3; replace d0 := cell_step hb1 d0; replace d1 := cell_step hb1 d1; replace d2 := cell_step hb1 d2; replace d3 := cell_step hb1 d3; clear hb1)
                    refine held_below (by kernel_rfl) (by kernel_rfl) ?_
                    repeat first
                      | (refine held_skip ?_ ?_; (· first | rfl | (go_simp; done)); simp only [Act.put, List.setIfInBounds_toArray, List.set_cons_zero, List.set_cons_succ])
                      | (refine held_val (v := ?_) ?_ ?_ ?_
                         rotate_left
                         · first | rfl | (go_simp; done)
                         · intro wq hq
                           have k0 := cell_step hq d0
                           have k1 := cell_step hq d1
                           have k2 := cell_step hq d2
                           have k3 := cell_step hq d3
                           go_simp
                           with_reducible rfl
                         simp only [Act.put, List.setIfInBounds_toArray, List.set_cons_zero, List.set_cons_succ])
                    refine held_nil ?_
                    intro w2 hb2
                    have HB2 := Lib.hid (bstep HB1.out hb2)
                    replace c0 := cell_step hb2 c0
                    replace d0 := cell_step hb2 d0
                    replace c1 := cell_step hb2 c1
                    replace d1 := cell_step hb2 d1
                    replace c2 := cell_step hb2 c2
                    replace d2 := cell_step hb2 d2
                    replace c3 := cell_step hb2 c3
                    replace d3 := cell_step hb2 d3
                    clear hb2
                    go_wp2_with fail
                    refine held_below (by kernel_rfl) (by kernel_rfl) ?_
                    repeat first
                      | (refine held_skip ?_ ?_; (· first | rfl | (go_simp; done)); simp only [Act.put, List.setIfInBounds_toArray, List.set_cons_zero, List.set_cons_succ])
                      | (refine held_val (v := ?_) ?_ ?_ ?_
                         rotate_left
                         · first | rfl | (go_simp; done)
                         · intro wq hq
                           have e0 := cell_step hq c0
                           have e1 := cell_step hq c1
                           have e2 := cell_step hq c2
                           have e3 := cell_step hq c3
                           have k0 := cell_step hq d0
                           have k1 := cell_step hq d1
                           have k2 := cell_step hq d2
                           have k3 := cell_step hq d3
                           go_simp
                           with_reducible rfl
                         simp only [Act.put, List.setIfInBounds_toArray, List.set_cons_zero, List.set_cons_succ])
                    refine held_nil ?_
                    intro w2 hb2
                    have HB3 := Lib.hid (bstep HB2.out hb2)
                    clear hb2
                    go_wp2_with fail
                    go_ret
                    exact ⟨by rw [HG.out]; rfl, HB3.out⟩
                  · have b4 : (G == x.f) = false := by rw [beq_eq_false_iff_ne]; exact q4
                    have HN := Lib.hid (FINE.out (HNX.out.2 ⟨by omega, fun h => q4 h.2.2⟩))
                    clear q1 q2 q3 q4
                    go_wp2_with (go_at_call 76; refine (rone_is x _ H1.out _).mono ?_; rintro e w1 ⟨rfl, hb1⟩; have HB1 := Lib.hid (bstep HB.out hb1); replace c0 := cell_step hb1 c0; replace c1 := cell_step hb1 c1; replace c2 := cell_step hb1 c2; replace c3 := cell_step hb1 c3; replace d0 := cell_step hb1 d0; replace d1 := cell_step hb1 d1; replace d2 := cell_step hb1 d2; replace d3 := cell_step hb1 d3; clear hb1)
                    refine held_below (by kernel_rfl) (by kernel_rfl) ?_
                    repeat first
                      | (refine held_skip ?_ ?_; (· first | rfl | (go_simp; done)); simp only [Act.put, List.setIfInBounds_toArray, List.set_cons_zero, List.set_cons_succ])
                      | (refine held_val (v := ?_) ?_ ?_ ?_
                         rotate_left
                         · first | rfl | (go_simp; done)
                         · intro wq hq
                           have k0 := cell_step hq d0
                           have k1 := cell_step hq d1
                           have k2 := cell_step hq d2
                           have k3 := cell_step hq d3
                           go_simp
                           with_reducible rfl
                         simp only [Act.put, List.setIfInBounds_toArray, List.set_cons_zero, List.set_cons_succ])
                    refine held_nil ?_
                    intro w2 hb2
                    have HB2 := Lib.hid (bstep HB1.out hb2)
                    replace c0 := cell_step hb2 c0
                    replace d0 := cell_step hb2 d0
                    replace c1 := cell_step hb2 c1
                    replace d1 := cell_step hb2 d1
                    replace c2 := cell_step hb2 c2
                    replace d2 := cell_step hb2 d2
                    replace c3 := cell_step hb2 c3
                    replace d3 := cell_step hb2 d3
                    clear hb2
                    go_wp2_with fail
                    refine held_below (by kernel_rfl) (by kernel_rfl) ?_
                    repeat first
                      | (refine held_skip ?_ ?_; (· first | rfl | (go_simp; done)); simp only [Act.put, List.setIfInBounds_toArray, List.set_cons_zero, List.set_cons_succ])
                      | (refine held_val (v := ?_) ?_ ?_ ?_
                         rotate_left
                         · first | rfl | (go_simp; done)
                         · intro wq hq
                           have e0 := cell_step hq c0
                           have e1 := cell_step hq c1
                           have e2 := cell_step hq c2
                           have e3 := cell_step hq c3
                           have k0 := cell_step hq d0
                           have k1 := cell_step hq d1
                           have k2 := cell_step hq d2
                           have k3 := cell_step hq d3
                           go_simp
                           with_reducible rfl
                         simp only [Act.put, List.setIfInBounds_toArray, List.set_cons_zero, List.set_cons_succ])
                    refine held_nil ?_
                    intro w2 hb2
                    have HB3 := Lib.hid (bstep HB2.out hb2)
                    clear hb2
                    go_wp2_with fail
                    exact ⟨⟨k + 1, by omega, by simp, HN.out, HB3.out⟩, by simp [intOf]; omega⟩
                · have b3 : (p.a == x.a) = false := by rw [beq_eq_false_iff_ne]; exact q3
                  have HN := Lib.hid (FINE.out (HNX.out.2 ⟨by omega, fun h => q3 h.2.1⟩))
                  clear q1 q2 q3
                  go_wp2_with (go_at_call 76; refine (rone_is x _ H1.out _).mono ?_; rintro e w1 ⟨rfl, hb1⟩; have HB1 := Lib.hid (bstep HB.out hb1); replace c0 := cell_step hb1 c0; replace c1 := cell_step hb1 c1; replace c2 := cell_step hb1 c2; replace c3 := cell_step hb1 c3; replace d0 := cell_step hb1 d0; replace d1 := cell_step hb1 d1; replace d2 := cell_step hb1 d2; replace d3 := cell_step hb1 d3; clear hb1)
                  refine held_below (by kernel_rfl) (by kernel_rfl) ?_
                  repeat first
                    | (refine held_skip ?_ ?_; (· first | rfl | (go_simp; done)); simp only [Act.put, List.setIfInBounds_toArray, List.set_cons_zero, List.set_cons_succ])
                    | (refine held_val (v := ?_) ?_ ?_ ?_
                       rotate_left
                       · first | rfl | (go_simp; done)
                       · intro wq hq
                         have k0 := cell_step hq d0
                         have k1 := cell_step hq d1
                         have k2 := cell_step hq d2
                         have k3 := cell_step hq d3
                         go_simp
                         with_reducible rfl
                       simp only [Act.put, List.setIfInBounds_toArray, List.set_cons_zero, List.set_cons_succ])
                  refine held_nil ?_
                  intro w2 hb2
                  have HB2 := Lib.hid (bstep HB1.out hb2)
                  replace c0 := cell_step hb2 c0
                  replace d0 := cell_step hb2 d0
                  replace c1 := cell_step hb2 c1
                  replace d1 := cell_step hb2 d1
                  replace c2 := cell_step hb2 c2
                  replace d2 := cell_step hb2 d2
                  replace c3 := cell_step hb2 c3
                  replace d3 := cell_step hb2 d3
                  clear hb2
                  go_wp2_with fail
                  refine held_below (by kernel_rfl) (by kernel_rfl) ?_
                  repeat first
                    | (refine held_skip ?_ ?_; (· first | rfl | (go_simp; done)); simp only [Act.put, List.setIfInBounds_toArray, List.set_cons_zero, List.set_cons_succ])
                    | (refine held_val (v := ?_) ?_ ?_ ?_
                       rotate_left
                       · first | rfl | (go_simp; done)
                       · intro wq hq
                         have e0 := cell_step hq c0
                         have e1 := cell_step hq c1
                         have e2 := cell_step hq c2
                         have e3 := cell_step hq c3
                         have k0 := cell_step hq d0
                         have k1 := cell_step hq d1
                         have k2 := cell_step hq d2
                         have k3 := cell_step hq d3
                         go_simp
                         with_reducible rfl
                       simp only [Act.put, List.setIfInBounds_toArray, List.set_cons_zero, List.set_cons_succ])
                  refine held_nil ?_
                  intro w2 hb2
                  have HB3 := Lib.hid (bstep HB2.out hb2)
                  clear hb2
                  go_wp2_with fail
                  exact ⟨⟨k + 1, by omega, by simp, HN.out, HB3.out⟩, by simp [intOf]; omega⟩
              · have b2 : (E == x.o) = false := by rw [beq_eq_false_iff_ne]; exact q2
                have HN := Lib.hid (FINE.out (HNX.out.2 ⟨by omega, fun h => q2 h.1⟩))
                clear q1 q2
                go_wp2_with (go_at_call 76; refine (rone_is x _ H1.out _).mono ?_; rintro e w1 ⟨rfl, hb1⟩; have HB1 := Lib.hid (bstep HB.out hb1); replace c0 := cell_step hb1 c0; replace c1 := cell_step hb1 c1; replace c2 := cell_step hb1 c2; replace c3 := cell_step hb1 c3; replace d0 := cell_step hb1 d0; replace d1 := cell_step hb1 d1; replace d2 := cell_step hb1 d2; replace d3 := cell_step hb1 d3; clear hb1)
                refine held_below (by kernel_rfl) (by kernel_rfl) ?_
                repeat first
                  | (refine held_skip ?_ ?_; (· first | rfl | (go_simp; done)); simp only [Act.put, List.setIfInBounds_toArray, List.set_cons_zero, List.set_cons_succ])
                  | (refine held_val (v := ?_) ?_ ?_ ?_
                     rotate_left
                     · first | rfl | (go_simp; done)
                     · intro wq hq
                       have k0 := cell_step hq d0
                       have k1 := cell_step hq d1
                       have k2 := cell_step hq d2
                       have k3 := cell_step hq d3
                       go_simp
                       with_reducible rfl
                     simp only [Act.put, List.setIfInBounds_toArray, List.set_cons_zero, List.set_cons_succ])
                refine held_nil ?_
                intro w2 hb2
                have HB2 := Lib.hid (bstep HB1.out hb2)
                replace c0 := cell_step hb2 c0
                replace d0 := cell_step hb2 d0
                replace c1 := cell_step hb2 c1
                replace d1 := cell_step hb2 d1
                replace c2 := cell_step hb2 c2
                replace d2 := cell_step hb2 d2
                replace c3 := cell_step hb2 c3
                replace d3 := cell_step hb2 d3
                clear hb2
                go_wp2_with fail
                refine held_below (by kernel_rfl) (by kernel_rfl) ?_
                repeat first
                  | (refine held_skip ?_ ?_; (· first | rfl | (go_simp; done)); simp only [Act.put, List.setIfInBounds_toArray, List.set_cons_zero, List.set_cons_succ])
                  | (refine held_val (v := ?_) ?_ ?_ ?_
                     rotate_left
                     · first | rfl | (go_simp; done)
                     · intro wq hq
                       have e0 := cell_step hq c0
                       have e1 := cell_step hq c1
                       have e2 := cell_step hq c2
                       have e3 := cell_step hq c3
                       have k0 := cell_step hq d0
                       have k1 := cell_step hq d1
                       have k2 := cell_step hq d2
                       have k3 := cell_step hq d3
                       go_simp
                       with_reducible rfl
                     simp only [Act.put, List.setIfInBounds_toArray, List.set_cons_zero, List.set_cons_succ])
                refine held_nil ?_
                intro w2 hb2
                have HB3 := Lib.hid (bstep HB2.out hb2)
                clear hb2
                go_wp2_with fail
                exact ⟨⟨k + 1, by omega, by simp, HN.out, HB3.out⟩, by simp [intOf]; omega⟩
        · have H1 : Hid (decide (One x) = false) := Lib.hid (decide_eq_false h1)
          have HG : Hid (decide (Good l) = false) := Lib.hid (decide_eq_false fun h => h1 (((chain_iff l).1 h.2 k hlt) x HX.out).1)
          clear h1
          go_wp2_with (go_at_call 76; refine (rone_is x _ H1.out _).mono ?_; rintro e w1 ⟨rfl, hb1⟩; have HB1 := Lib.hid (bstep HB.out hb1); clear hb1)
          go_ret
          exact ⟨by rw [HG.out]; rfl, HB1.out⟩
      · obtain rfl : k = l.length := by omega
        have HG : Hid (decide (Good l) = true) := Lib.hid (decide_eq_true ⟨HLEN.out, (chain_iff l).2 HALL.out⟩)
        go_wp2_with fail
        go_ret
        exact ⟨by rw [HG.out]; rfl, HB.out⟩
theorem rgood_is (oa : Option Addr) (n cap : Nat) (l : List Pt) (b : Bool) (hb : decide (Good l) = b) (hn : n = l.length) (hl : l.length ≤ 9223372036854775807) (w : World) (h : PtsAt w.heap.size oa l w) :
    Calls Tryd.prog 50 #[.slice oa n cap] w fun e w' => e = .returned (.bool b) ∧ Below w.heap.size w w' := by
  subst hn; rw [← hb]; exact rgood_any oa cap l hl w h
end Go.Proofs.YthnkpoagpjnopaaDoor.ExtW

namespace Go.Proofs.YthnkpoagpjnopaaDoor.ExtW
open Go.RowKit
set_option maxHeartbeats 800000 in
theorem rend_any (oa : Option Addr) (n cap : Nat) (l : List Pt) (hn : n = l.length) (hl : l.length ≤ 9223372036854775807) (w : World) (h : PtsAt w.heap.size oa l w) :
    Calls Tryd.prog 51 #[.slice oa n cap] w fun e w' => e = .returned (.int .i64 (endS l)) ∧ Below w.heap.size w w' := by
  subst hn
  have HP := Lib.hid h
  clear h
  by_cases hg : Good l
  · have HG : Hid (decide (Good l) = true) := Lib.hid (decide_eq_true hg)
    rcases snoc_cases l with rfl | ⟨l', x, rfl⟩
    · have HE : Hid (endS [] = 0) := Lib.hid (by unfold endS; rw [if_pos hg]; rfl)
      have HG2 := Lib.hid (rgood_is oa _ cap [] true HG.out rfl (by simp) w HP.out)
      have e0 : ([] : List Pt).length = 0 := rfl
      rw [e0] at HG2 ⊢
      clear hg hl e0
      go_enter Tryd.func51, Tryd.ntmps51
      go_wp2_with (go_at_call 50; refine HG2.out.mono ?_; rintro e w1 ⟨rfl, hb1⟩; have HB1 := Lib.hid hb1; clear hb1)
      go_ret
      exact ⟨by rw [HE.out]; rfl, HB1.out⟩
    · have HE : Hid (endS (l' ++ [x]) = x.o + x.n) := Lib.hid (by unfold endS; rw [if_pos hg, endL_snoc])
      have hxs := (chain_ones hg.2 x (by simp)).small
      have hl64 := hg.1
      have HG2 := Lib.hid (rgood_is oa _ cap (l' ++ [x]) true HG.out rfl (by omega) w HP.out)
      have HX : Hid ((l' ++ [x])[l'.length]? = some x) := Lib.hid (by simp)
      have hlen : (l' ++ [x]).length = l'.length + 1 := by simp
      generalize l' ++ [x] = L at *
      generalize hm : l'.length = m at *
      generalize hn : L.length = n at *
      have HN := Lib.hid hn
      have hz : ((n : Int) == 0) = false := by rw [beq_eq_false_iff_ne]; omega
      have hw : IntKind.i64.wrap ((n : Int) - 1) = (m : Int) := by rw [IntWalk.i64_in _ (by omega)]; omega
      have hw2 : IntKind.i64.wrap (x.o + x.n) = x.o + x.n := IntWalk.i64_in _ (by omega)
      have hm0 : (0 : Int) ≤ (m : Int) := by omega
      have hm1 : (m : Int) < (n : Int) := by omega
      have hm2 : m < n := by omega
      clear hg hl hlen hm hn
      go_enter Tryd.func51, Tryd.ntmps51
      go_wp2_with (go_at_call 50; refine HG2.out.mono ?_; rintro e w1 ⟨rfl, hb1⟩; have HB1 := Lib.hid hb1; obtain ⟨a, rfl, hab, c0, c1, c2, c3⟩ := (HP.out.grow hb1) m x HX.out; clear hb1)
      go_ret
      exact ⟨by rw [HE.out]; rfl, bstep HB1.out (below_alloc w1 _)⟩
  · have HG : Hid (decide (Good l) = false) := Lib.hid (decide_eq_false hg)
    have HE : Hid (endS l = 0) := Lib.hid (if_neg hg)
    clear hg
    go_enter Tryd.func51, Tryd.ntmps51
    go_wp2_with (go_at_call 50; refine (rgood_is _ _ _ _ _ HG.out rfl hl _ HP.out).mono ?_; rintro e w1 ⟨rfl, hb1⟩; have HB1 := Lib.hid hb1; clear hb1)
    go_ret
    exact ⟨by rw [HE.out]; rfl, HB1.out⟩
theorem rend_is (oa : Option Addr) (n cap : Nat) (l : List Pt) (r : Int) (hr : endS l = r) (hn : n = l.length) (hl : l.length ≤ 9223372036854775807) (w : World) (h : PtsAt w.heap.size oa l w) :
    Calls Tryd.prog 51 #[.slice oa n cap] w fun e w' => e = .returned (.int .i64 r) ∧ Below w.heap.size w w' := by
  rw [← hr]; exact rend_any oa n cap l hn hl w h
end Go.Proofs.YthnkpoagpjnopaaDoor.ExtW

namespace Go.Proofs.YthnkpoagpjnopaaDoor.InoW
set_option maxRecDepth 100000
open Go.RowKit Go.ChangeShapes Go.WideShapes Go.Deep InoP ExtW
section
variable {H : Type} {enc : TypeId × Value → H} {P : Program} {w : World} {base : Nat} {spare : Nat → Bool} {held : Bool}
/-- a slice of structs whose fields are one cell each, that lies in a cell -/
theorem rows_in {t e : TypeId} {fs : Array Field} {u : Value} {fuel : Nat} {y : DataW H × List MemPlace} (ht : P.underlying t = some (.slice e)) (he : P.underlying e = some (.struct fs))
    (hone : oneCellFields P fs = true) (hC : P.cellsOf e = fs.size) (h : DataW.trod enc P w base spare held fuel t [u] = some y) :
    ∃ (oa : Option Addr) (len cap : Nat), u = .slice oa len cap ∧ len ≤ cap ∧ cap ≤ maxLen ∧ (oa = none → len = 0 ∧ cap = 0) ∧
      ∀ i, i < len → ∃ a n, oa = some a ∧ ∀ (j : Nat) (f : Field), fs[j]? = some f → ∃ (u : Value) (y : DataW H × List MemPlace), w.cell? (a.add (i * fs.size + j)) = some u ∧ DataW.trod enc P w base spare held n f.type [u] = some y := by
  rcases open_slice ht h with ⟨hcs, _⟩ | ⟨a, len, cap, m, n, D, Pl, hcs, _, hl, hm, hmm, _, hi⟩
  · obtain rfl : u = .slice none 0 0 := by simpa using hcs
    exact ⟨none, 0, 0, rfl, Nat.le_refl _, Nat.zero_le _, fun _ => ⟨rfl, rfl⟩, fun i hi => absurd hi (Nat.not_lt_zero _)⟩
  · obtain rfl : u = .slice (some a) len cap := by simpa using hcs
    refine ⟨some a, len, cap, rfl, hl, hm, (fun h => by cases h), fun i hil => ?_⟩
    have him : i < m := by rw [hmm]; split <;> omega
    obtain ⟨cs', hc, ht'⟩ := hi i him
    rw [hC] at hc
    obtain ⟨ys, n', hn', hy, hlen, hyl, hfd⟩ := DataW.trod_struct he ht'
    obtain ⟨_, hcl, hat⟩ := World.cells?_some hc
    refine ⟨a, n', rfl, fun j f hj => ?_⟩
    obtain ⟨ho, hk⟩ := hone_of hone j f hj
    have hjl : j < fs.size := (Array.getElem?_eq_some_iff.1 hj).1
    have hcell := hat j hjl
    have h1 := hfd j f hj
    rw [ho, hk] at h1
    have hd : (cs'.drop j).take 1 = [cs'[j]'(by omega)] := by
      rw [List.drop_eq_getElem_cons (by omega)]; rfl
    rw [hd, List.getElem?_eq_getElem (by omega)] at h1
    refine ⟨_, _, ?_, h1⟩
    rw [← Go.Deep.add_add, hcell, List.getElem?_eq_getElem (by omega)]
end
section
variable {H : Type} {enc : TypeId × Value → H} {w : World} {base b0 : Nat} {spare : Nat → Bool} {held : Bool} {r : Reach}
theorem parts_in {u : Value} {fuel : Nat} {y : DataW H × List MemPlace} (h : DataW.trod enc Tryd.prog w base spare held fuel 23 [u] = some y) :
    ∃ (oa : Option Addr) (cap : Nat) (l : List Pt), u = .slice oa l.length cap ∧ PtsAt w.heap.size oa l w ∧ l.length ≤ maxLen ∧ (oa = none → l.length = 0 ∧ cap = 0) := by
  obtain ⟨oa, len, cap, rfl, hl, hm, hn, hi⟩ := rows_in Tryd.underlying23 Tryd.underlying64 (by kernel_rfl) (by kernel_rfl) h
  have key : ∀ i, ∃ x : Pt, i < len → ∃ a, oa = some a ∧ a.block < w.heap.size ∧ w.cell? (a.add (i * 4)) = some (.int .i64 x.o) ∧ w.cell? ⟨(a.add (i * 4)).block, (a.add (i * 4)).off + 1, none⟩ = some (.int .i64 x.n) ∧
      w.cell? ⟨(a.add (i * 4)).block, (a.add (i * 4)).off + 2, none⟩ = some (.int .i64 x.a) ∧ w.cell? ⟨(a.add (i * 4)).block, (a.add (i * 4)).off + 3, none⟩ = some (.int .i64 x.f) := by
    intro i
    by_cases hil : i < len
    · obtain ⟨a, n, ha, hf⟩ := hi i hil
      obtain ⟨u0, y0, c0, t0⟩ := hf 0 _ rfl
      obtain ⟨u1, y1, c1, t1⟩ := hf 1 _ rfl
      obtain ⟨u2, y2, c2, t2⟩ := hf 2 _ rfl
      obtain ⟨u3, y3, c3, t3⟩ := hf 3 _ rfl
      obtain ⟨z0, e0, _, _⟩ := DataW.trod_int Tryd.underlying3 t0
      obtain ⟨z1, e1, _, _⟩ := DataW.trod_int Tryd.underlying3 t1
      obtain ⟨z2, e2, _, _⟩ := DataW.trod_int Tryd.underlying3 t2
      obtain ⟨z3, e3, _, _⟩ := DataW.trod_int Tryd.underlying3 t3
      obtain rfl : u0 = .int .i64 z0 := by simpa using e0
      obtain rfl : u1 = .int .i64 z1 := by simpa using e1
      obtain rfl : u2 = .int .i64 z2 := by simpa using e2
      obtain rfl : u3 = .int .i64 z3 := by simpa using e3
      refine ⟨⟨z0, z1, z2, z3⟩, fun _ => ⟨a, ha, ?_, ?_, ?_, ?_, ?_⟩⟩
      · have := World.block_lt_of_cell? _ _ c0
        rwa [add_block] at this
      · exact c0
      · rw [← add_field a (i * 4) 0]; exact c1
      · rw [← add_field a (i * 4) 1]; exact c2
      · rw [← add_field a (i * 4) 2]; exact c3
    · exact ⟨⟨0, 0, 0, 0⟩, fun h => absurd h hil⟩
  refine ⟨oa, cap, (List.range len).map (fun i => (key i).choose), by simp, ?_, by simp; omega, fun e => by have := hn e; simpa using this⟩
  intro i x hx
  have hil : i < len := by have := (List.getElem?_eq_some_iff.1 hx).1; simpa using this
  obtain rfl : (key i).choose = x := by simpa [hil] using hx
  exact (key i).choose_spec hil
theorem open_inos {v : Value} {d : DataW H} {p : List MemPlace} (hv : Value.okWide Tryd.prog w r b0 45 v) (h : DataW.Trod enc Tryd.prog w base spare held 45 v d p) :
    ∃ (oa : Option Addr) (cap : Nat) (xs : List Ino) (ys : List IV), v = .slice oa xs.length cap ∧ IList w oa xs ys ∧ xs.length ≤ maxLen ∧ ∀ x ∈ xs, x.p.length ≤ maxLen := by
  obtain ⟨oa, len, cap, rfl, hl, hm, hn, hi⟩ := open_rows Tryd.underlying45 Tryd.underlying86 (by kernel_rfl) (by kernel_rfl) hv h
  have key : ∀ i, ∃ q : Ino × IV, IRead w q.1 q.2 ∧ q.1.p.length ≤ maxLen ∧ (i < len → ∃ a, oa = some a ∧ a.block < w.heap.size ∧ ∀ j u, (encI q.2)[j]? = some u → w.cell? (fieldOf (a.add (i * 6)) j) = some u) := by
    intro i
    by_cases hil : i < len
    · obtain ⟨a, n, ha, hf⟩ := hi i hil
      obtain ⟨u0, y0, c0, t0⟩ := hf 0 _ rfl
      obtain ⟨u1, y1, c1, t1⟩ := hf 1 _ rfl
      obtain ⟨u2, y2, c2, t2⟩ := hf 2 _ rfl
      obtain ⟨u3, y3, c3, t3⟩ := hf 3 _ rfl
      obtain ⟨u4, y4, c4, t4⟩ := hf 4 _ rfl
      obtain ⟨u5, y5, c5, t5⟩ := hf 5 _ rfl
      obtain ⟨z0, e0, _, _⟩ := DataW.trod_int Tryd.underlying3 t0
      obtain ⟨z1, e1, _, _⟩ := DataW.trod_int Tryd.underlying3 t1
      obtain ⟨z2, e2, _, _⟩ := DataW.trod_int Tryd.underlying3 t2
      obtain ⟨z3, e3, _, _⟩ := DataW.trod_int Tryd.underlying3 t3
      obtain ⟨z4, e4, _, _⟩ := DataW.trod_int Tryd.underlying3 t4
      obtain ⟨oz, cz, l, rfl, hp, hlz, hnz⟩ := parts_in t5
      obtain rfl : u0 = .int .i64 z0 := by simpa using e0
      obtain rfl : u1 = .int .i64 z1 := by simpa using e1
      obtain rfl : u2 = .int .i64 z2 := by simpa using e2
      obtain rfl : u3 = .int .i64 z3 := by simpa using e3
      obtain rfl : u4 = .int .i64 z4 := by simpa using e4
      refine ⟨(⟨z0, z1, z2, z3, z4, l⟩, ⟨z0, z1, z2, z3, z4, oz, l.length, cz⟩), ⟨rfl, rfl, rfl, rfl, rfl, rfl, hp, hnz⟩, hlz, fun _ => ⟨a, ha, ?_, fun j u hj => ?_⟩⟩
      · have := World.block_lt_of_cell? _ _ c0
        rwa [add_block] at this
      · rw [← fieldOf_add]
        have hj6 : j < 6 := by have := (List.getElem?_eq_some_iff.1 hj).1; rw [encI_len] at this; exact this
        have : j = 0 ∨ j = 1 ∨ j = 2 ∨ j = 3 ∨ j = 4 ∨ j = 5 := by omega
        rcases this with rfl | rfl | rfl | rfl | rfl | rfl <;> (simp [encI] at hj; rw [← hj]; assumption)
    · exact ⟨(⟨0, 0, 0, 0, 0, []⟩, ⟨0, 0, 0, 0, 0, none, 0, 0⟩), ⟨rfl, rfl, rfl, rfl, rfl, rfl, fun i x h => by simp at h, fun _ => ⟨rfl, rfl⟩⟩, by simp, fun h => absurd h hil⟩
  refine ⟨oa, cap, (List.range len).map (fun i => (key i).choose.1), (List.range len).map (fun i => (key i).choose.2), by simp, ⟨fun i y hy => ?_, by simp, fun i x y hx hy => ?_⟩, by simp; omega, fun x hx => ?_⟩
  · have hil : i < len := by have := (List.getElem?_eq_some_iff.1 hy).1; simpa using this
    obtain rfl : (key i).choose.2 = y := by simpa [hil] using hy
    exact (key i).choose_spec.2.2 hil
  · have hil : i < len := by have := (List.getElem?_eq_some_iff.1 hx).1; simpa using this
    obtain rfl : (key i).choose.1 = x := by simpa [hil] using hx
    obtain rfl : (key i).choose.2 = y := by simpa [hil] using hy
    exact (key i).choose_spec.1
  · obtain ⟨i, _, rfl⟩ := List.mem_map.1 hx
    exact (key i).choose_spec.2.1
end
end Go.Proofs.YthnkpoagpjnopaaDoor.InoW

namespace Go.Proofs.YthnkpoagpjnopaaDoor.InoW
set_option maxRecDepth 100000
open Go.RowKit InoP ExtW
/-- append of a slice that is there, as an operation; which block the row lies in then -/
theorem wp_append_at (d : Option Tmp) {P : Program} {o : Oper} {a : Act} {K : Act → World → Prop} {Q : Exit → Act → World → Prop} (hd : o.dst = d) (s x : Operand) (t : TypeId)
    (ho : o.op = .call { callee := .builtin .append, args := #[s, x], argTypes := #[t, t] })
    (base : Nat) (e : TypeId) (i : TypeInfo) (z : Value) (size bytes : Nat) (ht : P.underlying t = some (.slice e)) (hi : P.info? e = some i) (hz : i.zero = some z)
    (hsize : i.size = size) (hby : i.bytes = bytes) (hzs : z.cells.size = size) (hsz : 0 < size)
    (W : World) (v : Value) (n : Nat) (xs : List Value) (hs : a.eval s = v) (hown : W.ownsRow base e size v n xs)
    (ad : Addr) (m c : Nat) (news : List Value) (hx : a.eval x = .slice (some ad) m c)
    (hl : news.length = m * size) (hnews : ∀ j u, news[j]? = some u → W.cell? (ad.add j) = some u) (h1 : ∀ u ∈ news, u.oneCell' = true)
    (h63 : n + m ≤ maxLen) (hbytes : (n + m) * bytes ≤ 140737488355328) (hbase : base ≤ W.heap.size)
    (h : ∀ oa' cap' w', w'.ownsRow base e size (.slice oa' (n + m) cap') (n + m) (xs ++ news) → W.grownBy w' v.ownBlock → ((Value.slice oa' (n + m) cap').ownBlock = v.ownBlock ∨ (Value.slice oa' (n + m) cap').ownBlock = some W.heap.size) → K (a.put d (.slice oa' (n + m) cap')) w') : o.wp P a W K Q := by
  subst hd
  obtain ⟨v', w', hr, h2, h3, _, h5⟩ := run_append_own_at (P := P) W base t o.type e i z size bytes ht hi hz hsize hby hzs hsz v n xs hown ad m c news hl hnews h1 h63 hbytes hbase
  obtain ⟨oa', cap', rfl⟩ := row_form h2
  unfold Oper.wp execOp
  simp only [ho, resolve, invoke, builtin, Sem.run_bind, Sem.run_pure, Result.andThen_ok, List.map_toArray, List.map_cons, List.map_nil, hs, hx, hr]
  exact h oa' cap' w' h2 h3 h5
theorem rino_info : (Tryd.prog.info? 62).map (fun i => (i.zero, i.size, i.bytes)) = some (some (.agg #[.int .i64 0, .int .i64 0, .int .i64 0, .int .i64 0, .int .i64 0, .slice none 0 0]), 6, 64) := by kernel_rfl
theorem IBox.below {w0 w' : World} {b : Nat} {y : IV} (h : IBox w0 b y) (k : Below w0.heap.size w0 w') : IBox w' b y := (k.block b (lt_of_block h)).trans h
set_option maxHeartbeats 6400000 in
theorem own_any (oa : Option Addr) (cap : Nat) (xs : List Ino) (ys : List IV) (hp : ∀ x ∈ xs, x.p.length ≤ 100000) (hl : xs.length ≤ 100000) (W : World) (h : IList W oa xs ys) :
    Calls Tryd.prog 27 #[.slice oa xs.length cap] W fun e w' => ∃ oa' cap' zs, e = .returned (.slice oa' xs.length cap') ∧ RowI 62 W.heap.size w' (.slice oa' xs.length cap') xs zs ∧ Below W.heap.size W w' := by
  obtain ⟨i0, hi, hz0, hz1, hz2⟩ := info_parts rino_info
  obtain ⟨j0, hj, gz0, gz1, gz2⟩ := info_parts partinfo
  have H := Lib.hid h
  have HPL := Lib.hid hp
  have hlen := h.read.1
  clear h hp
  go_enter Tryd.func27, Tryd.ntmps27
  go_wp2_with fail
  go_loopw [3, 4] (fun v i wr => ∃ (k : Nat) (zs : List IV), k ≤ xs.length ∧ i = .int .i64 (k : Int) ∧ RowI 62 W.heap.size wr v (xs.take k) zs ∧ Below W.heap.size W wr) (fun _ i _ => (xs.length - intOf i).toNat)
  case atStart => exact ⟨0, [], by omega, rfl, RowI.nil _ _ _, Below.refl _ _⟩
  case round =>
    obtain ⟨k, zs, hk, rfl, hrow, hbel⟩ := hrel
    have HB := Lib.hid hbel
    have HZ : Hid (zs.length = k) := Lib.hid (by rw [hrow.read.1, List.length_take]; omega)
    obtain ⟨oz, cz, rfl, hcz, _, _⟩ := hrow.row.form
    have hzk := HZ.out
    rw [hzk] at hrow hcz ⊢
    have HRI := Lib.hid hrow
    have HROW := Lib.hid hrow.row
    clear hbel hrow hzk
    by_cases hlt : k < xs.length
    · obtain ⟨x, hx⟩ : ∃ x, xs[k]? = some x := ⟨_, List.getElem?_eq_getElem hlt⟩
      obtain ⟨y, hy⟩ : ∃ y, ys[k]? = some y := ⟨_, List.getElem?_eq_getElem (by omega)⟩
      obtain ⟨yi, yk, yl, yo, ys', ya, yn, yc⟩ := y
      have HH := Lib.hid (H.out.grow HB.out)
      have hr := HH.out.read.2 k x _ hx hy
      obtain ⟨a, rfl, _, c0, c1, c2, c3, c4, c5⟩ := iv_at HH.out.at_ hy
      simp only at c0 c1 c2 c3 c4 c5
      obtain rfl : yn = x.p.length := hr.n
      have HR := Lib.hid hr
      have HPX : Hid (x.p.length ≤ 100000) := Lib.hid (HPL.out x (List.mem_of_getElem? hx))
      have HTX := Lib.hid (take_snocI hx)
      clear hx hy hr
      go_wp2_with fail
      have HBX : Hid (IBox (wr.alloc (.cells #[.int .i64 yi, .int .i64 yk, .int .i64 yl, .int .i64 yo, .int .i64 ys', .slice ya x.p.length yc] 86)) wr.heap.size ⟨yi, yk, yl, yo, ys', ya, x.p.length, yc⟩) := Lib.hid (heap_alloc_new wr _)
      have HBW := Lib.hid (below_alloc wr (.cells #[.int .i64 yi, .int .i64 yk, .int .i64 yl, .int .i64 yo, .int .i64 ys', .slice ya x.p.length yc] 86))
      generalize wr.alloc (.cells #[.int .i64 yi, .int .i64 yk, .int .i64 yl, .int .i64 yo, .int .i64 ys', .slice ya x.p.length yc] 86) = w at *
      obtain ⟨xb, hxb⟩ : ∃ xb, xb = wr.heap.size := ⟨_, rfl⟩
      rw [← hxb] at HBX ⊢
      have HXB := Lib.hid hxb
      have HS0 : Hid (IBox w.drew xb ⟨yi, yk, yl, yo, ys', ya, x.p.length, yc⟩) := Lib.hid HBX.out
      have HPT := Lib.hid ((HR.out.pts.grow HBW.out).grow (below_alloc w (.cells #[] 64)).drew)
      have HW := Lib.hid (show W.heap.size ≤ w.heap.size by have := HB.out.size; have := HBW.out.size; omega)
      have hpx := HPX.out
      clear c0 c1 c2 c3 c4 c5 hxb
      refine regionL 18 19 (fun w' => IBox w' xb ⟨yi, yk, yl, yo, ys', ya, x.p.length, yc⟩) (by kernel_rfl) rfl ?_
      refine takeL 0 (some 16) (v := ?_) rfl (by kernel_rfl) (by kernel_rfl) (by kernel_rfl) (by kernel_rfl) (fun _ _ _ h => h) rfl rfl HS0.out ?_ ?_
      rotate_left
      · intro wq hq
        obtain ⟨g0, g1, g2, g3, g4, g5⟩ := IBox.cells hq
        go_simp
        with_reducible rfl
      simp only [Act.put, List.setIfInBounds_toArray, List.set_cons_zero, List.set_cons_succ]
      refine takeL 1 (some 17) (v := ?_) rfl (by kernel_rfl) (by kernel_rfl) (by kernel_rfl) (by kernel_rfl) (fun _ _ _ h => h) rfl rfl HS0.out ?_ ?_
      rotate_left
      · intro wq hq
        obtain ⟨g0, g1, g2, g3, g4, g5⟩ := IBox.cells hq
        go_simp
        with_reducible rfl
      simp only [Act.put, List.setIfInBounds_toArray, List.set_cons_zero, List.set_cons_succ]
      refine takeL 2 (some 18) (v := ?_) rfl (by kernel_rfl) (by kernel_rfl) (by kernel_rfl) (by kernel_rfl) (fun _ _ _ h => h) rfl rfl HS0.out ?_ ?_
      rotate_left
      · intro wq hq
        obtain ⟨g0, g1, g2, g3, g4, g5⟩ := IBox.cells hq
        go_simp
        with_reducible rfl
      simp only [Act.put, List.setIfInBounds_toArray, List.set_cons_zero, List.set_cons_succ]
      refine takeL 3 (some 19) (v := ?_) rfl (by kernel_rfl) (by kernel_rfl) (by kernel_rfl) (by kernel_rfl) (fun _ _ _ h => h) rfl rfl HS0.out ?_ ?_
      rotate_left
      · intro wq hq
        obtain ⟨g0, g1, g2, g3, g4, g5⟩ := IBox.cells hq
        go_simp
        with_reducible rfl
      simp only [Act.put, List.setIfInBounds_toArray, List.set_cons_zero, List.set_cons_succ]
      refine takeL 4 (some 20) (v := ?_) rfl (by kernel_rfl) (by kernel_rfl) (by kernel_rfl) (by kernel_rfl) (fun _ _ _ h => h) rfl rfl HS0.out ?_ ?_
      rotate_left
      · intro wq hq
        obtain ⟨g0, g1, g2, g3, g4, g5⟩ := IBox.cells hq
        go_simp
        with_reducible rfl
      simp only [Act.put, List.setIfInBounds_toArray, List.set_cons_zero, List.set_cons_succ]
      refine takeL 5 (some 21) (v := ?_) rfl (by kernel_rfl) (by kernel_rfl) (by kernel_rfl) (by kernel_rfl) (fun _ _ _ h => h) rfl rfl HS0.out ?_ ?_
      rotate_left
      · intro wq hq
        obtain ⟨g0, g1, g2, g3, g4, g5⟩ := IBox.cells hq
        go_simp
        with_reducible rfl
      simp only [Act.put, List.setIfInBounds_toArray, List.set_cons_zero, List.set_cons_succ]
      refine takeL 6 (some 22) (v := ?_) rfl (by kernel_rfl) (by kernel_rfl) (by kernel_rfl) (by kernel_rfl) (fun _ _ _ h => h) rfl rfl HS0.out ?_ ?_
      rotate_left
      · intro wq hq
        obtain ⟨g0, g1, g2, g3, g4, g5⟩ := IBox.cells hq
        go_simp
        with_reducible rfl
      simp only [Act.put, List.setIfInBounds_toArray, List.set_cons_zero, List.set_cons_succ]
      refine takeL 7 (some 23) (v := ?_) rfl (by kernel_rfl) (by kernel_rfl) (by kernel_rfl) (by kernel_rfl) (fun _ _ _ h => h) rfl rfl HS0.out ?_ ?_
      rotate_left
      · intro wq hq
        obtain ⟨g0, g1, g2, g3, g4, g5⟩ := IBox.cells hq
        go_simp
        with_reducible rfl
      simp only [Act.put, List.setIfInBounds_toArray, List.set_cons_zero, List.set_cons_succ]
      refine takeL 8 (some 24) (v := ?_) rfl (by kernel_rfl) (by kernel_rfl) (by kernel_rfl) (by kernel_rfl) (fun _ _ _ h => h) rfl rfl HS0.out ?_ ?_
      rotate_left
      · intro wq hq
        obtain ⟨g0, g1, g2, g3, g4, g5⟩ := IBox.cells hq
        go_simp
        with_reducible rfl
      simp only [Act.put, List.setIfInBounds_toArray, List.set_cons_zero, List.set_cons_succ]
      refine takeL 9 (some 25) (v := ?_) rfl (by kernel_rfl) (by kernel_rfl) (by kernel_rfl) (by kernel_rfl) (fun _ _ _ h => h) rfl rfl HS0.out ?_ ?_
      rotate_left
      · intro wq hq
        obtain ⟨g0, g1, g2, g3, g4, g5⟩ := IBox.cells hq
        go_simp
        with_reducible rfl
      simp only [Act.put, List.setIfInBounds_toArray, List.set_cons_zero, List.set_cons_succ]
      refine takeL 10 (some 26) (v := ?_) rfl (by kernel_rfl) (by kernel_rfl) (by kernel_rfl) (by kernel_rfl) (fun _ _ _ h => h) rfl rfl HS0.out ?_ ?_
      rotate_left
      · intro wq hq
        obtain ⟨g0, g1, g2, g3, g4, g5⟩ := IBox.cells hq
        go_simp
        with_reducible rfl
      simp only [Act.put, List.setIfInBounds_toArray, List.set_cons_zero, List.set_cons_succ]
      refine takeL 12 (some 28) (v := ?_) rfl (by kernel_rfl) (by kernel_rfl) (by kernel_rfl) (by kernel_rfl) (fun _ _ _ h => h) rfl rfl HS0.out ?_ ?_
      rotate_left
      · intro wq hq
        obtain ⟨g0, g1, g2, g3, g4, g5⟩ := IBox.cells hq
        go_simp
        with_reducible rfl
      simp only [Act.put, List.setIfInBounds_toArray, List.set_cons_zero, List.set_cons_succ]
      refine takeL 13 (some 29) (v := ?_) rfl (by kernel_rfl) (by kernel_rfl) (by kernel_rfl) (by kernel_rfl) (fun _ _ _ h => h) rfl rfl HS0.out ?_ ?_
      rotate_left
      · intro wq hq
        obtain ⟨g0, g1, g2, g3, g4, g5⟩ := IBox.cells hq
        go_simp
        with_reducible rfl
      simp only [Act.put, List.setIfInBounds_toArray, List.set_cons_zero, List.set_cons_succ]
      refine oneL 11 (by kernel_rfl) rfl rfl (wp_runs (some 27) (v := .slice (some ⟨w.heap.size, 0, none⟩) 0 0) (w' := (w.alloc (.cells #[] 64)).drew) rfl (by go_simp) ⟨fun _ => HBX.out.below (below_alloc w _).drew, ?_⟩)
      simp only [Act.put, List.setIfInBounds_toArray, List.set_cons_zero, List.set_cons_succ]
      refine oneL 14 (by kernel_rfl) rfl rfl (wp_append_both (some 30) rfl rfl _ _ 23 rfl w.heap.size 64 j0 (.agg #[.int .i64 0, .int .i64 0, .int .i64 0, .int .i64 0]) 4 32 Tryd.underlying23 hj gz0 gz1 gz2 rfl (by decide) _ (.slice (some ⟨w.heap.size, 0, none⟩) 0 0) 0 [] rfl (own_empty_at (W := w.drew) rfl _ _ _ (Nat.le_refl _)) ya x.p.length yc (cellsOf x.p) rfl HR.out.nil (cells_len x.p) (pts_news HPT.out) (cells_onecell x.p) (by unfold maxLen; omega) (by omega) (below_alloc w _).drew.size ?_)
      intro oa2 cap2 w2 h1 h2 h3
      rw [Nat.zero_add, List.nil_append] at h1
      have HR2 : Hid (Row w.heap.size w2 (.slice oa2 x.p.length cap2) x.p) := Lib.hid h1
      have HB2 := Lib.hid ((below_alloc w (.cells #[] 64)).drew.trans h2)
      clear h1 h2 h3
      refine ⟨fun _ => HBX.out.below HB2.out, ?_⟩
      rw [Nat.zero_add]
      simp only [Act.put, List.setIfInBounds_toArray, List.set_cons_zero, List.set_cons_succ]
      have HS2 := Lib.hid (HBX.out.below HB2.out)
      refine takeL 15 (some 31) (v := ?_) rfl (by kernel_rfl) (by kernel_rfl) (by kernel_rfl) (by kernel_rfl) (fun _ _ _ h => h) rfl rfl HS2.out ?_ ?_
      rotate_left
      · intro wq hq
        have g0 := hq
        go_simp
        with_reducible rfl
      simp only [Act.put, List.setIfInBounds_toArray, List.set_cons_zero, List.set_cons_succ]
      have HB6 := Lib.hid (HB2.out.trans ((below_alloc w2 (.cells #[.int .i64 yi, .int .i64 yk, .int .i64 yl, .int .i64 yo, .int .i64 ys', .slice oa2 x.p.length cap2] 62)).mono HB2.out.size))
      have HOWN : Hid ((w2.alloc (.cells #[.int .i64 yi, .int .i64 yk, .int .i64 yl, .int .i64 yo, .int .i64 ys', .slice oa2 x.p.length cap2] 62)).ownsRow W.heap.size 62 6 (.slice oz k cz) k (zs.flatMap encI)) := Lib.hid (by
        have q := (HROW.out.grow HBW.out).grow HB6.out
        unfold RowK at q
        rwa [HZ.out] at q)
      refine oneL 16 (by kernel_rfl) rfl rfl (wp_runs (some 32) (v := .slice (some ⟨w2.heap.size, 0, none⟩) 1 1) (w' := w2.alloc (.cells #[.int .i64 yi, .int .i64 yk, .int .i64 yl, .int .i64 yo, .int .i64 ys', .slice oa2 x.p.length cap2] 62)) rfl (by go_simp) ⟨fun _ => HBX.out.below HB6.out, ?_⟩)
      simp only [Act.put, List.setIfInBounds_toArray, List.set_cons_zero, List.set_cons_succ]
      refine oneL 17 (by kernel_rfl) rfl rfl (wp_append_at (some 33) rfl _ _ 58 rfl W.heap.size 62 i0 (.agg #[.int .i64 0, .int .i64 0, .int .i64 0, .int .i64 0, .int .i64 0, .slice none 0 0]) 6 64 Tryd.underlying58 hi hz0 hz1 hz2 rfl (by decide) _ (.slice oz k cz) k (zs.flatMap encI) rfl HOWN.out ⟨w2.heap.size, 0, none⟩ 1 1 (encI ⟨yi, yk, yl, yo, ys', oa2, x.p.length, cap2⟩) rfl rfl (World.news_of_block (heap_alloc_new w2 _)) (encI_one _) (by unfold maxLen; omega) (by omega) (by have := HW.out; have := HB6.out.size; omega) ?_)
      intro oa5 cap5 w5 hown5 hg5 hv5
      have HXN : (Value.slice oz k cz).ownBlock ≠ some xb := row_farI HROW.out (by rw [HXB.out]; exact Nat.le_refl _)
      have hx5 : IBox w5 xb ⟨yi, yk, yl, yo, ys', ya, x.p.length, yc⟩ := (hg5.block xb (lt_of_block (HBX.out.below HB6.out)) (fun e => HXN e.symm)).trans (HBX.out.below HB6.out)
      refine ⟨fun _ => hx5, ?_⟩
      simp only [Act.put, List.setIfInBounds_toArray, List.set_cons_zero, List.set_cons_succ]
      refine oneL 18 (by kernel_rfl) rfl rfl (wp_runs (some 3) (v := .slice oa5 (k + 1) cap5) (w' := w5) rfl (by go_simp) ⟨fun _ => hx5, ?_⟩)
      simp only [Act.put, List.setIfInBounds_toArray, List.set_cons_zero, List.set_cons_succ]
      refine doneL (by kernel_rfl) ?_
      have hr0 := HR.out
      have hyr : IRead w2 x ⟨yi, yk, yl, yo, ys', oa2, x.p.length, cap2⟩ := ⟨hr0.i, hr0.k, hr0.l, hr0.o, hr0.s, rfl, HR2.out.pts, (row_base HR2.out).2.2⟩
      have HFIN := Lib.hid (HRI.out.snoc HZ.out (HBW.out.trans (HB2.out.mono HBW.out.size)) hyr (fun _ a ha => by have := ((row_base HR2.out).1 a ha).1; have := HBW.out.size; omega) rfl hown5 (grown_from_alloc hg5) (by rw [alloc_size] at hv5; exact hv5))
      have HB5 := Lib.hid (below_of_grown hg5 HOWN.out (by have := HW.out; have := HB6.out.size; omega))
      have HEND := Lib.hid ((HB.out.trans (HBW.out.mono HB.out.size)).trans ((HB6.out.mono HW.out).trans HB5.out))
      clear hx5 hown5 hg5 hv5 hr0 hyr
      go_wp2_with fail
      have hfin := HFIN.out
      rw [← HTX.out] at hfin
      exact ⟨⟨k + 1, _, by omega, by simp, hfin, HEND.out⟩, by simp [intOf]; omega⟩
    · obtain rfl : k = xs.length := by omega
      rw [List.take_length] at HRI
      go_wp2_with fail
      go_ret
      exact ⟨oz, cz, zs, rfl, HRI.out, HB.out⟩
end Go.Proofs.YthnkpoagpjnopaaDoor.InoW

namespace Go.Proofs.YthnkpoagpjnopaaDoor.InoW
set_option maxRecDepth 100000
open Go.RowKit InoP ExtW
set_option maxHeartbeats 3200000 in
theorem good_yes (nx : Int) (x : Ino) (yi yk yl yo ys : Int) (ya : Option Addr) (yn yc : Nat) (hx : OkX nx x) (w : World) (h : IRead w x ⟨yi, yk, yl, yo, ys, ya, yn, yc⟩) :
    Calls Tryd.prog 52 #[.agg #[.int .i64 yi, .int .i64 yk, .int .i64 yl, .int .i64 yo, .int .i64 ys, .slice ya yn yc]] w fun e w' => e = .returned (.bool true) ∧ Below w.heap.size w w' := by
  have HBX : Hid (IBox (w.alloc (.cells #[.int .i64 yi, .int .i64 yk, .int .i64 yl, .int .i64 yo, .int .i64 ys, .slice ya yn yc] 86)) w.heap.size ⟨yi, yk, yl, yo, ys, ya, yn, yc⟩) := Lib.hid (heap_alloc_new w _)
  have HBW := Lib.hid (below_alloc w (.cells #[.int .i64 yi, .int .i64 yk, .int .i64 yl, .int .i64 yo, .int .i64 ys, .slice ya yn yc] 86))
  have h1 := hx.l; have h2 := hx.o; have h3 := hx.h; have h4 := hx.s
  have e1 : yk = x.k := h.k; have e2 : yl = x.l := h.l; have e3 : yo = x.o := h.o; have e4 : ys = x.s := h.s
  obtain rfl : yn = x.p.length := h.n
  have a1 : decide (yl < 0) = false := decide_eq_false (by omega)
  have a2 : decide (8 < yl) = false := decide_eq_false (by omega)
  have a3 : decide (yo < 0) = false := decide_eq_false (by omega)
  have a4 : decide (128 < yo) = false := decide_eq_false (by omega)
  have a5 : IntKind.i64.wrap (yl + yo) = yl + yo := IntWalk.i64_in _ (by omega)
  have a6 : decide (yl + yo < 1) = false := decide_eq_false (by omega)
  rcases hx.k with hk | hk
  · obtain ⟨d1, d2, d3⟩ := hx.d hk
    obtain rfl : yk = 1 := by omega
    obtain rfl : yo = 0 := by omega
    obtain rfl : ys = 0 := by omega
    have a7 : IntKind.i64.wrap yl = yl := IntWalk.i64_in _ (by omega)
    have a8 : decide (yl < 1) = false := decide_eq_false (by omega)
    rw [d3] at HBX HBW ⊢
    clear a5 a6
    clear h hx h1 h2 h3 h4 e1 e2 e3 e4 hk d1 d2 d3
    go_enter Tryd.func52, Tryd.ntmps52
    go_wp2_with fail
    go_ret
    exact ⟨rfl, HBW.out⟩
  · obtain rfl : yk = 2 := by omega
    have b1 : (0 : Int) ≤ ys := by omega
    have b2 : ys ≤ 8192 := by omega
    have b3 : endS x.p ≤ ys := by rw [e4]; exact hx.e
    have HG : Hid (decide (ExtW.Good x.p) = true) := Lib.hid (decide_eq_true hx.g)
    have HLN : Hid (x.p.length ≤ 64) := Lib.hid hx.g.1
    have HPT := Lib.hid (h.pts.grow HBW.out)
    obtain ⟨E, hE⟩ : ∃ E, endS x.p = E := ⟨_, rfl⟩
    rw [hE] at b3
    have HE := Lib.hid hE
    have b4 : decide (E ≤ ys) = true := decide_eq_true b3
    clear h hx h1 h2 h3 h4 e1 e2 e3 e4 hk hE
    go_enter Tryd.func52, Tryd.ntmps52
    go_wp2_with fail
    generalize w.alloc (.cells #[.int .i64 yi, .int .i64 2, .int .i64 yl, .int .i64 yo, .int .i64 ys, .slice ya x.p.length yc] 86) = w1 at *
    refine held_below (by kernel_rfl) (by kernel_rfl) ?_
    repeat first
      | (refine held_skip ?_ ?_; (· first | rfl | (go_simp; done)); simp only [Act.put, List.setIfInBounds_toArray, List.set_cons_zero, List.set_cons_succ])
      | (refine held_val (v := ?_) ?_ ?_ ?_
         rotate_left
         · first | rfl | (go_simp; done)
         · intro wq hq
           obtain ⟨c0, c1, c2, c3, c4, c5⟩ := IBox.cells ((hq.block _ (lt_of_block HBX.out)).trans HBX.out)
           go_simp
           with_reducible rfl
         simp only [Act.put, List.setIfInBounds_toArray, List.set_cons_zero, List.set_cons_succ])
      | (refine held_call (v := ?_) (f := ?_) (args := ?_) ?_ ?_ ?_ ?_
         rotate_left 3
         · first | rfl | (go_simp; done)
         · intro wq
           go_simp
           constructor
           · rfl
           · rfl
         · intro wq hq
           first
             | (refine (good_any _ ya yc x.p (by have := HLN.out; omega) wq (Nat.le_refl _) (HPT.out.grow hq)).mono ?_
                rintro e wr ⟨rfl, hb1⟩
                rw [HG.out]
                constructor
                · rfl
                · exact bstep hq hb1)
             | (refine (end_any ya x.p.length yc x.p rfl (by have := HLN.out; omega) wq (HPT.out.grow hq)).mono ?_
                rintro e wr ⟨rfl, hb1⟩
                rw [HE.out]
                constructor
                · rfl
                · exact bstep hq hb1)
         simp only [Act.put, List.setIfInBounds_toArray, List.set_cons_zero, List.set_cons_succ])
    refine held_nil ?_
    intro w2 hb2
    have HB2 := Lib.hid (bstep HBW.out hb2)
    clear hb2
    go_wp2_with fail
    go_ret
    exact ⟨rfl, HB2.out⟩
/-- the map while it is laid -/
structure Lay (w W : World) (tb mb k : Nat) (xs : List Ino) : Prop where
  map : ∃ n g, TmIs w mb n g ∧ (∀ i, find (xs.take k) i = none → g i = none) ∧ ∀ i x, find (xs.take k) i = some x → ∃ y, g i = some y ∧ IRel w tb mb x y
  below : Below W.heap.size W w
theorem Lay.grow {w w' W : World} {tb mb k : Nat} {xs : List Ino} (h : Lay w W tb mb k xs) (hb : Below w.heap.size w w') : Lay w' W tb mb k xs :=
  ⟨by obtain ⟨n, g, m, h1, h2⟩ := h.map; exact ⟨n, g, MapIs.keep m hb, h1, fun i x hx => by obtain ⟨y, hy, hr⟩ := h2 i x hx; exact ⟨y, hy, hr.grow hb⟩⟩, bstep h.below hb⟩
theorem Lay.put {w w' W : World} {tb mb k m : Nat} {xs : List Ino} {g : Int → Option IV} {x : Ino} {y : IV} (hr : Rises xs) (hx : xs[k]? = some x) (h1 : ∀ i, find (xs.take k) i = none → g i = none)
    (h2 : ∀ i x, find (xs.take k) i = some x → ∃ y, g i = some y ∧ IRel w tb mb x y) (hy : IRel w tb mb x y) (hm' : TmIs w' mb m (fun z => if z = x.i then some y else g z)) (ho : Only mb w w') (hb : Below W.heap.size W w) (hW : W.heap.size ≤ mb) : Lay w' W tb mb (k + 1) xs := by
  have e := find_snoc (xs.take k) x (take_find hr hx)
  refine ⟨⟨m, _, hm', fun i hi => ?_, fun i z hz => ?_⟩, hb.trans (ho.below hW hb.size)⟩
  · rw [take_snocI hx, e] at hi
    by_cases c : i = x.i
    · simp [c] at hi
    · simp only [if_neg c] at hi ⊢; exact h1 i hi
  · rw [take_snocI hx, e] at hz
    by_cases c : i = x.i
    · simp only [if_pos c] at hz ⊢
      injection hz with hz
      exact ⟨y, rfl, hz ▸ hy.only ho (.inr rfl)⟩
    · simp only [if_neg c] at hz ⊢
      obtain ⟨u, hu, hq⟩ := h2 i z hz
      exact ⟨u, hu, hq.only ho (.inr rfl)⟩
set_option maxHeartbeats 6400000 in
theorem load_yes (tb b : Nat) (L0 : List Ino) (n0 nx : Int) (oa : Option Addr) (cap : Nat) (xs : List Ino) (ys : List IV) (hg : LGood xs nx) (W : World) (h : TIs W tb b L0 n0) (hl : IList W oa xs ys) :
    Calls Tryd.prog 29 #[.pointer (some ⟨tb, 0, none⟩), .slice oa xs.length cap, .int .i64 nx] W fun e w' => e = .returned (.int .i64 0) ∧ ∃ mb, TIs w' tb mb xs nx ∧ W.heap.size ≤ mb ∧ Only tb W w' := by
  have hmm := @run_makeMap Tryd.prog
  have HT := Lib.hid h
  have H := Lib.hid hl
  have HG := Lib.hid hg
  have hlen := hl.read.1
  have hn := hg.n
  have hln := hg.len
  obtain ⟨r, hr0⟩ : ∃ r, xs[0]? = some r := ⟨_, List.getElem?_eq_getElem (by omega)⟩
  obtain ⟨y, hy0⟩ : ∃ y, ys[0]? = some y := ⟨_, List.getElem?_eq_getElem (by omega)⟩
  obtain ⟨f1, f2, f3⟩ := hg.first r hr0
  have q0 := hl.read.2 0 r y hr0 hy0
  obtain ⟨a, rfl, _, c0, c1, c2, _, _, _⟩ := iv_at hl.at_ hy0
  rw [q0.i, f1] at c0; rw [q0.k, f2] at c1; rw [q0.l, f3] at c2
  simp only [Nat.zero_mul, Addr.add, if_true] at c0 c1 c2
  have d1 : decide ((xs.length : Int) < 1) = false := decide_eq_false (by omega)
  have d2 : decide ((64 : Int) < (xs.length : Int)) = false := decide_eq_false (by omega)
  have d3 : decide (nx < 2) = false := decide_eq_false (by omega)
  have d4 : decide (2147483647 < nx) = false := decide_eq_false (by omega)
  have d5 : (0 : Int) < (xs.length : Int) := by omega
  have d6 : 0 < xs.length := by omega
  have HM0 : Hid (TmIs (W.alloc (.map #[] 0)) W.heap.size 0 (fun _ => none)) := Lib.hid (MapIs.made W)
  have HB0 := Lib.hid (below_alloc W (.map #[] 0))
  have HLT := Lib.hid h.lt
  clear h hl hg hr0 hy0 q0 hn f1 f2 f3
  go_enter Tryd.func29, Tryd.ntmps29
  go_wp2_with fail
  generalize hmb : W.heap.size = mb at HM0 ⊢
  have HMB := Lib.hid hmb
  have HLY0 : Hid (Lay (W.alloc (.map #[] 0)) W tb mb 0 xs) := Lib.hid ⟨⟨0, _, HM0.out, fun _ _ => rfl, fun i x hx => by simp [find] at hx⟩, HB0.out⟩
  clear c0 c1 c2 d1 d2 d3 d4 d5 d6 hmm hmb
  go_loopw [52] (fun i wr => ∃ k : Nat, k ≤ xs.length ∧ i = .int .i64 (k : Int) ∧ Lay wr W tb mb k xs) (fun i _ => (xs.length - intOf i).toNat)
  case atStart => exact ⟨0, by omega, rfl, HLY0.out⟩
  case round =>
    obtain ⟨k, hk, rfl, hlay⟩ := hrel
    by_cases hlt : k < xs.length
    · obtain ⟨x, hx⟩ : ∃ x, xs[k]? = some x := ⟨_, List.getElem?_eq_getElem hlt⟩
      obtain ⟨y, hy⟩ : ∃ y, ys[k]? = some y := ⟨_, List.getElem?_eq_getElem (by omega)⟩
      obtain ⟨yi, yk, yl, yo, ys', ya, yn, yc⟩ := y
      have HH := Lib.hid (H.out.grow hlay.below)
      have hr := HH.out.read.2 k x _ hx hy
      obtain ⟨a', ea, _, c0, c1, c2, c3, c4, c5⟩ := iv_at HH.out.at_ hy
      obtain rfl : a = a' := by simpa using ea
      simp only at c0 c1 c2 c3 c4 c5
      obtain rfl : yn = x.p.length := hr.n
      obtain rfl : yi = x.i := hr.i
      have HR := Lib.hid hr
      obtain ⟨hok, hprev⟩ := HG.out.all k hlt x hx
      have HOK := Lib.hid hok
      have e1 : decide (nx ≤ x.i) = false := decide_eq_false (by have := hok.i2; omega)
      obtain ⟨n, g, hm, g1, g2⟩ := hlay.map
      have HM := Lib.hid hm
      have HG1 := Lib.hid g1
      have HG2 := Lib.hid g2
      have HLB := Lib.hid hlay.below
      have HX := Lib.hid hx
      have HIX : Hid (iOk x.i) := Lib.hid (iOk_of (by have := hok.i1; have := hok.i2; have := HG.out.n; omega))
      have HPL : Hid (x.p.length ≤ 64) := Lib.hid hok.g.1
      obtain ⟨pv, hpv⟩ : ∃ pv : Int, ∀ j, k = j + 1 → (∃ yj : IV, ys[j]? = some yj ∧ yj.i = pv) ∧ pv < x.i := by
        cases k with
        | zero => exact ⟨0, fun j h => by omega⟩
        | succ j =>
          obtain ⟨p, hp⟩ : ∃ p, xs[j]? = some p := ⟨_, List.getElem?_eq_getElem (by omega)⟩
          obtain ⟨yj, hyj⟩ : ∃ yj, ys[j]? = some yj := ⟨_, List.getElem?_eq_getElem (by omega)⟩
          refine ⟨yj.i, fun j' h => ?_⟩
          obtain rfl : j = j' := by omega
          refine ⟨⟨yj, hyj, rfl⟩, ?_⟩
          rw [(HH.out.read.2 j p yj hp hyj).i]
          exact hprev p (by omega) hp
      clear hx hy hr hok hprev hm g1 g2 hlay
      have HBX : Hid (IBox (wr.alloc (.cells #[.int .i64 x.i, .int .i64 yk, .int .i64 yl, .int .i64 yo, .int .i64 ys', .slice ya x.p.length yc] 86)) wr.heap.size ⟨x.i, yk, yl, yo, ys', ya, x.p.length, yc⟩) := Lib.hid (heap_alloc_new wr _)
      have HBW := Lib.hid (below_alloc wr (.cells #[.int .i64 x.i, .int .i64 yk, .int .i64 yl, .int .i64 yo, .int .i64 ys', .slice ya x.p.length yc] 86))
      by_cases hk0 : k = 0
      · have z1 : ¬ 0 < k := by omega
        clear hk0 hpv
        go_wp2_with fail
        have HBW2 := Lib.hid (HLB.out.trans (HBW.out.mono HLB.out.size))
        clear c0 c1 c2 c3 c4 c5
        generalize wr.alloc (.cells #[.int .i64 x.i, .int .i64 yk, .int .i64 yl, .int .i64 yo, .int .i64 ys', .slice ya x.p.length yc] 86) = w1 at *
        refine held_below (by kernel_rfl) (by kernel_rfl) ?_
        repeat first
          | (refine held_skip ?_ ?_; (· first | rfl | (go_simp; done)); simp only [Act.put, List.setIfInBounds_toArray, List.set_cons_zero, List.set_cons_succ])
          | (refine held_val (v := ?_) ?_ ?_ ?_
             rotate_left
             · first | rfl | (go_simp; done)
             · intro wq hq
               obtain ⟨c0, c1, c2, c3, c4, c5⟩ := IBox.cells ((hq.block _ (lt_of_block HBX.out)).trans HBX.out)
               go_simp
               with_reducible rfl
             simp only [Act.put, List.setIfInBounds_toArray, List.set_cons_zero, List.set_cons_succ])
          | (refine held_call (v := ?_) (f := ?_) (args := ?_) ?_ ?_ ?_ ?_
             rotate_left 3
             · first | rfl | (go_simp; done)
             · intro wq
               go_simp
               constructor
               · rfl
               · rfl
             · intro wq hq
               first
                 | (refine (good_yes nx x x.i yk yl yo ys' ya x.p.length yc HOK.out wq ((HR.out.grow HBW.out).grow hq)).mono ?_
                    rintro e wn ⟨rfl, hb1⟩
                    constructor
                    · rfl
                    · exact bstep hq hb1)
             simp only [Act.put, List.setIfInBounds_toArray, List.set_cons_zero, List.set_cons_succ])
        refine held_nil ?_
        intro w2 hb2
        have hbx2 : IBox w2 wr.heap.size ⟨x.i, yk, yl, yo, ys', ya, x.p.length, yc⟩ := (hb2.block _ (lt_of_block HBX.out)).trans HBX.out
        obtain ⟨c0, c1, c2, c3, c4, c5⟩ := IBox.cells hbx2
        have HBX2 := Lib.hid hbx2
        have HB2 := Lib.hid hb2
        have HM2 := Lib.hid (MapIs.keep HM.out (bstep HBW.out hb2))
        clear hb2 hbx2
        go_wp2_with (first
          | (go_at_call 36; go_loud (refine (clone_any ya yc _ x.p rfl (by have := HPL.out; omega) HR.out.nil _ ((HR.out.grow HBW.out).grow HB2.out).pts).mono ?_; rintro e w4 ⟨oa4, cap4, rfl, hr4, hb4⟩; clear c0 c1 c2 c3 c4 c5; have hbx : IBox w4 wr.heap.size ⟨x.i, yk, yl, yo, ys', ya, x.p.length, yc⟩ := (hb4.block _ (lt_of_block HBX2.out)).trans HBX2.out; obtain ⟨c0, c1, c2, c3, c4, c5⟩ := hbx.cells; have f5 := Lib.frozen_of_heap hbx 5; have HR4 := Lib.hid hr4; have HB4 := Lib.hid hb4; have HM4 := Lib.hid (MapIs.only (MapIs.keep HM2.out hb4) ((Only.refl wr.heap.size w4).setCell 5 (.slice oa4 x.p.length cap4)) (by have := MapIs.lt HM.out; omega)); clear hr4 hb4 hbx))
          | (at_mapUpdate; go_loud (refine wpList_map_store _ rfl _ _ _ 105 86 rfl iMK Tryd.underlying105 mb n g HM4.out (by rfl) x.i ⟨x.i, yk, yl, yo, ys', oa4, x.p.length, cap4⟩ HIX.out (by rfl) (by rfl) ?_; intro w5 hm5 ho5 hs5; have HM5 := Lib.hid hm5; have HO5 := Lib.hid ho5; clear hm5 ho5 hs5)))
        have hbw : wr.heap.size < w1.heap.size := lt_of_block HBX.out
        have hr6 : Row w2.heap.size (w4.setCell ⟨wr.heap.size, 5, none⟩ (.slice oa4 x.p.length cap4)) (.slice oa4 x.p.length cap4) x.p :=
          ((Only.refl wr.heap.size w4).setCell 5 _).keepRow HR4.out (fun e => by
            have hq := (row_base HR4.out).1
            have := HB2.out.size
            cases oa4 with
            | none => simp [Value.ownBlock] at e
            | some ad => have := (hq ad rfl).1; simp [Value.ownBlock] at e; omega)
        have hb6 : Below wr.heap.size wr (w4.setCell ⟨wr.heap.size, 5, none⟩ (.slice oa4 x.p.length cap4)) := (bstep (bstep HBW.out HB2.out) HB4.out).setCell (p := ⟨wr.heap.size, 5, none⟩) (Nat.le_refl _) _
        have hr0 := HR.out
        have hrel : IRel (w4.setCell ⟨wr.heap.size, 5, none⟩ (.slice oa4 x.p.length cap4)) tb mb x ⟨x.i, yk, yl, yo, ys', oa4, x.p.length, cap4⟩ :=
          ⟨rfl, hr0.k, hr0.l, hr0.o, hr0.s, rfl, hr6.pts, fun ad had => by have := ((row_base hr6).1 ad had).1; have := HLT.out; have := HLB.out.size; have := MapIs.lt HM.out; have := HB2.out.size; omega, (row_base hr6).2.2⟩
        have hput := Lay.put (W := W) (tb := tb) HG.out.rises HX.out HG1.out (fun i z hz => by obtain ⟨u, hu, hq⟩ := HG2.out i z hz; exact ⟨u, hu, hq.grow hb6⟩) hrel HM5.out HO5.out (bstep HLB.out hb6) (by rw [HMB.out]; exact Nat.le_refl _)
        exact ⟨⟨k + 1, by omega, by simp, hput⟩, by simp [intOf]; omega⟩
      · obtain ⟨j, hj⟩ : ∃ j, k = j + 1 := ⟨k - 1, by omega⟩
        obtain ⟨⟨yj, hyj, hpi⟩, hlt2⟩ := hpv j hj
        obtain ⟨a2, ea2, _, p0, _⟩ := iv_at HH.out.at_ hyj
        obtain rfl : a = a2 := by simpa using ea2
        rw [hpi] at p0
        have z1 : 0 < k := by omega
        have z2 : IntKind.i64.wrap ((k : Int) - 1) = (j : Int) := by rw [IntWalk.i64_in _ (by omega)]; omega
        have z3 : (j : Int) < (xs.length : Int) := by omega
        have z4 : j < xs.length := by omega
        have z5 : decide (x.i ≤ pv) = false := decide_eq_false (by omega)
        have P0 := Lib.hid p0
        clear hk0 hpv hyj hpi hlt2 hj p0
        go_wp2_with fail
        have HBW2 := Lib.hid (HLB.out.trans (HBW.out.mono HLB.out.size))
        clear c0 c1 c2 c3 c4 c5
        generalize wr.alloc (.cells #[.int .i64 x.i, .int .i64 yk, .int .i64 yl, .int .i64 yo, .int .i64 ys', .slice ya x.p.length yc] 86) = w1 at *
        refine held_below (by kernel_rfl) (by kernel_rfl) ?_
        repeat first
          | (refine held_skip ?_ ?_; (· first | rfl | (go_simp; done)); simp only [Act.put, List.setIfInBounds_toArray, List.set_cons_zero, List.set_cons_succ])
          | (refine held_val (v := ?_) ?_ ?_ ?_
             rotate_left
             · first | rfl | (go_simp; done)
             · intro wq hq
               obtain ⟨c0, c1, c2, c3, c4, c5⟩ := IBox.cells ((hq.block _ (lt_of_block HBX.out)).trans HBX.out)
               have p0 := cell_step (bstep HBW.out hq) P0.out
               go_simp
               with_reducible rfl
             simp only [Act.put, List.setIfInBounds_toArray, List.set_cons_zero, List.set_cons_succ])
          | (refine held_call (v := ?_) (f := ?_) (args := ?_) ?_ ?_ ?_ ?_
             rotate_left 3
             · first | rfl | (go_simp; done)
             · intro wq
               go_simp
               constructor
               · rfl
               · rfl
             · intro wq hq
               first
                 | (refine (good_yes nx x x.i yk yl yo ys' ya x.p.length yc HOK.out wq ((HR.out.grow HBW.out).grow hq)).mono ?_
                    rintro e wn ⟨rfl, hb1⟩
                    constructor
                    · rfl
                    · exact bstep hq hb1)
             simp only [Act.put, List.setIfInBounds_toArray, List.set_cons_zero, List.set_cons_succ])
        refine held_nil ?_
        intro w2 hb2
        have hbx2 : IBox w2 wr.heap.size ⟨x.i, yk, yl, yo, ys', ya, x.p.length, yc⟩ := (hb2.block _ (lt_of_block HBX.out)).trans HBX.out
        obtain ⟨c0, c1, c2, c3, c4, c5⟩ := IBox.cells hbx2
        have HBX2 := Lib.hid hbx2
        have HB2 := Lib.hid hb2
        have HM2 := Lib.hid (MapIs.keep HM.out (bstep HBW.out hb2))
        clear hb2 hbx2
        go_wp2_with (first
          | (go_at_call 36; go_loud (refine (clone_any ya yc _ x.p rfl (by have := HPL.out; omega) HR.out.nil _ ((HR.out.grow HBW.out).grow HB2.out).pts).mono ?_; rintro e w4 ⟨oa4, cap4, rfl, hr4, hb4⟩; clear c0 c1 c2 c3 c4 c5; have hbx : IBox w4 wr.heap.size ⟨x.i, yk, yl, yo, ys', ya, x.p.length, yc⟩ := (hb4.block _ (lt_of_block HBX2.out)).trans HBX2.out; obtain ⟨c0, c1, c2, c3, c4, c5⟩ := hbx.cells; have f5 := Lib.frozen_of_heap hbx 5; have HR4 := Lib.hid hr4; have HB4 := Lib.hid hb4; have HM4 := Lib.hid (MapIs.only (MapIs.keep HM2.out hb4) ((Only.refl wr.heap.size w4).setCell 5 (.slice oa4 x.p.length cap4)) (by have := MapIs.lt HM.out; omega)); clear hr4 hb4 hbx))
          | (at_mapUpdate; go_loud (refine wpList_map_store _ rfl _ _ _ 105 86 rfl iMK Tryd.underlying105 mb n g HM4.out (by rfl) x.i ⟨x.i, yk, yl, yo, ys', oa4, x.p.length, cap4⟩ HIX.out (by rfl) (by rfl) ?_; intro w5 hm5 ho5 hs5; have HM5 := Lib.hid hm5; have HO5 := Lib.hid ho5; clear hm5 ho5 hs5)))
        have hbw : wr.heap.size < w1.heap.size := lt_of_block HBX.out
        have hr6 : Row w2.heap.size (w4.setCell ⟨wr.heap.size, 5, none⟩ (.slice oa4 x.p.length cap4)) (.slice oa4 x.p.length cap4) x.p :=
          ((Only.refl wr.heap.size w4).setCell 5 _).keepRow HR4.out (fun e => by
            have hq := (row_base HR4.out).1
            have := HB2.out.size
            cases oa4 with
            | none => simp [Value.ownBlock] at e
            | some ad => have := (hq ad rfl).1; simp [Value.ownBlock] at e; omega)
        have hb6 : Below wr.heap.size wr (w4.setCell ⟨wr.heap.size, 5, none⟩ (.slice oa4 x.p.length cap4)) := (bstep (bstep HBW.out HB2.out) HB4.out).setCell (p := ⟨wr.heap.size, 5, none⟩) (Nat.le_refl _) _
        have hr0 := HR.out
        have hrel : IRel (w4.setCell ⟨wr.heap.size, 5, none⟩ (.slice oa4 x.p.length cap4)) tb mb x ⟨x.i, yk, yl, yo, ys', oa4, x.p.length, cap4⟩ :=
          ⟨rfl, hr0.k, hr0.l, hr0.o, hr0.s, rfl, hr6.pts, fun ad had => by have := ((row_base hr6).1 ad had).1; have := HLT.out; have := HLB.out.size; have := MapIs.lt HM.out; have := HB2.out.size; omega, (row_base hr6).2.2⟩
        have hput := Lay.put (W := W) (tb := tb) HG.out.rises HX.out HG1.out (fun i z hz => by obtain ⟨u, hu, hq⟩ := HG2.out i z hz; exact ⟨u, hu, hq.grow hb6⟩) hrel HM5.out HO5.out (bstep HLB.out hb6) (by rw [HMB.out]; exact Nat.le_refl _)
        exact ⟨⟨k + 1, by omega, by simp, hput⟩, by simp [intOf]; omega⟩
    · obtain rfl : k = xs.length := by omega
      obtain ⟨n, g, hm, g1, g2⟩ := hlay.map
      rw [List.take_length] at g1 g2
      have HM := Lib.hid hm
      have HG1 := Lib.hid g1
      have HG2 := Lib.hid g2
      have HLB := Lib.hid hlay.below
      have hhd := (HLB.out.block tb HLT.out.1).trans HT.out.head
      have HHD := Lib.hid hhd
      have t0 := (new_cells hhd 0 (by simp)).1
      have t1 := (new_cells hhd 1 (by simp)).1
      have u0 := (new_cells hhd 0 (by simp)).2
      have u1 := (new_cells hhd 1 (by simp)).2
      simp only [List.getElem_toArray, List.getElem_cons_zero, List.getElem_cons_succ] at t0 t1
      clear hlay hm g1 g2 hhd
      go_wp2_with fail
      go_ret
      have ho : Only tb wr ((wr.setCell ⟨tb, 0, none⟩ (.map (some mb))).setCell ⟨tb, 1, none⟩ (.int .i64 nx)) := ((Only.refl tb wr).setCell 0 _).setCell 1 _
      have hne : mb ≠ tb := by have := HLT.out.1; have := HMB.out; omega
      refine ⟨rfl, mb, ⟨?_, ⟨n, g, MapIs.only HM.out ho hne, HG1.out, fun i x hx => ?_⟩, HG.out.table⟩, by rw [HMB.out]; exact Nat.le_refl _, (Only.of_below HLB.out).trans ho⟩
      · rw [heap_setCell_same _ tb 1 _ _ _ (heap_setCell_same wr tb 0 _ _ _ HHD.out)]; rfl
      · obtain ⟨y, hy, hr⟩ := HG2.out i x hx
        exact ⟨y, hy, hr.only ho (.inl rfl)⟩
end Go.Proofs.YthnkpoagpjnopaaDoor.InoW
