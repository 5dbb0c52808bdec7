/- The reference's gather. -/
import Derived.Test.YtappgelpigoknaaExtSpread
namespace Go.Proofs.Ytappgelpigoknaa.ExtW
open Go.RowKit
theorem units_len (g : Int → Option (Int × Int)) (lo : Int) : ∀ k : Nat, (units g lo k).length ≤ k
  | 0 => by simp [units]
  | k + 1 => by
    have := units_len g lo k
    rw [units, List.length_append]
    split <;> simp <;> omega
theorem units_pre (g : Int → Option (Int × Int)) (lo : Int) (k : Nat) : ∀ m : Nat, ∀ x ∈ units g lo k, x ∈ units g lo (k + m)
  | 0, x, h => h
  | m + 1, x, h => by
    rw [← Nat.add_assoc, units, List.mem_append]
    exact .inl (units_pre g lo k m x h)
set_option maxRecDepth 100000 in
set_option maxHeartbeats 3200000 in
theorem gather_any (B : Nat) (a : Addr) (d : Nat → Int × Int) (g : Int → Option (Int × Int)) (hsay : Says d g) (ho : ∀ x ∈ units g 0 8192, One x) (w : World) (h : Spr B w a d) :
    Calls Try.prog 69 #[.slice (some a) 8192 8192] w fun e w' => ∃ v, e = .returned v ∧ Row w.heap.size w' v (joinL (units g 0 8192)) ∧ Below w.heap.size w w' := by
  obtain ⟨i0, hi, hz0, hz1, hz2⟩ := info_parts partinfo
  have HSP := Lib.hid h
  have HSAY := Lib.hid hsay
  obtain ⟨N, hN⟩ : ∃ N : Nat, N = 8192 := ⟨_, rfl⟩
  have HN := Lib.hid hN
  rw [← hN] at ho ⊢
  have HO := Lib.hid ho
  have hN1 : N ≤ 8192 := by omega
  clear h hsay ho hN
  have HNI : Hid ((N : Int) = 8192) := Lib.hid (by have := HN.out; omega)
  go_enter Try.func69, Try.ntmps69
  go_wp2_with fail
  go_loopw [3, 4] (fun v i wr => ∃ k : Nat, k ≤ N ∧ i = .int .i64 (k : Int) ∧ Row w.heap.size wr v (joinL (units g 0 k)) ∧ Below w.heap.size w wr) (fun _ i _ => ((N : Int) - intOf i).toNat)
  case atStart => exact ⟨0, by omega, rfl, Row.nil _ _, Below.refl _ _⟩
  case round =>
    obtain ⟨k, hk, rfl, hrow, hbel⟩ := hrel
    have HB := Lib.hid hbel
    have HSPR := Lib.hid (HSP.out.grow hbel)
    clear hbel
    by_cases hlt : k < N
    · have hk8 : (k : Int) < 8192 := by omega
      have hk88 : k < 8192 := by omega
      have hk0 : (0 : Int) ≤ (k : Int) := by omega
      obtain ⟨q0, q1, _, _⟩ := HSPR.out.cells hk88
      have HU : Hid (units g 0 (k + 1) = units g 0 k ++ (match g (0 + k) with | some (a, f) => [⟨0 + k, 1, a, f⟩] | none => [])) := Lib.hid rfl
      rw [Int.zero_add] at HU
      have HSK := Lib.hid (HSAY.out k hk88)
      obtain ⟨u, v, huv⟩ : ∃ u v, d k = (u, v) := ⟨_, _, rfl⟩
      rw [huv] at q0 q1 HSK
      simp only at q0 q1 HSK
      clear huv
      by_cases hu : u < 0
      · have HX : Hid (joinL (units g 0 (k + 1)) = joinL (units g 0 k)) := Lib.hid (by
          have := HSK.out.1
          rw [HU.out]
          rcases this with ⟨_, hg⟩ | ⟨h1, _⟩
          · rw [hg, List.append_nil]
          · omega)
        obtain ⟨oa2, cap2, rfl, hc2, _, _⟩ := hrow.form
        have HR := Lib.hid hrow
        clear hrow HU
        generalize joinL (units g 0 k) = J at HR HX hc2 ⊢
        go_wp2_with fail
        exact ⟨⟨k + 1, by omega, by simp, by rw [HX.out]; exact HR.out, HB.out⟩, by simp [intOf]; omega⟩
      · have hgk : g (k : Int) = some (u, v) := by
          rcases HSK.out.1 with ⟨h1, _⟩ | ⟨_, h2⟩
          · exact absurd h1 hu
          · exact h2
        rw [hgk] at HU
        have HX1 : Hid (joinL (units g 0 (k + 1)) = snocJ (joinL (units g 0 k)) ⟨k, 1, u, v⟩) := Lib.hid (by rw [HU.out]; exact join_snoc _ _)
        have hvb := HSK.out.2
        have HLEN : Hid ((joinL (units g 0 k)).length ≤ k) := Lib.hid (Nat.le_trans (join_len _) (units_len g 0 k))
        have HF : Hid (∀ y ∈ joinL (units g 0 k), One y) := Lib.hid (by
          obtain ⟨m, hm⟩ : ∃ m, N = k + m := ⟨N - k, by omega⟩
          have hs := (units_sorted g 0 k).up (show (0 : Int) + (k : Int) ≤ 8192 by omega)
          exact (join_fine hs (fun y hy => HO.out y (by rw [hm]; exact units_pre g 0 k m y hy))).2.1)
        generalize joinL (units g 0 k) = J at hrow HX1 HLEN HF
        clear hgk HU HSK
        rcases snoc_cases J with rfl | ⟨o', p, rfl⟩
        · obtain ⟨oa2, cap2, rfl, hc2, _, _⟩ := hrow.form
          have HR := Lib.hid hrow
          clear hrow
          have hlen0 : ([] : List Pt).length = 0 := rfl
          rw [hlen0] at HR ⊢
          clear hlen0
          have HX2 : Hid (joinL (units g 0 (k + 1)) = [] ++ [⟨k, 1, u, v⟩]) := Lib.hid HX1.out
          go_wp2_with fail
          refine held_below (by kernel_rfl) (by kernel_rfl) ?_
          repeat first
            | (refine held_skip ?_ ?_; (· first | rfl | (go_simp; done)); simp only [Act.put, List.setIfInBounds_toArray, List.set_cons_zero, List.set_cons_succ])
            | (refine held_val (v := ?_) ?_ ?_ ?_
               rotate_left
               · first | rfl | (go_simp; done)
               · intro wq hq
                 have s0 := cell_step hq q0
                 have s1 := cell_step hq q1
                 go_simp
                 with_reducible rfl
               simp only [Act.put, List.setIfInBounds_toArray, List.set_cons_zero, List.set_cons_succ])
          refine held_nil ?_
          intro w2 hb2
          have HOWN : Hid (w2.ownsRow w.heap.size 40 4 (.slice oa2 0 cap2) 0 []) := Lib.hid (HR.out.grow hb2)
          have HB2 : Hid (Below w.heap.size w w2) := Lib.hid (bstep HB.out hb2)
          replace q0 := cell_step hb2 q0
          replace q1 := cell_step hb2 q1
          clear hb2
          go_wp2_with fail
          go_region_law ((refine step_append_newD rfl _ _ 37 rfl w.heap.size 40 i0 (.agg #[.int .i64 0, .int .i64 0, .int .i64 0, .int .i64 0]) 4 32 Try.underlying37 hi hz0 hz1 hz2 rfl (by decide) _ _ _ (by rfl) HOWN.out _ 1 1 (by rfl) rfl (cells_onecell [⟨k, 1, u, v⟩]) (by unfold maxLen; omega) (by omega) HB2.out.size (by rfl) ?_; intro oa5 cap5 w5 hown5 hbel5; have HS5 := Lib.hid hown5; have HB5 := Lib.hid hbel5; clear hown5 hbel5))
          all_goals (go_wp2_with fail)
          all_goals exact ⟨⟨k + 1, by omega, by simp, by rw [HX2.out]; exact Row.snoc (l := []) ⟨k, 1, u, v⟩ HS5.out, HB2.out.trans HB5.out⟩, by simp [intOf]; omega⟩
        · obtain ⟨oa2, cap2, rfl, hc2, _, _⟩ := hrow.form
          obtain ⟨a2, e2, hba, hab2, hfr⟩ := Row.free hrow (i := o'.length) (x := p) (by simp)
          subst e2
          obtain ⟨a3, e3, _, d0, d1, d2, d3⟩ := Row.pts hrow o'.length p (by simp)
          obtain rfl : a2 = a3 := by simpa using e3
          clear e3 hfr
          have HR := Lib.hid hrow
          have HBA := Lib.hid hba
          clear hrow hba
          have hpo : One p := HF.out p (by simp)
          have hps := hpo.small
          have hw1 : IntKind.i64.wrap (p.n + 1) = p.n + 1 := IntWalk.i64_in _ (by omega)
          obtain ⟨m, hm⟩ : ∃ m, o'.length = m := ⟨_, rfl⟩
          obtain ⟨n, hn⟩ : ∃ n, (o' ++ [p]).length = n := ⟨_, rfl⟩
          have hnm : n = m + 1 := by rw [← hn, ← hm]; simp
          have hlen := HLEN.out
          have HM := Lib.hid hm
          rw [hn] at HR hc2 hlen ⊢
          rw [hm] at d0 d1 d2 d3
          have hz : decide (0 < n) = true := decide_eq_true (by omega)
          have hw : IntKind.i64.wrap ((n : Int) - 1) = (m : Int) := by rw [IntWalk.i64_in _ (by omega)]; omega
          have hm0 : (0 : Int) ≤ (m : Int) := by omega
          have hm1 : (m : Int) < (n : Int) := by omega
          have hm2 : m < n := by omega
          have hnb : n ≤ 100000 := by omega
          have HNN := Lib.hid hn
          obtain ⟨E, hE⟩ : ∃ E, p.o + p.n = E := ⟨_, rfl⟩
          obtain ⟨G, hG⟩ : ∃ G, p.f + p.n = G := ⟨_, rfl⟩
          have hw2 : IntKind.i64.wrap (p.o + p.n) = E := by rw [← hE]; exact IntWalk.i64_in _ (by omega)
          have hw3 : IntKind.i64.wrap (p.f + p.n) = G := by rw [← hG]; exact IntWalk.i64_in _ (by omega)
          have YES : Hid (E = k ∧ p.a = u ∧ G = v → joinL (units g 0 (k + 1)) = o' ++ [⟨p.o, p.n + 1, p.a, p.f⟩]) := Lib.hid fun h => by
            rw [HX1.out]; exact snocJ_yes _ _ _ (by unfold Joins; simp only; omega)
          have NO : Hid (¬ (E = k ∧ p.a = u ∧ G = v) → joinL (units g 0 (k + 1)) = o' ++ [p] ++ [⟨k, 1, u, v⟩]) := Lib.hid fun h => by
            rw [HX1.out]; exact snocJ_no _ _ _ (by unfold Joins; simp only; omega)
          clear hm hn hps hpo hnm hlen hE hG
          by_cases j1 : E = k
          · have b1 : (E == (k : Int)) = true := by rw [beq_iff_eq]; exact j1
            by_cases j2 : p.a = u
            · have b2 : (p.a == u) = true := by rw [beq_iff_eq]; exact j2
              by_cases j3 : G = v
              · have b3 : (G == v) = true := by rw [beq_iff_eq]; exact j3
                have HX2 := Lib.hid (YES.out ⟨j1, j2, j3⟩)
                clear j1 j2 j3
                go_wp2_with fail
                refine held_below (by kernel_rfl) (by kernel_rfl) ?_
                repeat first
                  | (refine held_skip ?_ ?_; (· first | rfl | (go_simp; done)); simp only [Act.put, List.setIfInBounds_toArray, List.set_cons_zero, List.set_cons_succ])
                  | (refine held_val (v := ?_) ?_ ?_ ?_
                     rotate_left
                     · first | rfl | (go_simp; done)
                     · intro wq hq
                       have s0 := cell_step hq q0
                       have s1 := cell_step hq q1
                       have k0 := cell_step hq d0
                       have k1 := cell_step hq d1
                       have k2 := cell_step hq d2
                       have k3 := cell_step hq d3
                       go_simp
                       with_reducible rfl
                     simp only [Act.put, List.setIfInBounds_toArray, List.set_cons_zero, List.set_cons_succ])
                refine held_nil ?_
                intro w2 hb2
                have hb3 := Lib.hid hb2
                have r1 := cell_step hb2 d1
                have HR2 : Hid (Row w.heap.size w2 (.slice (some a2) n cap2) (o' ++ [p])) := Lib.hid (HR.out.grow hb3.out)
                have HB2 : Hid (Below w.heap.size w w2) := Lib.hid (bstep HB.out hb3.out)
                obtain ⟨a4, e4, _, _, hfr⟩ := Row.free HR2.out (i := o'.length) (x := p) (by simp)
                obtain rfl : a2 = a4 := by simpa using e4
                have f1 := hfr 1
                rw [HM.out] at f1
                clear hb2 e4 hfr
                go_wp2_with fail
                have HPUT := Row.put HR2.out (p.n + 1)
                rw [HM.out] at HPUT
                exact ⟨⟨k + 1, by omega, by simp, by rw [HX2.out]; exact HPUT, HB2.out.setCell (p := ⟨_, _, none⟩) (by rw [add_block]; exact HBA.out) _⟩, by simp [intOf]; omega⟩
              · have b3 : (G == v) = false := by rw [beq_eq_false_iff_ne]; exact j3
                have HX2 := Lib.hid (NO.out (fun h => j3 h.2.2))
                clear j1 j2 j3
                go_wp2_with fail
                refine held_below (by kernel_rfl) (by kernel_rfl) ?_
                repeat first
                  | (refine held_skip ?_ ?_; (· first | rfl | (go_simp; done)); simp only [Act.put, List.setIfInBounds_toArray, List.set_cons_zero, List.set_cons_succ])
                  | (refine held_val (v := ?_) ?_ ?_ ?_
                     rotate_left
                     · first | rfl | (go_simp; done)
                     · intro wq hq
                       have s0 := cell_step hq q0
                       have s1 := cell_step hq q1
                       have k0 := cell_step hq d0
                       have k1 := cell_step hq d1
                       have k2 := cell_step hq d2
                       have k3 := cell_step hq d3
                       go_simp
                       with_reducible rfl
                     simp only [Act.put, List.setIfInBounds_toArray, List.set_cons_zero, List.set_cons_succ])
                refine held_nil ?_
                intro w2 hb2
                have HOWN : Hid (w2.ownsRow w.heap.size 40 4 (.slice (some a2) n cap2) n (cellsOf (o' ++ [p]))) := Lib.hid (by rw [← HNN.out] at HR ⊢; exact HR.out.grow hb2)
                have HB2 : Hid (Below w.heap.size w w2) := Lib.hid (bstep HB.out hb2)
                replace q0 := cell_step hb2 q0
                replace q1 := cell_step hb2 q1
                clear hb2
                go_wp2_with fail
                go_region_law ((refine step_append_newD rfl _ _ 37 rfl w.heap.size 40 i0 (.agg #[.int .i64 0, .int .i64 0, .int .i64 0, .int .i64 0]) 4 32 Try.underlying37 hi hz0 hz1 hz2 rfl (by decide) _ _ _ (by rfl) HOWN.out _ 1 1 (by rfl) rfl (cells_onecell [⟨k, 1, u, v⟩]) (by unfold maxLen; omega) (by omega) HB2.out.size (by rfl) ?_; intro oa5 cap5 w5 hown5 hbel5; have HS5 := Lib.hid hown5; have HB5 := Lib.hid hbel5; clear hown5 hbel5))
                all_goals (go_wp2_with fail)
                all_goals exact ⟨⟨k + 1, by omega, by simp, by rw [HX2.out]; have := HS5.out; rw [← HNN.out] at this ⊢; exact Row.snoc ⟨k, 1, u, v⟩ this, HB2.out.trans HB5.out⟩, by simp [intOf]; omega⟩
            · have b2 : (p.a == u) = false := by rw [beq_eq_false_iff_ne]; exact j2
              have HX2 := Lib.hid (NO.out (fun h => j2 h.2.1))
              clear j1 j2
              go_wp2_with fail
              refine held_below (by kernel_rfl) (by kernel_rfl) ?_
              repeat first
                | (refine held_skip ?_ ?_; (· first | rfl | (go_simp; done)); simp only [Act.put, List.setIfInBounds_toArray, List.set_cons_zero, List.set_cons_succ])
                | (refine held_val (v := ?_) ?_ ?_ ?_
                   rotate_left
                   · first | rfl | (go_simp; done)
                   · intro wq hq
                     have s0 := cell_step hq q0
                     have s1 := cell_step hq q1
                     have k0 := cell_step hq d0
                     have k1 := cell_step hq d1
                     have k2 := cell_step hq d2
                     have k3 := cell_step hq d3
                     go_simp
                     with_reducible rfl
                   simp only [Act.put, List.setIfInBounds_toArray, List.set_cons_zero, List.set_cons_succ])
              refine held_nil ?_
              intro w2 hb2
              have HOWN : Hid (w2.ownsRow w.heap.size 40 4 (.slice (some a2) n cap2) n (cellsOf (o' ++ [p]))) := Lib.hid (by rw [← HNN.out] at HR ⊢; exact HR.out.grow hb2)
              have HB2 : Hid (Below w.heap.size w w2) := Lib.hid (bstep HB.out hb2)
              replace q0 := cell_step hb2 q0
              replace q1 := cell_step hb2 q1
              clear hb2
              go_wp2_with fail
              go_region_law ((refine step_append_newD rfl _ _ 37 rfl w.heap.size 40 i0 (.agg #[.int .i64 0, .int .i64 0, .int .i64 0, .int .i64 0]) 4 32 Try.underlying37 hi hz0 hz1 hz2 rfl (by decide) _ _ _ (by rfl) HOWN.out _ 1 1 (by rfl) rfl (cells_onecell [⟨k, 1, u, v⟩]) (by unfold maxLen; omega) (by omega) HB2.out.size (by rfl) ?_; intro oa5 cap5 w5 hown5 hbel5; have HS5 := Lib.hid hown5; have HB5 := Lib.hid hbel5; clear hown5 hbel5))
              all_goals (go_wp2_with fail)
              all_goals exact ⟨⟨k + 1, by omega, by simp, by rw [HX2.out]; have := HS5.out; rw [← HNN.out] at this ⊢; exact Row.snoc ⟨k, 1, u, v⟩ this, HB2.out.trans HB5.out⟩, by simp [intOf]; omega⟩
          · have b1 : (E == (k : Int)) = false := by rw [beq_eq_false_iff_ne]; exact j1
            have HX2 := Lib.hid (NO.out (fun h => j1 h.1))
            clear j1
            go_wp2_with fail
            refine held_below (by kernel_rfl) (by kernel_rfl) ?_
            repeat first
              | (refine held_skip ?_ ?_; (· first | rfl | (go_simp; done)); simp only [Act.put, List.setIfInBounds_toArray, List.set_cons_zero, List.set_cons_succ])
              | (refine held_val (v := ?_) ?_ ?_ ?_
                 rotate_left
                 · first | rfl | (go_simp; done)
                 · intro wq hq
                   have s0 := cell_step hq q0
                   have s1 := cell_step hq q1
                   have k0 := cell_step hq d0
                   have k1 := cell_step hq d1
                   have k2 := cell_step hq d2
                   have k3 := cell_step hq d3
                   go_simp
                   with_reducible rfl
                 simp only [Act.put, List.setIfInBounds_toArray, List.set_cons_zero, List.set_cons_succ])
            refine held_nil ?_
            intro w2 hb2
            have HOWN : Hid (w2.ownsRow w.heap.size 40 4 (.slice (some a2) n cap2) n (cellsOf (o' ++ [p]))) := Lib.hid (by rw [← HNN.out] at HR ⊢; exact HR.out.grow hb2)
            have HB2 : Hid (Below w.heap.size w w2) := Lib.hid (bstep HB.out hb2)
            replace q0 := cell_step hb2 q0
            replace q1 := cell_step hb2 q1
            clear hb2
            go_wp2_with fail
            go_region_law ((refine step_append_newD rfl _ _ 37 rfl w.heap.size 40 i0 (.agg #[.int .i64 0, .int .i64 0, .int .i64 0, .int .i64 0]) 4 32 Try.underlying37 hi hz0 hz1 hz2 rfl (by decide) _ _ _ (by rfl) HOWN.out _ 1 1 (by rfl) rfl (cells_onecell [⟨k, 1, u, v⟩]) (by unfold maxLen; omega) (by omega) HB2.out.size (by rfl) ?_; intro oa5 cap5 w5 hown5 hbel5; have HS5 := Lib.hid hown5; have HB5 := Lib.hid hbel5; clear hown5 hbel5))
            all_goals (go_wp2_with fail)
            all_goals exact ⟨⟨k + 1, by omega, by simp, by rw [HX2.out]; have := HS5.out; rw [← HNN.out] at this ⊢; exact Row.snoc ⟨k, 1, u, v⟩ this, HB2.out.trans HB5.out⟩, by simp [intOf]; omega⟩
    · obtain ⟨oa2, cap2, rfl, hc2, _, _⟩ := hrow.form
      have hk8 : ¬ ((k : Int) < 8192) := by have := HN.out; omega
      have HKN : Hid (k = N) := Lib.hid (by omega)
      have HR := Lib.hid hrow
      clear hrow hlt
      have HJ : Hid (joinL (units g 0 N) = joinL (units g 0 k)) := Lib.hid (by rw [HKN.out])
      generalize joinL (units g 0 k) = J at HR hc2 HJ ⊢
      go_wp2_with fail
      go_ret
      exact ⟨_, rfl, by rw [HJ.out]; exact HR.out, HB.out⟩
end Go.Proofs.Ytappgelpigoknaa.ExtW
