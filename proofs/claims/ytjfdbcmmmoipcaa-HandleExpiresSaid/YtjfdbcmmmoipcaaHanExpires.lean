/- The walk of HandleExpires. -/
import Derived.Test.YtjfdbcmmmoipcaaHanMost
import Derived.Test.YtjfdbcmmmoipcaaHanLaws
namespace Go.Proofs.Ytjfdbcmmmoipcaa.HanW
open Go.RowKit HanP
theorem none_walk2 (s : Stp) (_ : haOk (s.c, s.n)) (W : World) : Calls Try.prog 6 #[.agg (stCells s)] W fun e w' => e = .returned (.bool true) ∧ Below W.heap.size W w' := none_walk s W
theorem lease_renew {L : List Ha} {ls : List Int} (g : HGood L ls) (c t : Int) : leaseI ls c ≤ leaseI (renewL ls c t) c := by
  unfold renewL
  by_cases hm : mayRenew c t = true
  · rw [if_pos hm]
    obtain ⟨q1, q2, q3, q4⟩ := of_decide_eq_true hm
    unfold leaseI
    rw [if_pos ⟨q1, q2⟩, if_pos ⟨q1, q2⟩]
    have h8 := g.l8
    have : c.toNat < ls.length := by omega
    simp [List.getD, this]
    omega
  · rw [if_neg hm]; exact Int.le_refl _
theorem filter_two (p : Ha → Bool) : ∀ L : List Ha, (L.filter p).length + (L.filter fun a => !p a).length = L.length
  | [] => rfl
  | a :: L => by
    have := filter_two p L
    cases h : p a <;> simp [h] <;> omega
theorem gone_lease {L : List Ha} {ls : List Int} (g : HGood L ls) {a : Ha} (ha : a ∈ L) (t : Int) : goneB ls t a = decide (leaseI ls a.c < t) := by
  have hf := g.fits a ha
  unfold goneB leaseI
  rw [if_pos ⟨hf.1, hf.2.1⟩]
theorem of_stays {L : List Ha} {ls : List Int} (g : HGood L ls) {a : Ha} (ha : a ∈ L) (p : Ha → Bool) : ofB (L.filter p) a.c a.n = p a := by
  unfold ofB
  rw [look_filter g.rises]
  have : HanP.look L (a.c, a.n) = some a.i := (look_iff g.rises (a.c, a.n) a.i).2 ha
  rw [this]
  show (if p ⟨a.c, a.n, a.i⟩ = true then some a.i else none).isSome = _
  cases p a <;> rfl
theorem seeS5 {w5 w : World} {p q : Addr} {u v : Value} (p0 : w5.cell? p = some u) (q0 : w5.cell? q = some v) (h : Below w5.heap.size w5 w) : (w.cell? p = some u ∧ w.cell? q = some v) ∧ Below w5.heap.size w5 w := ⟨⟨cell_step h p0, cell_step h q0⟩, h⟩
set_option maxRecDepth 100000 in
set_option maxHeartbeats 8000000 in
theorem expires_walk (oa : Option Addr) (cap : Nat) (l : List Stp) (hl : l.length ≤ 9223372036854775807) (t : Int) (_ : (Lit.int .i64 t).wf = true) (W : World) (h : Steps W oa l) :
    Calls Try.prog 3 #[.slice oa l.length cap, .int .i64 t] W fun e w' => e = .returned (.bool true) ∧ Below W.heap.size W w' := by
  have HP := Lib.hid h.pts
  have HOK := Lib.hid h.ok
  clear h
  go_enter Try.func3, Try.ntmps3
  go_wp2_with (go_at_call 7; refine (new_any _).mono ?_; rintro e w1 ⟨rfl, h1, hb1⟩; have HH0 : Hid (HdM W w1 (W.heap.size + 1) W.heap.size [] (List.replicate 8 0)) := Lib.hid ⟨h1, hb1, by omega, by omega⟩; clear h1 hb1)
  generalize W.heap.size + 1 = hh at *
  obtain ⟨b, hbb⟩ : ∃ b, b = W.heap.size := ⟨_, rfl⟩
  have HH1 : Hid (HdM W w1 hh b [] (List.replicate 8 0)) := Lib.hid (by rw [hbb]; exact HH0.out)
  clear HH0 hbb
  go_loopw [6] (fun i wr => ∃ (m : Nat) (L : List Ha) (ls : List Int), m ≤ l.length ∧ m ≤ 100 ∧ i = .int .i64 (m : Int) ∧ HdM W wr hh b L ls) (fun i _ => (100 - intOf i).toNat)
  case atStart => exact ⟨0, [], _, by omega, by omega, rfl, HH1.out⟩
  case round =>
    obtain ⟨m, L, ls, hm, hm2, rfl, hd⟩ := hrel
    have HD := Lib.hid hd
    clear hd HH1
    by_cases hlt : m < l.length ∧ m < 100
    · obtain ⟨x, hx⟩ : ∃ x, l[m]? = some x := ⟨_, List.getElem?_eq_getElem hlt.1⟩
      have HPX := Lib.hid (fun w2 (k : Below W.heap.size W w2) => st_at (HP.out.below k) hx)
      have HK := Lib.hid (HOK.out x (List.mem_of_getElem? hx))
      obtain ⟨k, c, n, i, tt⟩ := x
      simp only at HPX HK
      have hi2 : (m : Int) < 100 := by omega
      have hi1 : (m : Int) < (l.length : Int) := by omega
      obtain ⟨a, rfl, hab, c0, c1, c2, c3, c4⟩ := HPX.out wr HD.out.below
      clear hx hlt
      by_cases k2 : k = 2
      · have d2 : (k == 2) = true := by rw [beq_iff_eq]; exact k2
        have HLE := Lib.hid (lease_renew HD.out.h.good c tt)
        clear k2
        go_wp2_with (go_at_call 8; refine (lease_any _ _ _ _ _ _ HD.out.h).mono ?_; rintro e w2 ⟨rfl, rfl⟩)
        refine wp_region_still_tail 11 (by kernel_rfl) (by kernel_rfl) ?_
        change wpStill _ _ (World.drew _) (fun a' => wpList _ _ _ _ a' (World.drew _)) _ _
        simp only [List.take_succ_cons, List.take_zero, List.drop_succ_cons, List.drop_zero]
        repeat still_step
        refine wpStill_nil ?_
        have hle := HLE.out
        go_wp2_with (first
          | (go_at_call 9; refine (renew_any _ _ _ _ c tt _ (HD.out.grow (Below.refl _ _).drew).h).mono ?_; rintro e w3 ⟨rfl, h3, ho3, _⟩; have H3 := Lib.hid ((HD.out.grow (Below.refl _ _).drew).onH h3 ho3); clear h3 ho3 c0 c1 c2 c3 c4; obtain ⟨a', ha', _, c0, c1, c2, c3, c4⟩ := HPX.out w3 H3.out.below; obtain rfl : a = a' := by simpa using ha'
             clear ha')
          | (go_at_call 8; refine (lease_any _ _ _ _ _ _ H3.out.h).mono ?_; rintro e w4 ⟨rfl, rfl⟩))
        exact ⟨⟨m + 1, L, _, by omega, by omega, by simp, H3.out⟩, by simp [intOf]; omega⟩
      · have d2 : (k == 2) = false := by simpa using k2
        clear k2
        go_wp2_with (go_at_call 8; refine (lease_any _ _ _ _ _ _ HD.out.h).mono ?_; rintro e w2 ⟨rfl, rfl⟩)
        refine wp_region_still_tail 16 (by kernel_rfl) (by kernel_rfl) ?_
        change wpStill _ _ (World.drew _) (fun a' => wpList _ _ _ _ a' (World.drew _)) _ _
        simp only [List.take_succ_cons, List.take_zero, List.drop_succ_cons, List.drop_zero]
        repeat still_step
        refine wpStill_nil ?_
        go_wp2_with (first
          | (go_at_call 10; refine (open_any _ _ _ _ c n i HK.out _ (HD.out.grow (Below.refl _ _).drew).h).mono ?_; rintro e w3 ⟨rfl, h3, ho3⟩; have H3 := Lib.hid ((HD.out.grow (Below.refl _ _).drew).onB h3 ho3); clear h3 ho3 c0 c1 c2 c3 c4; obtain ⟨a', ha', _, c0, c1, c2, c3, c4⟩ := HPX.out w3 H3.out.below; obtain rfl : a = a' := by simpa using ha'
             clear ha')
          | (go_at_call 8; refine (lease_any _ _ _ _ _ _ H3.out.h).mono ?_; rintro e w4 ⟨rfl, rfl⟩))
        exact ⟨⟨m + 1, _, ls, by omega, by omega, by simp, H3.out⟩, by simp [intOf]; omega⟩
    · have hend : decide (m < l.length) = false ∨ (m < l.length ∧ ¬ ((m : Int) < 100)) := by
        by_cases h1 : m < l.length
        · exact .inr ⟨h1, by omega⟩
        · exact .inl (decide_eq_false h1)
      clear hlt
      rcases hend with hend | ⟨hend1, hend⟩
      all_goals
        go_wp2_with (first
          | (go_at_call 11; refine (all_any _ _ _ _ _ HD.out.h).mono ?_; rintro e w2 ⟨v, rfl, hr2, hb2⟩; obtain ⟨oz, cz, rfl, hcz, hcz2, hz⟩ := hr2.form; have HP2 := Lib.hid (hr2.pts ha_len (by omega)); have HR2 := Lib.hid hr2; have H2 := Lib.hid (HD.out.grow hb2); clear hr2 hb2 hz)
          | (go_at_call 12; refine (expire_any _ _ _ _ t _ H2.out.h).mono ?_; rintro e w3 ⟨v3, rfl, hr3, h3, ho3⟩; obtain ⟨o3, c3, rfl, _⟩ := hr3.form; have H3 := Lib.hid (H2.out.onB h3 ho3); have HO3 := Lib.hid ho3; clear hr3 h3 ho3))
        have HP3 : Hid (KAt encHa 3 w3.heap.size oz L w3) := Lib.hid ((HP2.out.only HO3.out (Nat.le_refl _) (fun a e => by
          have h1 := World.ownsRow.lt HR2.out a.block (by rw [e]; rfl)
          have h2 := HD.out.h.lt.2
          omega)).mono HO3.out.size)
        have HLEN := Lib.hid HD.out.h.good.len
        have HGD := Lib.hid HD.out.h.good
        have HTWO := Lib.hid (filter_two (goneB ls t) L)
        clear HP2 HR2 HO3 H2 HD hm hm2
        go_loopw [10, 11] (fun n i wr => ∃ k : Nat, k ≤ L.length ∧ i = .int .i64 (k : Int) ∧ n = .int .i64 (((L.take k).filter (goneB ls t)).length : Nat) ∧ Below w3.heap.size w3 wr) (fun _ i _ => ((L.length : Int) - intOf i).toNat)
        case atStart => exact ⟨0, by omega, rfl, rfl, Below.refl _ _⟩
        case round =>
          obtain ⟨j, hj, rfl, rfl, hbel⟩ := hrel
          have HB := Lib.hid hbel
          have HH4 := Lib.hid (H3.out.grow hbel)
          clear hbel
          by_cases hlt : j < L.length
          · obtain ⟨x, hx⟩ : ∃ x, L[j]? = some x := ⟨_, List.getElem?_eq_getElem hlt⟩
            have HF := Lib.hid (filt_snoc hx (goneB ls t))
            have hlj : ((L.take j).filter (goneB ls t)).length ≤ 128 := by
              have := List.length_filter_le (goneB ls t) (L.take j)
              have : (L.take j).length ≤ j := List.length_take_le _ _
              have := HLEN.out
              omega
            have HGL := Lib.hid (gone_lease HGD.out (List.mem_of_getElem? hx) t)
            have HOB := Lib.hid (of_stays HGD.out (List.mem_of_getElem? hx) (fun a => !goneB ls t a))
            have hfx := HGD.out.fits x (List.mem_of_getElem? hx)
            obtain ⟨az, rfl, hab, c0, c1, c2⟩ := ha_at (HP3.out.below HB.out) hx
            obtain ⟨xc, xn, xi⟩ := x
            simp only at c0 c1 c2 hfx HGL HOB
            have HXK : Hid (haOk (xc, xn)) := Lib.hid (haOk_of (by simp [IntKind.min, IntKind.max, IntKind.signed, IntKind.bits]; omega) (by simp [IntKind.min, IntKind.max, IntKind.signed, IntKind.bits]; omega))
            have hjl : (j : Int) < (L.length : Int) := by omega
            have hjm : (j : Int) ≤ 1000 := by have := HLEN.out; omega
            generalize (L.take j).filter (goneB ls t) = J at HF hlj ⊢
            clear hx hfx
            cases hg : goneB ls t ⟨xc, xn, xi⟩ with
            | true =>
              rw [hg] at HGL HOB
              have hls : leaseI ls xc < t := of_decide_eq_true HGL.out.symm
              have hls2 : decide (t ≤ leaseI ls xc) = false := decide_eq_false (by omega)
              have HF2 : Hid (((L.take (j + 1)).filter (goneB ls t)).length = J.length + 1) := Lib.hid (by rw [HF.out, if_pos hg]; simp)
              have hlt' : (J.length : Int) + 1 ≤ 1000 := by omega
              clear hg hls
              go_wp2_with fail
              have hk0 : Below wr.heap.size wr wr.drew := (Below.refl _ _).drew
              go_region_held3 (fun w' => (w'.cell? (az.add (j * 3)) = some (.int .i64 xc) ∧ w'.cell? ⟨(az.add (j * 3)).block, (az.add (j * 3)).off + 1, none⟩ = some (.int .i64 xn)) ∧ Below wr.heap.size wr w')
                (first | exact seeS5 c0 c1 (by assumption))
                (first | (go_at_call 13; refine (of_any _ _ _ _ xc xn HXK.out _ (HH4.out.grow (by assumption)).h).mono ?_; rintro e w5 ⟨rfl, rfl⟩; rw [HOB.out]))
              go_wp2_with (go_at_call 8; refine (lease_any _ _ _ _ _ _ (HH4.out.grow (by assumption)).h).mono ?_; rintro e w6 ⟨rfl, rfl⟩)
              exact ⟨⟨j + 1, by omega, by simp, by rw [HF2.out]; simp, HB.out.drew⟩, by simp [intOf]; omega⟩
            | false =>
              rw [hg] at HGL HOB
              have hls : t ≤ leaseI ls xc := by have := of_decide_eq_false HGL.out.symm; omega
              have HF2 : Hid (((L.take (j + 1)).filter (goneB ls t)).length = J.length) := Lib.hid (by rw [HF.out, if_neg (by rw [hg]; simp)]; simp)
              clear hg
              go_wp2_with fail
              have hk0 : Below wr.heap.size wr wr.drew := (Below.refl _ _).drew
              go_region_held3 (fun w' => (w'.cell? (az.add (j * 3)) = some (.int .i64 xc) ∧ w'.cell? ⟨(az.add (j * 3)).block, (az.add (j * 3)).off + 1, none⟩ = some (.int .i64 xn)) ∧ Below wr.heap.size wr w')
                (first | exact seeS5 c0 c1 (by assumption))
                (first | (go_at_call 13; refine (of_any _ _ _ _ xc xn HXK.out _ (HH4.out.grow (by assumption)).h).mono ?_; rintro e w5 ⟨rfl, rfl⟩; rw [HOB.out]))
              go_wp2_with (go_at_call 8; refine (lease_any _ _ _ _ _ _ (HH4.out.grow (by assumption)).h).mono ?_; rintro e w6 ⟨rfl, rfl⟩)
              exact ⟨⟨j + 1, by omega, by simp, by rw [HF2.out], HB.out.drew⟩, by simp [intOf]; omega⟩
          · obtain rfl : j = L.length := by omega
            have hjl : ¬ ((L.length : Int) < (L.length : Int)) := by omega
            rw [List.take_length]
            have htwo := HTWO.out
            have hln := HLEN.out
            generalize hG : (L.filter (goneB ls t)).length = g at *
            have hS : (L.filter fun a => !goneB ls t a).length = L.length - g := by omega
            have hw1 : IntKind.i64.wrap ((L.length : Int) - (g : Int)) = ((L.length - g : Nat) : Int) := by
              rw [IntWalk.i64_in _ (by omega)]; omega
            have HS := Lib.hid hS
            clear htwo hS HTWO hG
            go_wp2_with (first
              | (go_at_call 11; refine (all_any _ _ _ _ _ HH4.out.h).mono ?_; rintro e w7 ⟨v, rfl, hr7, hb7⟩; obtain ⟨o7, c7, rfl, _⟩ := hr7.form; rw [HS.out]; have HB7 := Lib.hid (bstep HH4.out.below hb7); clear hr7 hb7)
              | (go_at_call 14; refine (wakes_any _).mono ?_; rintro e w8 ⟨rfl, hb8⟩; have HB8 := Lib.hid (bstep HB7.out hb8); clear hb8))
            go_ret
            exact ⟨rfl, HB8.out⟩
end Go.Proofs.Ytjfdbcmmmoipcaa.HanW
