/- The walk of HandlePlays. -/
import Derived.Test.YtjfdbcmmmoipcaaHanLaws
namespace Go.Proofs.Ytjfdbcmmmoipcaa.HanW
open Go.RowKit
open HanP (Ha del count)
section
variable {W w w5 : World} {hb b qb x : Nat} {s : Stp} {L : List Ha} {ls : List Int}
theorem seeS2 {p q : Addr} {u v : Value} (p0 : w5.cell? p = some u) (q0 : w5.cell? q = some v) (h : Below w5.heap.size w5 w) : (w.cell? p = some u ∧ w.cell? q = some v) ∧ Below w5.heap.size w5 w :=
  ⟨⟨cell_step h p0, cell_step h q0⟩, h⟩
theorem bl_count (c : Int) (p : PB W w5 hb b qb x s L ls L ls) (k : Below w5.heap.size w5 w) :
    Calls Try.prog 16 #[.pointer (some ⟨hb, 0, none⟩), .int .i64 c] w fun e w' => e = .returned (.int .i64 (count L c : Nat)) ∧ Below w5.heap.size w5 w' :=
  (count_any hb b L ls c w (p.grow k).h).mono fun _ _ ⟨he, h⟩ => ⟨he, bstep k h⟩
theorem bl_rcount (c : Int) (p : PB W w5 hb b qb x s L ls L ls) (k : Below w5.heap.size w5 w) :
    Calls Try.prog 24 #[.pointer (some ⟨qb, 0, none⟩), .int .i64 c] w fun e w' => e = .returned (.int .i64 (count L c : Nat)) ∧ w = w' := rcount_any qb _ L ls c w (p.grow k).q
theorem bl_lease (c : Int) (p : PB W w5 hb b qb x s L ls L ls) (k : Below w5.heap.size w5 w) :
    Calls Try.prog 8 #[.pointer (some ⟨hb, 0, none⟩), .int .i64 c] w fun e w' => e = .returned (.int .i64 (leaseI ls c)) ∧ w = w' := lease_any hb b L ls c w (p.grow k).h
theorem bl_rlease (c : Int) (p : PB W w5 hb b qb x s L ls L ls) (k : Below w5.heap.size w5 w) :
    Calls Try.prog 25 #[.pointer (some ⟨qb, 0, none⟩), .int .i64 c] w fun e w' => e = .returned (.int .i64 (leaseI ls c)) ∧ w = w' := rlease_any qb _ L ls c w (p.grow k).q
theorem bl_all (p : PB W w5 hb b qb x s L ls L ls) (k : Below w5.heap.size w5 w) :
    Calls Try.prog 11 #[.pointer (some ⟨hb, 0, none⟩)] w fun e w' => ∃ oa cap, e = .returned (.slice oa L.length cap) ∧ KAt encHa 3 w'.heap.size oa L w' ∧ Below w5.heap.size w5 w' :=
  (all_any hb b L ls w (p.grow k).h).mono fun _ _ ⟨v, he, hr, h1⟩ => by
    obtain ⟨oa, cap, rfl, _⟩ := hr.form
    exact ⟨oa, cap, he, hr.pts ha_len (by omega), bstep k h1⟩
theorem bl_own (oa : Option Addr) (cap : Nat) (hl : L.length ≤ 128) (hk : KAt encHa 3 w.heap.size oa L w) (k : Below w5.heap.size w5 w) :
    Calls Try.prog 21 #[.slice oa L.length cap] w fun e w' => ∃ oa2 cap2, e = .returned (.slice oa2 L.length cap2) ∧ KAt encHa 3 w'.heap.size oa2 L w' ∧ Below w5.heap.size w5 w' :=
  (own_any _ oa cap L (by omega) w (Nat.le_refl _) hk).mono fun _ _ ⟨v, he, hr, h1⟩ => by
    obtain ⟨oa, cap, rfl, _⟩ := hr.form
    exact ⟨oa, cap, he, hr.pts ha_len (by omega), bstep k h1⟩
theorem bl_same (oa ob : Option Addr) (ca cb : Nat) (hl : L.length ≤ 128) (h1 : KAt encHa 3 w.heap.size oa L w) (h2 : KAt encHa 3 w5.heap.size ob L w5) (k : Below w5.heap.size w5 w) :
    Calls Try.prog 20 #[.slice oa L.length ca, .slice ob L.length cb] w fun e w' => e = .returned (.bool true) ∧ Below w5.heap.size w5 w' :=
  (same_any _ oa ob ca cb L (by omega) w (Nat.le_refl _) h1 (h2.grow k)).mono fun _ _ ⟨he, h1⟩ => ⟨he, bstep k h1⟩
end
theorem ref_made (W w1 : World) (_ : Below W.heap.size W w1) : QIs (w1.alloc (.cells (qCells (.slice none 0 0) (List.replicate 8 0)) 48)) w1.heap.size W.heap.size [] (List.replicate 8 0) :=
  ⟨.slice none 0 0, heap_alloc_new w1 _, RowK.nil _ _, good_nil⟩
/-- what stands at the loop's head -/
structure Hd (W wr : World) (hb b qb : Nat) (L : List Ha) (ls : List Int) : Prop where
  h : HIs wr hb b L ls
  q : QIs wr qb W.heap.size L ls
  below : Below W.heap.size W wr
  bh : W.heap.size ≤ hb
  bb : W.heap.size ≤ b
  bq : W.heap.size ≤ qb
theorem Hd.boxed {W wr : World} {hb b qb : Nat} {L : List Ha} {ls : List Int} (h : Hd W wr hb b qb L ls) (s : Stp) : PB W (wr.alloc (.cells (stCells s) 27)) hb b qb wr.heap.size s L ls L ls :=
  ⟨h.h.grow (below_alloc _ _), h.q.grow (below_alloc _ _), bstep h.below (below_alloc _ _), heap_alloc_new wr _, h.bh, h.bb, h.bq⟩
theorem PB.hd {W w w' : World} {hb b qb x : Nat} {s : Stp} {L : List Ha} {ls : List Int} (p : PB W w hb b qb x s L ls L ls) (k : Below w.heap.size w w') : Hd W w' hb b qb L ls :=
  ⟨(p.grow k).h, (p.grow k).q, (p.grow k).below, p.bh, p.bb, p.bq⟩
set_option maxRecDepth 100000 in
set_option maxHeartbeats 8000000 in
theorem plays_walk (oa : Option Addr) (cap : Nat) (l : List Stp) (hl : l.length ≤ 9223372036854775807) (W : World) (h : Steps W oa l) : Calls Try.prog 5 #[.slice oa l.length cap] W fun e w' => e = .returned (.bool true) ∧ Below W.heap.size W w' := by
  have HP := Lib.hid h.pts
  have HOK := Lib.hid h.ok
  clear h
  go_enter Try.func5, Try.ntmps5
  go_wp2_with (go_at_call 7; refine (new_any _).mono ?_; rintro e w1 ⟨rfl, h1, hb1⟩; have H1 := Lib.hid h1; have HB1 := Lib.hid hb1; clear h1 hb1)
  have HHD : Hid (Hd W (w1.alloc (.cells (qCells (.slice none 0 0) (List.replicate 8 0)) 48)) (W.heap.size + 1) W.heap.size w1.heap.size [] (List.replicate 8 0)) := Lib.hid
    ⟨H1.out.grow (below_alloc _ _), ref_made W w1 HB1.out, bstep HB1.out (below_alloc _ _), by omega, by omega, HB1.out.size⟩
  generalize W.heap.size + 1 = hb at *
  obtain ⟨b, hbb⟩ : ∃ b, b = W.heap.size := ⟨_, rfl⟩
  have HHD2 : Hid (Hd W (w1.alloc (.cells (qCells (.slice none 0 0) (List.replicate 8 0)) 48)) hb b w1.heap.size [] (List.replicate 8 0)) := Lib.hid (by rw [hbb]; exact HHD.out)
  generalize w1.heap.size = qb at *
  clear HHD H1 hbb
  go_loopw [5] (fun i wr => ∃ (m : Nat) (L : List Ha) (ls : List Int), m ≤ l.length ∧ m ≤ 200 ∧ i = .int .i64 (m : Int) ∧ Hd W wr hb b qb L ls) (fun i _ => (200 - intOf i).toNat)
  case atStart => exact ⟨0, [], _, by omega, by omega, rfl, HHD2.out⟩
  case round =>
    obtain ⟨m, L, ls, hm, hm2, rfl, hhd⟩ := hrel
    have HH := Lib.hid hhd
    clear hhd HHD2
    by_cases hlt : m < l.length
    · by_cases hlt2 : m < 200
      · obtain ⟨x, hx⟩ : ∃ x, l[m]? = some x := ⟨_, List.getElem?_eq_getElem hlt⟩
        obtain ⟨a, rfl, hab, c0, c1, c2, c3, c4⟩ := st_at (HP.out.below HH.out.below) hx
        have HK := Lib.hid (HOK.out x (List.mem_of_getElem? hx))
        obtain ⟨k, c, n, i, t⟩ := x
        simp only at c0 c1 c2 c3 c4 HK
        have HPB := Lib.hid (HH.out.boxed ⟨k, c, n, i, t⟩)
        have hi2 : (m : Int) < 200 := by omega
        have hi1 : (m : Int) < (l.length : Int) := by omega
        clear hx hlt hlt2
        by_cases k0 : k = 0
        · subst k0
          go_wp2_with fail
          have hp0 := HPB.out.drew
          unfold stCells at hp0
          generalize wr.alloc (.cells #[.int .i64 0, .int .i64 c, .int .i64 n, .int .i64 i, .int .i64 t] 27) = w2 at *
          generalize wr.heap.size = xb at *
          go_region_held3 (fun w' => w'.cell? ⟨xb, 1, none⟩ = some (.int .i64 c) ∧ w'.cell? ⟨xb, 2, none⟩ = some (.int .i64 n) ∧ w'.cell? ⟨xb, 3, none⟩ = some (.int .i64 i))
            (first | exact ⟨(PB.cs (by assumption)).2.1, (PB.cs (by assumption)).2.2.1, (PB.cs (by assumption)).2.2.2.1⟩)
            (first
              | (go_at_call 10; refine (pb_open c n i HK.out (by assumption)).mono ?_; rintro e w3 ⟨rfl, hp3⟩)
              | (go_at_call 17; refine (pb_ropen c n i (by assumption)).mono ?_; rintro e w4 ⟨rfl, hp4⟩))
          have HPZ := Lib.hid hp4
          obtain ⟨p0, p1, p2, p3, p4⟩ := HPZ.out.cs
          simp only at p0 p1 p2 p3 p4
          generalize openL L c n i = L1 at *
          go_wp2_with (first
            | (go_at_call 13; refine (pb_of c n HK.out HPZ.out).mono ?_; rintro e w9 ⟨rfl, rfl⟩)
            | (go_at_call 23; refine (pb_rof c n HPZ.out).mono ?_; rintro e w9 ⟨rfl, rfl⟩))
          obtain ⟨vq, hqv⟩ := HPZ.out.q
          have HLN := Lib.hid hqv.good.len
          obtain ⟨oq, cq, rfl, _⟩ := hqv.row.form
          have HQP := Lib.hid (hqv.row.pts ha_len (by omega))
          obtain ⟨q0, _⟩ := hqv.v0
          clear hqv p0 p2 p3 p4
          generalize ofI L1 c n = oi
          generalize ofB L1 c n = ob
          have hobb : (!(ob == ob)) = false := by simp
          have HZ := HPZ.out
          have hk0 : Below w4.heap.size w4 w4.drew := (Below.refl _ _).drew
          go_region_held3 (fun w' => (w'.cell? ⟨xb, 1, none⟩ = some (.int .i64 c) ∧ w'.cell? ⟨qb, 0, none⟩ = some (.slice oq L1.length cq)) ∧ Below w4.heap.size w4 w')
            (first | exact seeS2 p1 q0 (by assumption))
            (first
              | (go_at_call 16; refine (bl_count c HZ (by assumption)).mono ?_; rintro e wa ⟨rfl, hka⟩)
              | (go_at_call 24; refine (bl_rcount c HZ (by assumption)).mono ?_; rintro e wb ⟨rfl, rfl⟩)
              | (go_at_call 8; refine (bl_lease c HZ (by assumption)).mono ?_; rintro e wb ⟨rfl, rfl⟩)
              | (go_at_call 25; refine (bl_rlease c HZ (by assumption)).mono ?_; rintro e wb ⟨rfl, rfl⟩)
              | (go_at_call 11; refine (bl_all HZ (by assumption)).mono ?_; rintro e wc ⟨oc, cc, rfl, hpc, hkc⟩)
              | (go_at_call 21; refine (bl_own oc cc HLN.out hpc (by assumption)).mono ?_; rintro e wd ⟨od, cd, rfl, hpd, hkd⟩)
              | (go_at_call 20; refine (bl_same od oq cd cq HLN.out hpd HQP.out (by assumption)).mono ?_; rintro e we ⟨rfl, hke⟩))
          go_wp2_with fail
          exact ⟨⟨m + 1, L1, ls, by omega, by omega, by simp, HZ.hd hke⟩, by simp [intOf]; omega⟩
        · by_cases k1 : k = 1
          · subst k1
            clear k0
            have HPB1 : Hid (PB W (wr.alloc (.cells #[.int .i64 1, .int .i64 c, .int .i64 n, .int .i64 i, .int .i64 t] 27)) hb b qb wr.heap.size ⟨1, c, n, i, t⟩ L ls L ls) := Lib.hid HPB.out
            go_wp2_with (first
              | (go_at_call 15; refine (pb_close c n HK.out HPB1.out).mono ?_; rintro e w3 ⟨rfl, hp3⟩; have HP3 := Lib.hid hp3; obtain ⟨p0, p1, p2, p3, p4⟩ := hp3.cs; simp only at p0 p1 p2 p3 p4; clear hp3)
              | (go_at_call 18; refine (pb_rclose c n HP3.out).mono ?_; rintro e w4 ⟨rfl, hp4⟩; have HP4 := Lib.hid hp4; clear p0 p1 p2 p3 p4; obtain ⟨p0, p1, p2, p3, p4⟩ := hp4.cs; simp only at p0 p1 p2 p3 p4; clear hp4)
              | (go_at_call 13; refine (pb_of c n HK.out HP4.out).mono ?_; rintro e w9 ⟨rfl, rfl⟩)
              | (go_at_call 23; refine (pb_rof c n HP4.out).mono ?_; rintro e w9 ⟨rfl, rfl⟩))
            clear p0 p1 p2 p3 p4
            generalize wr.heap.size = xb at *
            have HPZ := Lib.hid HP4.out
            obtain ⟨p0, p1, p2, p3, p4⟩ := HPZ.out.cs
            simp only at p0 p1 p2 p3 p4
            generalize del L (c, n) = L1 at *
            obtain ⟨vq, hqv⟩ := HPZ.out.q
            have HLN := Lib.hid hqv.good.len
            obtain ⟨oq, cq, rfl, _⟩ := hqv.row.form
            have HQP := Lib.hid (hqv.row.pts ha_len (by omega))
            obtain ⟨q0, _⟩ := hqv.v0
            clear hqv p0 p2 p3 p4
            generalize ofI L1 c n = oi
            generalize ofB L1 c n = ob
            have hobb : (!(ob == ob)) = false := by simp
            have HZ := HPZ.out
            have hk0 : Below w4.heap.size w4 w4.drew := (Below.refl _ _).drew
            go_region_held3 (fun w' => (w'.cell? ⟨xb, 1, none⟩ = some (.int .i64 c) ∧ w'.cell? ⟨qb, 0, none⟩ = some (.slice oq L1.length cq)) ∧ Below w4.heap.size w4 w')
              (first | exact seeS2 p1 q0 (by assumption))
              (first
                | (go_at_call 16; refine (bl_count c HZ (by assumption)).mono ?_; rintro e wa ⟨rfl, hka⟩)
                | (go_at_call 24; refine (bl_rcount c HZ (by assumption)).mono ?_; rintro e wb ⟨rfl, rfl⟩)
                | (go_at_call 8; refine (bl_lease c HZ (by assumption)).mono ?_; rintro e wb ⟨rfl, rfl⟩)
                | (go_at_call 25; refine (bl_rlease c HZ (by assumption)).mono ?_; rintro e wb ⟨rfl, rfl⟩)
                | (go_at_call 11; refine (bl_all HZ (by assumption)).mono ?_; rintro e wc ⟨oc, cc, rfl, hpc, hkc⟩)
                | (go_at_call 21; refine (bl_own oc cc HLN.out hpc (by assumption)).mono ?_; rintro e wd ⟨od, cd, rfl, hpd, hkd⟩)
                | (go_at_call 20; refine (bl_same od oq cd cq HLN.out hpd HQP.out (by assumption)).mono ?_; rintro e we ⟨rfl, hke⟩))
            go_wp2_with fail
            exact ⟨⟨m + 1, L1, ls, by omega, by omega, by simp, HZ.hd hke⟩, by simp [intOf]; omega⟩
          · by_cases k2 : k = 2
            · subst k2
              clear k0 k1
              go_wp2_with fail
              have hp0 := HPB.out.drew
              unfold stCells at hp0
              generalize wr.alloc (.cells #[.int .i64 2, .int .i64 c, .int .i64 n, .int .i64 i, .int .i64 t] 27) = w2 at *
              generalize wr.heap.size = xb at *
              go_region_held3 (fun w' => w'.cell? ⟨xb, 1, none⟩ = some (.int .i64 c) ∧ w'.cell? ⟨xb, 4, none⟩ = some (.int .i64 t))
                (first | exact ⟨(PB.cs (by assumption)).2.1, (PB.cs (by assumption)).2.2.2.2⟩)
                (first
                  | (go_at_call 9; refine (pb_renew c t (by assumption)).mono ?_; rintro e w3 ⟨rfl, hp3⟩)
                  | (go_at_call 19; refine (pb_rrenew c t (by assumption)).mono ?_; rintro e w4 ⟨rfl, hp4⟩))
              have HPZ := Lib.hid hp4
              obtain ⟨p0, p1, p2, p3, p4⟩ := HPZ.out.cs
              simp only at p0 p1 p2 p3 p4
              generalize renewL ls c t = ls1 at *
              go_wp2_with (first
                | (go_at_call 13; refine (pb_of c n HK.out HPZ.out).mono ?_; rintro e w9 ⟨rfl, rfl⟩)
                | (go_at_call 23; refine (pb_rof c n HPZ.out).mono ?_; rintro e w9 ⟨rfl, rfl⟩))
              obtain ⟨vq, hqv⟩ := HPZ.out.q
              have HLN := Lib.hid hqv.good.len
              obtain ⟨oq, cq, rfl, _⟩ := hqv.row.form
              have HQP := Lib.hid (hqv.row.pts ha_len (by omega))
              obtain ⟨q0, _⟩ := hqv.v0
              clear hqv p0 p2 p3 p4
              generalize ofI L c n = oi
              generalize ofB L c n = ob
              have hobb : (!(ob == ob)) = false := by simp
              have HZ := HPZ.out
              have hk0 : Below w4.heap.size w4 w4.drew := (Below.refl _ _).drew
              go_region_held3 (fun w' => (w'.cell? ⟨xb, 1, none⟩ = some (.int .i64 c) ∧ w'.cell? ⟨qb, 0, none⟩ = some (.slice oq L.length cq)) ∧ Below w4.heap.size w4 w')
                (first | exact seeS2 p1 q0 (by assumption))
                (first
                  | (go_at_call 16; refine (bl_count c HZ (by assumption)).mono ?_; rintro e wa ⟨rfl, hka⟩)
                  | (go_at_call 24; refine (bl_rcount c HZ (by assumption)).mono ?_; rintro e wb ⟨rfl, rfl⟩)
                  | (go_at_call 8; refine (bl_lease c HZ (by assumption)).mono ?_; rintro e wb ⟨rfl, rfl⟩)
                  | (go_at_call 25; refine (bl_rlease c HZ (by assumption)).mono ?_; rintro e wb ⟨rfl, rfl⟩)
                  | (go_at_call 11; refine (bl_all HZ (by assumption)).mono ?_; rintro e wc ⟨oc, cc, rfl, hpc, hkc⟩)
                  | (go_at_call 21; refine (bl_own oc cc HLN.out hpc (by assumption)).mono ?_; rintro e wd ⟨od, cd, rfl, hpd, hkd⟩)
                  | (go_at_call 20; refine (bl_same od oq cd cq HLN.out hpd HQP.out (by assumption)).mono ?_; rintro e we ⟨rfl, hke⟩))
              go_wp2_with fail
              exact ⟨⟨m + 1, L, ls1, by omega, by omega, by simp, HZ.hd hke⟩, by simp [intOf]; omega⟩
            · by_cases k3 : k = 3
              · subst k3
                clear k0 k1 k2
                go_wp2_with fail
                have hp0 := HPB.out.drew
                unfold stCells at hp0
                generalize wr.alloc (.cells #[.int .i64 3, .int .i64 c, .int .i64 n, .int .i64 i, .int .i64 t] 27) = w2 at *
                generalize wr.heap.size = xb at *
                go_region_held3 (fun w' => w'.cell? ⟨xb, 4, none⟩ = some (.int .i64 t))
                  (first | exact (PB.cs (by assumption)).2.2.2.2)
                  (first
                    | (go_at_call 12; refine (pb_expire t (by assumption)).mono ?_; rintro e w3 ⟨o3, c3', rfl, hk3, hl3, hp3⟩)
                    | (go_at_call 21; refine (pb_own _ o3 c3' hl3 hk3 (by assumption)).mono ?_; rintro e w4 ⟨v4, rfl, hr4, hp4⟩; obtain ⟨o4, c4', rfl, _⟩ := hr4.form)
                    | (go_at_call 22; refine (pb_rexpire t _ _ hr4 (by assumption)).mono ?_; rintro e w5 ⟨o5, c5', rfl, hk5, hr5, hp5⟩)
                    | (go_at_call 20; refine (pb_same _ o4 o5 c4' c5' hl3 (hr5.pts ha_len (by omega)) hk5 (by assumption)).mono ?_; rintro e w6 ⟨rfl, hp6⟩))
                have HPZ := Lib.hid hp6
                obtain ⟨p0, p1, p2, p3, p4⟩ := HPZ.out.cs
                simp only at p0 p1 p2 p3 p4
                generalize L.filter (fun a => !goneB ls t a) = L1 at *
                go_wp2_with (first
                  | (go_at_call 13; refine (pb_of c n HK.out HPZ.out).mono ?_; rintro e w9 ⟨rfl, rfl⟩)
                  | (go_at_call 23; refine (pb_rof c n HPZ.out).mono ?_; rintro e w9 ⟨rfl, rfl⟩))
                obtain ⟨vq, hqv⟩ := HPZ.out.q
                have HLN := Lib.hid hqv.good.len
                obtain ⟨oq, cq, rfl, _⟩ := hqv.row.form
                have HQP := Lib.hid (hqv.row.pts ha_len (by omega))
                obtain ⟨q0, _⟩ := hqv.v0
                clear hqv p0 p2 p3 p4
                generalize ofI L1 c n = oi
                generalize ofB L1 c n = ob
                have hobb : (!(ob == ob)) = false := by simp
                have HZ := HPZ.out
                have hk0 : Below w6.heap.size w6 w6.drew := (Below.refl _ _).drew
                go_region_held3 (fun w' => (w'.cell? ⟨xb, 1, none⟩ = some (.int .i64 c) ∧ w'.cell? ⟨qb, 0, none⟩ = some (.slice oq L1.length cq)) ∧ Below w6.heap.size w6 w')
                  (first | exact seeS2 p1 q0 (by assumption))
                  (first
                    | (go_at_call 16; refine (bl_count c HZ (by assumption)).mono ?_; rintro e wa ⟨rfl, hka⟩)
                    | (go_at_call 24; refine (bl_rcount c HZ (by assumption)).mono ?_; rintro e wb ⟨rfl, rfl⟩)
                    | (go_at_call 8; refine (bl_lease c HZ (by assumption)).mono ?_; rintro e wb ⟨rfl, rfl⟩)
                    | (go_at_call 25; refine (bl_rlease c HZ (by assumption)).mono ?_; rintro e wb ⟨rfl, rfl⟩)
                    | (go_at_call 11; refine (bl_all HZ (by assumption)).mono ?_; rintro e wc ⟨oc, cc, rfl, hpc, hkc⟩)
                    | (go_at_call 21; refine (bl_own oc cc HLN.out hpc (by assumption)).mono ?_; rintro e wd ⟨od, cd, rfl, hpd, hkd⟩)
                    | (go_at_call 20; refine (bl_same od oq cd cq HLN.out hpd HQP.out (by assumption)).mono ?_; rintro e we ⟨rfl, hke⟩))
                go_wp2_with fail
                exact ⟨⟨m + 1, L1, ls, by omega, by omega, by simp, HZ.hd hke⟩, by simp [intOf]; omega⟩
              · have HPB1 : Hid (PB W (wr.alloc (.cells #[.int .i64 k, .int .i64 c, .int .i64 n, .int .i64 i, .int .i64 t] 27)) hb b qb wr.heap.size ⟨k, c, n, i, t⟩ L ls L ls) := Lib.hid HPB.out
                have d0 : (k == 0) = false := by simpa using k0
                have d1 : (k == 1) = false := by simpa using k1
                have d2 : (k == 2) = false := by simpa using k2
                have d3 : (k == 3) = false := by simpa using k3
                clear k0 k1 k2 k3
                go_wp2_with (first
                  | (go_at_call 13; refine (pb_of c n HK.out HPB1.out).mono ?_; rintro e w9 ⟨rfl, rfl⟩)
                  | (go_at_call 23; refine (pb_rof c n HPB1.out).mono ?_; rintro e w9 ⟨rfl, rfl⟩))
                generalize wr.alloc (.cells #[.int .i64 k, .int .i64 c, .int .i64 n, .int .i64 i, .int .i64 t] 27) = w4 at *
                generalize wr.heap.size = xb at *
                have HPZ := Lib.hid HPB1.out
                obtain ⟨p0, p1, p2, p3, p4⟩ := HPZ.out.cs
                simp only at p0 p1 p2 p3 p4
                obtain ⟨vq, hqv⟩ := HPZ.out.q
                have HLN := Lib.hid hqv.good.len
                obtain ⟨oq, cq, rfl, _⟩ := hqv.row.form
                have HQP := Lib.hid (hqv.row.pts ha_len (by omega))
                obtain ⟨q0, _⟩ := hqv.v0
                clear hqv p0 p2 p3 p4
                generalize ofI L c n = oi
                generalize ofB L c n = ob
                have hobb : (!(ob == ob)) = false := by simp
                have HZ := HPZ.out
                have hk0 : Below w4.heap.size w4 w4.drew := (Below.refl _ _).drew
                go_region_held3 (fun w' => (w'.cell? ⟨xb, 1, none⟩ = some (.int .i64 c) ∧ w'.cell? ⟨qb, 0, none⟩ = some (.slice oq L.length cq)) ∧ Below w4.heap.size w4 w')
                  (first | exact seeS2 p1 q0 (by assumption))
                  (first
                    | (go_at_call 16; refine (bl_count c HZ (by assumption)).mono ?_; rintro e wa ⟨rfl, hka⟩)
                    | (go_at_call 24; refine (bl_rcount c HZ (by assumption)).mono ?_; rintro e wb ⟨rfl, rfl⟩)
                    | (go_at_call 8; refine (bl_lease c HZ (by assumption)).mono ?_; rintro e wb ⟨rfl, rfl⟩)
                    | (go_at_call 25; refine (bl_rlease c HZ (by assumption)).mono ?_; rintro e wb ⟨rfl, rfl⟩)
                    | (go_at_call 11; refine (bl_all HZ (by assumption)).mono ?_; rintro e wc ⟨oc, cc, rfl, hpc, hkc⟩)
                    | (go_at_call 21; refine (bl_own oc cc HLN.out hpc (by assumption)).mono ?_; rintro e wd ⟨od, cd, rfl, hpd, hkd⟩)
                    | (go_at_call 20; refine (bl_same od oq cd cq HLN.out hpd HQP.out (by assumption)).mono ?_; rintro e we ⟨rfl, hke⟩))
                go_wp2_with fail
                exact ⟨⟨m + 1, L, ls, by omega, by omega, by simp, HZ.hd hke⟩, by simp [intOf]; omega⟩
      · have hi2 : ¬ ((m : Int) < 200) := by omega
        clear hlt2
        go_wp2_with (go_at_call 14; refine (wakes_any _).mono ?_; rintro e w9 ⟨rfl, hb9⟩; have HB9 := Lib.hid hb9; clear hb9)
        go_ret
        exact ⟨rfl, bstep HH.out.below HB9.out⟩
    · have hi1 : ¬ ((m : Int) < (l.length : Int)) := by omega
      clear hlt
      go_wp2_with (go_at_call 14; refine (wakes_any _).mono ?_; rintro e w9 ⟨rfl, hb9⟩; have HB9 := Lib.hid hb9; clear hb9)
      go_ret
      exact ⟨rfl, bstep HH.out.below HB9.out⟩
end Go.Proofs.Ytjfdbcmmmoipcaa.HanW
