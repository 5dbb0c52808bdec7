/- The walk of DirPlays. -/
import Derived.Test.YtffigodlfmnbpaaDirLaws
namespace Go.Proofs.Ytffigodlfmnbpaa.DirW
open Go.RowKit DirP
theorem ref_made (W w1 : World) (_ : Below W.heap.size W w1) : QIs (w1.alloc (.cells #[.slice none 0 0] 44)) w1.heap.size W.heap.size [] :=
  ⟨.slice none 0 0, heap_alloc_new w1 _, RowK.nil _ _, dgood_nil⟩
/-- what stands at the loop's head -/
structure Hd (W wr : World) (nb b c qb : Nat) (L : List En) : Prop where
  h : DIs wr nb b c L
  q : QIs wr qb W.heap.size L
  below : Below W.heap.size W wr
  bn : W.heap.size ≤ nb
  bb : W.heap.size ≤ b
  bc : W.heap.size ≤ c
  bq : W.heap.size ≤ qb
theorem Hd.boxed {W wr : World} {nb b c qb : Nat} {L : List En} (h : Hd W wr nb b c qb L) (s : Stp) : PB W (wr.alloc (.cells (stCells s) 30)) nb b c qb wr.heap.size s L L :=
  ⟨h.h.grow (below_alloc _ _), h.q.grow (below_alloc _ _), bstep h.below (below_alloc _ _), heap_alloc_new wr _, h.bn, h.bb, h.bc, h.bq⟩
theorem PB.hd {W w w' : World} {nb b c qb x : Nat} {s : Stp} {L : List En} (p : PB W w nb b c qb x s L L) (k : Below w.heap.size w w') : Hd W w' nb b c qb L :=
  ⟨(p.grow k).h, (p.grow k).q, (p.grow k).below, p.bn, p.bb, p.bc, p.bq⟩
set_option maxRecDepth 100000 in
set_option maxHeartbeats 8000000 in
theorem plays_walk (oa : Option Addr) (cap : Nat) (l : List Stp) (hl : l.length ≤ 9223372036854775807) (W : World) (h : Steps W oa l) : Calls Try.prog 5 #[.slice oa l.length cap] W fun e w' => e = .returned (.bool true) ∧ Below W.heap.size W w' := by
  have HP := Lib.hid h.pts
  have HOK := Lib.hid h.ok
  clear h
  by_cases hf : FairL l
  · have HFA : Hid (decide (FairL l) = true) := Lib.hid (decide_eq_true hf)
    have HF := Lib.hid hf
    clear hf
    go_enter Try.func5, Try.ntmps5
    go_wp2_with (first
      | (go_at_call 7; refine (new_any _).mono ?_; rintro e w1 ⟨rfl, h1, hb1⟩; have H1 := Lib.hid h1; have HB1 := Lib.hid hb1; clear h1 hb1)
      | (go_at_call 8; refine (fair_any _ _ _ hl _ (HP.out.grow (bstep HB1.out (below_alloc _ _)))).mono ?_; rintro e w2 ⟨rfl, rfl⟩; rw [HFA.out]))
    have HHD : Hid (Hd W (w1.alloc (.cells #[.slice none 0 0] 44)) (W.heap.size + 2) W.heap.size (W.heap.size + 1) w1.heap.size []) := Lib.hid
      ⟨H1.out.grow (below_alloc _ _), ref_made W w1 HB1.out, bstep HB1.out (below_alloc _ _), by omega, by omega, by omega, HB1.out.size⟩
    generalize W.heap.size + 2 = nb at *
    generalize W.heap.size + 1 = c at *
    obtain ⟨b, hbb⟩ : ∃ b, b = W.heap.size := ⟨_, rfl⟩
    have HHD2 : Hid (Hd W (w1.alloc (.cells #[.slice none 0 0] 44)) nb b c w1.heap.size []) := Lib.hid (by rw [hbb]; exact HHD.out)
    generalize w1.heap.size = qb at *
    clear HHD H1 hbb
    go_loopw [5] (fun i wr => ∃ (m : Nat) (L : List En), m ≤ l.length ∧ L.length ≤ m ∧ i = .int .i64 (m : Int) ∧ Hd W wr nb b c qb L) (fun i _ => (l.length - intOf i).toNat)
    case atStart => exact ⟨0, [], by omega, by simp, rfl, HHD2.out⟩
    case round =>
      obtain ⟨m, L, hm, hlm, rfl, hhd⟩ := hrel
      have HH := Lib.hid hhd
      have hl2 := HF.out.2
      clear hhd HHD2
      by_cases hlt : m < l.length
      · obtain ⟨x, hx⟩ : ∃ x, l[m]? = some x := ⟨_, List.getElem?_eq_getElem hlt⟩
        obtain ⟨a, rfl, hab, c0, c1, c2, c3⟩ := st_at (HP.out.below HH.out.below) hx
        have HK := Lib.hid (HOK.out x (List.mem_of_getElem? hx))
        have HS := Lib.hid (HF.out.1 x (List.mem_of_getElem? hx))
        obtain ⟨k, d, i, t⟩ := x
        simp only at c0 c1 c2 c3 HK HS
        have HPB := Lib.hid (HH.out.boxed ⟨k, d, i, t⟩)
        have hi1 : (m : Int) < (l.length : Int) := by omega
        have HLM : Hid (L.length ≤ m) := Lib.hid hlm
        have HL2 : Hid (L.length ≤ 200) := Lib.hid (by omega)
        clear hx hlm
        by_cases k0 : k = 0
        · subst k0
          go_wp2_with fail
          have hp0 := HPB.out.drew
          unfold stCells at hp0
          generalize wr.alloc (.cells #[.int .i64 0, .int .i64 d, .int .i64 i, .string t] 30) = w2 at *
          generalize wr.heap.size = xb at *
          go_region_held3 (fun w' => w'.cell? ⟨xb, 1, none⟩ = some (.int .i64 d) ∧ w'.cell? ⟨xb, 2, none⟩ = some (.int .i64 i) ∧ w'.cell? ⟨xb, 3, none⟩ = some (.string t))
            (first | exact ⟨(PB.cs (by assumption)).2.1, (PB.cs (by assumption)).2.2.1, (PB.cs (by assumption)).2.2.2⟩)
            (first
              | (go_at_call 10; refine (pb_add d t i HS.out HK.out (by assumption)).mono ?_; rintro e w3 ⟨rfl, hp3⟩)
              | (go_at_call 15; refine (pb_radd d t i HS.out HL2.out (by assumption)).mono ?_; rintro e w4 ⟨rfl, hp4⟩))
          have HPZ := Lib.hid hp4
          obtain ⟨p0, p1, p2, p3⟩ := HPZ.out.cs
          simp only at p0 p1 p2 p3
          have HLE : Hid ((addL L d t i).length ≤ m + 1) := Lib.hid (Nat.le_trans (addL_len _ _ _ _) (Nat.succ_le_succ HLM.out))
          generalize addL L d t i = L1 at *
          have HLN : Hid (L1.length ≤ 200) := Lib.hid (by have := HLE.out; omega)
          go_wp2_with (first
            | (go_at_call 12; refine (pb_find d t HK.out HPZ.out).mono ?_; rintro e w9 ⟨rfl, rfl⟩)
            | (go_at_call 17; refine (pb_rfind d t HLN.out HPZ.out).mono ?_; rintro e w9 ⟨rfl, rfl⟩))
          obtain ⟨vq, hqv⟩ := HPZ.out.q
          obtain ⟨oq, cq, rfl, _⟩ := hqv.row.form
          have HQP := Lib.hid (hqv.row.pts en_len (by omega))
          obtain ⟨q0, _⟩ := hqv.v0
          clear hqv p0 p3
          generalize fiI L1 d t = oi
          generalize fiB L1 d t = ob
          have hobb : (!(ob == ob)) = false := by simp
          have HZ := HPZ.out
          have hk0 : Below w4.heap.size w4 w4.drew := (Below.refl _ _).drew
          go_region_held3 (fun w' => (w'.cell? ⟨xb, 1, none⟩ = some (.int .i64 d) ∧ w'.cell? ⟨xb, 2, none⟩ = some (.int .i64 i) ∧ w'.cell? ⟨qb, 0, none⟩ = some (.slice oq L1.length cq)) ∧ Below w4.heap.size w4 w')
            (first | exact seeS2 p1 p2 q0 (by assumption))
            (first
              | (have hz := hpb; clear hz; go_at_call 20; refine (bl_rlen d HLN.out HZ (by assumption)).mono ?_; rintro e we ⟨oa3, ca3, rfl, hke⟩)
              | (have hz := hpj; clear hz; go_at_call 22; refine (bl_own oa7 ca7 _ HLN.out hpj (by assumption)).mono ?_; rintro e wk ⟨oa8, ca8, rfl, hpk, hkk⟩)
              | (have hz := hpk; clear hz; go_at_call 21; refine (bl_same0 oa8 oq ca8 cq HLN.out hpk HQP.out (by assumption)).mono ?_; rintro e wl ⟨rfl, hkl⟩)
              | (go_at_call 19; refine (bl_list d HLN.out HZ (by assumption)).mono ?_; rintro e wa ⟨oa1, ca1, rfl, hpa, hka⟩)
              | (go_at_call 20; refine (bl_rlist d HLN.out hpa HZ (by assumption)).mono ?_; rintro e wb ⟨oa2, ca2, rfl, hpa2, hpb, hkb⟩)
              | (go_at_call 18; refine (bl_texts oa1 oa2 ca1 ca2 _ (names_le HLN.out d) hpa2 hpb (by assumption)).mono ?_; rintro e wc ⟨rfl, hkc⟩)
              | (go_at_call 13; refine (bl_count d HK.out.1 HZ (by assumption)).mono ?_; rintro e wd ⟨rfl, rfl⟩)
              | (go_at_call 14; refine (bl_of i HLN.out HZ (by assumption)).mono ?_; rintro e wf ⟨oa4, ca4, rfl, hpf, hkf⟩)
              | (go_at_call 22; refine (bl_own oa4 ca4 _ (ofL_le HLN.out i) hpf (by assumption)).mono ?_; rintro e wg ⟨oa5, ca5, rfl, hpg, hkg⟩)
              | (go_at_call 23; refine (bl_rof i HLN.out hpg HZ (by assumption)).mono ?_; rintro e wh ⟨oa6, ca6, rfl, hpg2, hph, hkh⟩)
              | (go_at_call 21; refine (bl_same oa5 oa6 ca5 ca6 _ (ofL_le HLN.out i) hpg2 hph (by assumption)).mono ?_; rintro e wi ⟨rfl, hki⟩)
              | (go_at_call 24; refine (bl_all HLN.out HZ (by assumption)).mono ?_; rintro e wj ⟨oa7, ca7, rfl, hpj, hkj⟩))
          go_wp2_with fail
          exact ⟨⟨m + 1, L1, by omega, HLE.out, by simp, HZ.hd hkl⟩, by simp [intOf]; omega⟩
        · by_cases k1 : k = 1
          · subst k1
            clear k0
            go_wp2_with fail
            have hp0 := HPB.out.drew
            unfold stCells at hp0
            generalize wr.alloc (.cells #[.int .i64 1, .int .i64 d, .int .i64 i, .string t] 30) = w2 at *
            generalize wr.heap.size = xb at *
            go_region_held3 (fun w' => w'.cell? ⟨xb, 1, none⟩ = some (.int .i64 d) ∧ w'.cell? ⟨xb, 3, none⟩ = some (.string t))
              (first | exact ⟨(PB.cs (by assumption)).2.1, (PB.cs (by assumption)).2.2.2⟩)
              (first
                | (go_at_call 11; refine (pb_drop d t HK.out (by assumption)).mono ?_; rintro e w3 ⟨rfl, hp3⟩)
                | (go_at_call 16; refine (pb_rdrop d t HL2.out (by assumption)).mono ?_; rintro e w4 ⟨rfl, hp4⟩))
            have HPZ := Lib.hid hp4
            obtain ⟨p0, p1, p2, p3⟩ := HPZ.out.cs
            simp only at p0 p1 p2 p3
            have HLE : Hid ((del L (d, t)).length ≤ m + 1) := Lib.hid (Nat.le_trans (del_len _ _) (Nat.le_succ_of_le HLM.out))
            generalize del L (d, t) = L1 at *
            have HLN : Hid (L1.length ≤ 200) := Lib.hid (by have := HLE.out; omega)
            go_wp2_with (first
              | (go_at_call 12; refine (pb_find d t HK.out HPZ.out).mono ?_; rintro e w9 ⟨rfl, rfl⟩)
              | (go_at_call 17; refine (pb_rfind d t HLN.out HPZ.out).mono ?_; rintro e w9 ⟨rfl, rfl⟩))
            obtain ⟨vq, hqv⟩ := HPZ.out.q
            obtain ⟨oq, cq, rfl, _⟩ := hqv.row.form
            have HQP := Lib.hid (hqv.row.pts en_len (by omega))
            obtain ⟨q0, _⟩ := hqv.v0
            clear hqv p0 p3
            generalize fiI L1 d t = oi
            generalize fiB L1 d t = ob
            have hobb : (!(ob == ob)) = false := by simp
            have HZ := HPZ.out
            have hk0 : Below w4.heap.size w4 w4.drew := (Below.refl _ _).drew
            go_region_held3 (fun w' => (w'.cell? ⟨xb, 1, none⟩ = some (.int .i64 d) ∧ w'.cell? ⟨xb, 2, none⟩ = some (.int .i64 i) ∧ w'.cell? ⟨qb, 0, none⟩ = some (.slice oq L1.length cq)) ∧ Below w4.heap.size w4 w')
              (first | exact seeS2 p1 p2 q0 (by assumption))
              (first
                | (have hz := hpb; clear hz; go_at_call 20; refine (bl_rlen d HLN.out HZ (by assumption)).mono ?_; rintro e we ⟨oa3, ca3, rfl, hke⟩)
                | (have hz := hpj; clear hz; go_at_call 22; refine (bl_own oa7 ca7 _ HLN.out hpj (by assumption)).mono ?_; rintro e wk ⟨oa8, ca8, rfl, hpk, hkk⟩)
                | (have hz := hpk; clear hz; go_at_call 21; refine (bl_same0 oa8 oq ca8 cq HLN.out hpk HQP.out (by assumption)).mono ?_; rintro e wl ⟨rfl, hkl⟩)
                | (go_at_call 19; refine (bl_list d HLN.out HZ (by assumption)).mono ?_; rintro e wa ⟨oa1, ca1, rfl, hpa, hka⟩)
                | (go_at_call 20; refine (bl_rlist d HLN.out hpa HZ (by assumption)).mono ?_; rintro e wb ⟨oa2, ca2, rfl, hpa2, hpb, hkb⟩)
                | (go_at_call 18; refine (bl_texts oa1 oa2 ca1 ca2 _ (names_le HLN.out d) hpa2 hpb (by assumption)).mono ?_; rintro e wc ⟨rfl, hkc⟩)
                | (go_at_call 13; refine (bl_count d HK.out.1 HZ (by assumption)).mono ?_; rintro e wd ⟨rfl, rfl⟩)
                | (go_at_call 14; refine (bl_of i HLN.out HZ (by assumption)).mono ?_; rintro e wf ⟨oa4, ca4, rfl, hpf, hkf⟩)
                | (go_at_call 22; refine (bl_own oa4 ca4 _ (ofL_le HLN.out i) hpf (by assumption)).mono ?_; rintro e wg ⟨oa5, ca5, rfl, hpg, hkg⟩)
                | (go_at_call 23; refine (bl_rof i HLN.out hpg HZ (by assumption)).mono ?_; rintro e wh ⟨oa6, ca6, rfl, hpg2, hph, hkh⟩)
                | (go_at_call 21; refine (bl_same oa5 oa6 ca5 ca6 _ (ofL_le HLN.out i) hpg2 hph (by assumption)).mono ?_; rintro e wi ⟨rfl, hki⟩)
                | (go_at_call 24; refine (bl_all HLN.out HZ (by assumption)).mono ?_; rintro e wj ⟨oa7, ca7, rfl, hpj, hkj⟩))
            go_wp2_with fail
            exact ⟨⟨m + 1, L1, by omega, HLE.out, by simp, HZ.hd hkl⟩, by simp [intOf]; omega⟩
          · have HPB1 : Hid (PB W (wr.alloc (.cells #[.int .i64 k, .int .i64 d, .int .i64 i, .string t] 30)) nb b c qb wr.heap.size ⟨k, d, i, t⟩ L L) := Lib.hid HPB.out
            have d0 : (k == 0) = false := by simpa using k0
            have d1 : (k == 1) = false := by simpa using k1
            clear k0 k1
            have HPZ := Lib.hid HPB1.out
            obtain ⟨p0, p1, p2, p3⟩ := HPZ.out.cs
            simp only at p0 p1 p2 p3
            have HLE : Hid ((L).length ≤ m + 1) := Lib.hid (Nat.le_succ_of_le HLM.out)
            have HLN : Hid (L.length ≤ 200) := Lib.hid (by have := HLE.out; omega)
            go_wp2_with (first
              | (go_at_call 12; refine (pb_find d t HK.out HPZ.out).mono ?_; rintro e w9 ⟨rfl, rfl⟩)
              | (go_at_call 17; refine (pb_rfind d t HLN.out HPZ.out).mono ?_; rintro e w9 ⟨rfl, rfl⟩))
            generalize wr.alloc (.cells #[.int .i64 k, .int .i64 d, .int .i64 i, .string t] 30) = w4 at *
            generalize wr.heap.size = xb at *
            obtain ⟨vq, hqv⟩ := HPZ.out.q
            obtain ⟨oq, cq, rfl, _⟩ := hqv.row.form
            have HQP := Lib.hid (hqv.row.pts en_len (by omega))
            obtain ⟨q0, _⟩ := hqv.v0
            clear hqv p0 p3
            generalize fiI L d t = oi
            generalize fiB L d t = ob
            have hobb : (!(ob == ob)) = false := by simp
            have HZ := HPZ.out
            have hk0 : Below w4.heap.size w4 w4.drew := (Below.refl _ _).drew
            go_region_held3 (fun w' => (w'.cell? ⟨xb, 1, none⟩ = some (.int .i64 d) ∧ w'.cell? ⟨xb, 2, none⟩ = some (.int .i64 i) ∧ w'.cell? ⟨qb, 0, none⟩ = some (.slice oq L.length cq)) ∧ Below w4.heap.size w4 w')
              (first | exact seeS2 p1 p2 q0 (by assumption))
              (first
                | (have hz := hpb; clear hz; go_at_call 20; refine (bl_rlen d HLN.out HZ (by assumption)).mono ?_; rintro e we ⟨oa3, ca3, rfl, hke⟩)
                | (have hz := hpj; clear hz; go_at_call 22; refine (bl_own oa7 ca7 _ HLN.out hpj (by assumption)).mono ?_; rintro e wk ⟨oa8, ca8, rfl, hpk, hkk⟩)
                | (have hz := hpk; clear hz; go_at_call 21; refine (bl_same0 oa8 oq ca8 cq HLN.out hpk HQP.out (by assumption)).mono ?_; rintro e wl ⟨rfl, hkl⟩)
                | (go_at_call 19; refine (bl_list d HLN.out HZ (by assumption)).mono ?_; rintro e wa ⟨oa1, ca1, rfl, hpa, hka⟩)
                | (go_at_call 20; refine (bl_rlist d HLN.out hpa HZ (by assumption)).mono ?_; rintro e wb ⟨oa2, ca2, rfl, hpa2, hpb, hkb⟩)
                | (go_at_call 18; refine (bl_texts oa1 oa2 ca1 ca2 _ (names_le HLN.out d) hpa2 hpb (by assumption)).mono ?_; rintro e wc ⟨rfl, hkc⟩)
                | (go_at_call 13; refine (bl_count d HK.out.1 HZ (by assumption)).mono ?_; rintro e wd ⟨rfl, rfl⟩)
                | (go_at_call 14; refine (bl_of i HLN.out HZ (by assumption)).mono ?_; rintro e wf ⟨oa4, ca4, rfl, hpf, hkf⟩)
                | (go_at_call 22; refine (bl_own oa4 ca4 _ (ofL_le HLN.out i) hpf (by assumption)).mono ?_; rintro e wg ⟨oa5, ca5, rfl, hpg, hkg⟩)
                | (go_at_call 23; refine (bl_rof i HLN.out hpg HZ (by assumption)).mono ?_; rintro e wh ⟨oa6, ca6, rfl, hpg2, hph, hkh⟩)
                | (go_at_call 21; refine (bl_same oa5 oa6 ca5 ca6 _ (ofL_le HLN.out i) hpg2 hph (by assumption)).mono ?_; rintro e wi ⟨rfl, hki⟩)
                | (go_at_call 24; refine (bl_all HLN.out HZ (by assumption)).mono ?_; rintro e wj ⟨oa7, ca7, rfl, hpj, hkj⟩))
            go_wp2_with fail
            exact ⟨⟨m + 1, L, by omega, HLE.out, by simp, HZ.hd hkl⟩, by simp [intOf]; omega⟩
      · have hi1 : ¬ ((m : Int) < (l.length : Int)) := by omega
        clear hlt
        go_wp2_with (go_at_call 9; refine (wakes_any _).mono ?_; rintro e w9 ⟨rfl, hb9⟩; have HB9 := Lib.hid hb9; clear hb9)
        go_ret
        exact ⟨rfl, bstep HH.out.below HB9.out⟩
  · have HFA : Hid (decide (FairL l) = false) := Lib.hid (decide_eq_false hf)
    clear hf
    go_enter Try.func5, Try.ntmps5
    go_wp2_with (first
      | (go_at_call 7; refine (new_any _).mono ?_; rintro e w1 ⟨rfl, h1, hb1⟩; have HB1 := Lib.hid hb1; clear h1 hb1)
      | (go_at_call 8; refine (fair_any _ _ _ hl _ (HP.out.grow (bstep HB1.out (below_alloc _ _)))).mono ?_; rintro e w2 ⟨rfl, rfl⟩; rw [HFA.out])
      | (go_at_call 9; refine (wakes_any _).mono ?_; rintro e w9 ⟨rfl, hb9⟩; have HB9 := Lib.hid hb9; clear hb9))
    go_ret
    exact ⟨rfl, bstep (bstep HB1.out (below_alloc _ _)) HB9.out⟩
end Go.Proofs.Ytffigodlfmnbpaa.DirW
