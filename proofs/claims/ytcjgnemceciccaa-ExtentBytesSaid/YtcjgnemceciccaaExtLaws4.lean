/- The laws of extent: Bytes. -/
import Derived.Test.YtcjgnemceciccaaExtLaws3
namespace Go.Proofs.Ytcjgnemceciccaa.ExtW
open Go.RowKit
def coverG (dl : List Pt) : Int → Option (Int × Int) := dl.foldl overG (fun _ => none)
theorem cover_snoc (dl : List Pt) (x : Pt) : coverG (dl ++ [x]) = overG (coverG dl) x := by unfold coverG; simp
theorem put_ok {nl : List Pt} {x : Pt} (hg : Good nl) (h : putE nl x = 0) : One x ∧ Good (putL nl x) ∧ look (putL nl x) = overG (look nl) x := by
  unfold putE at h
  rw [if_pos hg] at h
  by_cases ho : One x
  · rw [if_pos ho] at h
    have hl : ¬ (joinL (overL nl x)).length > 64 := fun c => by
      unfold fewE at h; rw [if_pos c] at h; cases h
    have e : putL nl x = joinL (overL nl x) := by
      unfold putL; rw [if_pos hg, if_pos ho]; unfold fewL; rw [if_neg hl]
    obtain ⟨_, _, c, d⟩ := join_fine (over_sorted hg ho) (over_ones hg ho)
    rw [e]
    exact ⟨ho, ⟨by omega, c⟩, funext fun i => by rw [d i]; exact look_over nl x i ho.small.2.1⟩
  · rw [if_neg ho] at h; cases h
/-- one more of those that were put, from the end: it covers the byte, or it does not -/
theorem cover_step {dl : List Pt} {m : Nat} {x : Pt} {i : Int} (hx : dl[m]? = some x) (ho : One x) (h : coverG dl i = coverG (dl.take (m + 1)) i) :
    (atA [x] i = -1 ∧ atF [x] i = 0 ∧ coverG dl i = coverG (dl.take m) i) ∨ (0 ≤ atA [x] i ∧ coverG dl i = some (atA [x] i, atF [x] i)) := by
  have hs := ho.small
  rw [take_snoc hx, cover_snoc] at h
  unfold overG at h
  unfold atA atF
  simp only [look]
  by_cases c : x.o ≤ i ∧ i < x.o + x.n
  · rw [if_pos c] at h ⊢
    exact .inr ⟨by simp only; omega, h⟩
  · rw [if_neg c] at h ⊢
    exact .inl ⟨rfl, rfl, h⟩
theorem at_some {nl dl : List Pt} {z A F wa wf : Int} (hlk : look nl = coverG dl) (hA : atA nl z = A) (hF : atF nl z = F) (h : coverG dl z = some (wa, wf)) : A = wa ∧ F = wf := by
  unfold atA at hA; unfold atF at hF
  rw [hlk, h] at hA hF
  exact ⟨hA.symm, hF.symm⟩
theorem at_none {nl dl : List Pt} {z A F : Int} (hlk : look nl = coverG dl) (hA : atA nl z = A) (hF : atF nl z = F) (h : coverG dl z = none) : A = -1 ∧ F = 0 := by
  unfold atA at hA; unfold atF at hF
  rw [hlk, h] at hA hF
  exact ⟨hA.symm, hF.symm⟩
set_option linter.constructorNameAsVariable false in
set_option maxRecDepth 100000 in
set_option maxHeartbeats 3200000 in
theorem bytes_walk (oa : Option Addr) (cap : Nat) (l : List Pt) (hl : l.length ≤ maxLen) (off : Int) (_ : (Lit.int .i64 off).wf = true) (n : Int) (_ : (Lit.int .i64 n).wf = true) (w : World) (h : Came w oa cap l) :
    Calls Try.prog 7 #[.slice oa l.length cap, .int .i64 off, .int .i64 n] w fun e w' => e = .returned (.bool true) ∧ Below w.heap.size w w' := by
  obtain ⟨i0, hi, hz0, hz1, hz2⟩ := info_parts partinfo
  unfold maxLen at hl
  have HC := Lib.hid h
  clear h
  by_cases hbig : 40 < l.length
  · go_enter Try.func7, Try.ntmps7
    go_wp2_with (go_at_call 10; refine (wakes_any _).mono ?_; rintro e w1 ⟨rfl, hb⟩; have HB9 := Lib.hid hb; clear hb)
    go_ret
    exact ⟨rfl, HB9.out⟩
  · have hl2 : l.length ≤ 40 := by omega
    have hbig' : decide ((40 : Int) < (l.length : Int)) = false := decide_eq_false (by omega)
    clear hl hbig
    go_enter Try.func7, Try.ntmps7
    go_wp2_with fail
    clear hbig'
    go_loopw [7, 8, 9] (fun vn vd i wr => ∃ (k : Nat) (nl dl : List Pt), k ≤ l.length ∧ i = .int .i64 (k : Int) ∧ Row w.heap.size wr vn nl ∧ Row w.heap.size wr vd dl ∧ Good nl ∧ (∀ x ∈ dl, One x) ∧ dl.length ≤ k ∧ look nl = coverG dl ∧ Below w.heap.size w wr) (fun _ _ i _ => ((l.length : Int) - intOf i).toNat)
    case atStart => exact ⟨0, [], [], by omega, rfl, Row.nil _ _, Row.nil _ _, good_nil, by simp, by simp, rfl, Below.refl _ _⟩
    case round =>
      obtain ⟨k, nl, dl, hk, rfl, hrn, hrd, hgn, hod, hdk, hlk, hbel⟩ := hrel
      have HB := Lib.hid hbel
      have HGN := Lib.hid hgn
      have HOD := Lib.hid hod
      have HLK := Lib.hid hlk
      obtain ⟨oan, capn, rfl, _, _, _⟩ := hrn.form
      obtain ⟨oad, capd, rfl, hcd, hmd, hnd⟩ := hrd.form
      have HRN := Lib.hid hrn
      have HRD := Lib.hid hrd
      have hn64 := hgn.1
      clear hbel hgn hod hlk hrn hrd
      by_cases hlt : k < l.length
      · obtain ⟨x, hx⟩ : ∃ x, l[k]? = some x := ⟨_, List.getElem?_eq_getElem hlt⟩
        obtain ⟨al, rfl, hab, c0, c1, c2, c3⟩ := (HC.out.pts.grow HB.out) k x hx
        have hk0 : (0 : Int) ≤ (k : Int) := by omega
        have hkl : (k : Int) < (l.length : Int) := by omega
        obtain ⟨m, hm⟩ : ∃ m, putL nl x = m := ⟨_, rfl⟩
        obtain ⟨er, her⟩ : ∃ er, putE nl x = er := ⟨_, rfl⟩
        have HM := Lib.hid hm
        have HER := Lib.hid her
        clear hx hm her
        by_cases he0 : er = 0
        · obtain ⟨hxo, hgm, hlm⟩ := put_ok HGN.out (HER.out.trans he0)
          rw [HM.out] at hgm hlm
          have HXO := Lib.hid hxo
          have HGM := Lib.hid hgm
          have HLM := Lib.hid hlm
          subst he0
          have hdl : dl.length ≤ 40 := by omega
          obtain ⟨nd, hnd2⟩ : ∃ nd, dl.length = nd := ⟨_, rfl⟩
          have HND := Lib.hid hnd2
          rw [hnd2] at HRD hcd hdl hnd hdk ⊢
          clear hxo hgm hlm hnd2
          go_wp2_with (first
            | (go_at_call 19; go_loud (refine (put_is _ _ _ nl m x 0 HM.out HER.out rfl (by omega) _ HRN.out.pts).mono ?_; rintro e w1 ⟨oa1, cap1, rfl, hr1, _, hb1⟩; have HP := Lib.hid (hr1.mono HB.out.size); have HNE := Lib.hid (row_ne HRD.out (Nat.le_refl _) hr1); have HOWN : Hid (w1.ownsRow w.heap.size 31 4 (.slice oad nd capd) nd (cellsOf dl)) := Lib.hid (by have := HRD.out.grow hb1; unfold Row at this; rw [HND.out] at this; exact this); have HB1 := Lib.hid (bstep HB.out hb1); replace c0 := cell_step hb1 c0; replace c1 := cell_step hb1 c1; replace c2 := cell_step hb1 c2; replace c3 := cell_step hb1 c3; clear hr1 hb1))
            | (at_builtin; go_loud (refine wpList_append_newB rfl _ _ 22 rfl w.heap.size 31 i0 (.agg #[.int .i64 0, .int .i64 0, .int .i64 0, .int .i64 0]) 4 32 Try.underlying22 hi hz0 hz1 hz2 rfl (by decide) _ _ _ (by rfl) HOWN.out _ 1 1 (by rfl) rfl (cells_onecell [x]) (by unfold maxLen; omega) (by omega) HB1.out.size (by simp) ?_; intro oa5 cap5 w5 hown5 hbel5 hg5; have HD5 := Lib.hid (Row.app x HND.out.symm hown5); have HP5 := Lib.hid (World.ownsRow.kept HP.out hg5 HNE.out.symm); have HB5 := Lib.hid (HB1.out.trans hbel5); clear hown5 hbel5 hg5)))
          exact ⟨⟨k + 1, m, dl ++ [x], by omega, by simp, HP5.out, HD5.out, HGM.out, fun y hy => by
            rcases List.mem_append.1 hy with hy | hy
            · exact HOD.out y hy
            · obtain rfl : y = x := by simpa using hy
              exact HXO.out, by rw [List.length_append, HND.out]; simp; omega, by rw [HLM.out, cover_snoc, HLK.out], HB5.out⟩, by simp [intOf]; omega⟩
        · have b0 : (er == 0) = false := by rw [beq_eq_false_iff_ne]; exact he0
          clear he0
          go_wp2_with (go_at_call 19; go_loud (refine (put_is _ _ _ nl m x er HM.out HER.out rfl (by omega) _ HRN.out.pts).mono ?_; rintro e w1 ⟨oa1, cap1, rfl, _, _, hb1⟩; have HRN1 := Lib.hid (HRN.out.grow hb1); have HRD1 := Lib.hid (HRD.out.grow hb1); have HB1 := Lib.hid (bstep HB.out hb1); clear hb1))
          exact ⟨⟨k + 1, nl, dl, by omega, by simp, HRN1.out, HRD1.out, HGN.out, HOD.out, by omega, HLK.out, HB1.out⟩, by simp [intOf]; omega⟩
      · have hkl : ¬ ((k : Int) < (l.length : Int)) := by omega
        have HG : Hid (decide (Good nl) = true) := Lib.hid (decide_eq_true HGN.out)
        have HON := Lib.hid (chain_ones HGN.out.2)
        have hdl : dl.length ≤ 40 := by omega
        obtain ⟨nd, hnd2⟩ : ∃ nd, dl.length = nd := ⟨_, rfl⟩
        have HND := Lib.hid hnd2
        rw [hnd2] at HRD hcd hdl hnd hdk ⊢
        clear hnd2 hnd
        go_wp2_with (go_at_call 12; go_loud (refine (good_is2 _ _ _ nl true HG.out rfl (by omega) _ HRN.out.pts).mono ?_; rintro e w1 ⟨rfl, hb1⟩; have HN1 := Lib.hid (HRN.out.grow hb1).pts; have HD1 := Lib.hid (HRD.out.grow hb1).pts; have HB1 := Lib.hid (bstep HB.out hb1); clear hb1))
        go_loopw [12, 15, 16, 17] (fun i _ _ _ wr => ∃ z : Int, 0 ≤ z ∧ z ≤ 9000 ∧ i = .int .i64 z ∧ Below w1.heap.size w1 wr) (fun i _ _ _ _ => (9000 - intOf i).toNat)
        case atStart => exact ⟨0, by omega, by omega, rfl, Below.refl _ _⟩
        case round =>
          obtain ⟨z, hz00, hz9, rfl, hbel⟩ := hrel
          have HBR := Lib.hid hbel
          clear hbel
          by_cases hz8 : z < 8192
          · obtain ⟨A, hA⟩ : ∃ A, atA nl z = A := ⟨_, rfl⟩
            obtain ⟨F, hF⟩ : ∃ F, atF nl z = F := ⟨_, rfl⟩
            have HA := Lib.hid hA
            have HF := Lib.hid hF
            have HZB := Lib.hid (show -100000 ≤ z ∧ z ≤ 100000 by omega)
            clear hA hF
            go_wp2_with (go_at_call 25; go_loud (refine (at_is _ _ _ nl z A F HA.out HF.out rfl HZB.out HON.out (by omega) _ (HN1.out.grow HBR.out)).mono ?_; rintro e w2 ⟨rfl, hb2⟩; have HB2 := Lib.hid (bstep HBR.out hb2); clear hb2))
            obtain ⟨w3, rfl⟩ : ∃ w3 : World, w3 = w2 := ⟨_, rfl⟩
            go_loopw [15, 16, 17] (fun a f q wr => ∃ (j : Nat) (qi wa wf : Int), j ≤ nd ∧ qi + 1 = j ∧ q = .int .i64 qi ∧ a = .int .i64 wa ∧ f = .int .i64 wf ∧ ((wa = -1 ∧ wf = 0 ∧ coverG dl z = coverG (dl.take j) z) ∨ (0 ≤ wa ∧ coverG dl z = some (wa, wf))) ∧ Below w1.heap.size w1 wr) (fun _ _ q _ => (intOf q + 1).toNat)
            case atStart => exact ⟨nd, _, _, _, by omega, by omega, rfl, rfl, rfl, .inl ⟨rfl, rfl, by rw [List.take_of_length_le (by rw [HND.out]; omega)]⟩, HB2.out⟩
            case round =>
              obtain ⟨j, qi, wa, wf, hj, hqj, rfl, rfl, rfl, hst, hbel⟩ := hrel
              have HBJ := Lib.hid hbel
              have HST := Lib.hid hst
              clear hbel hst
              by_cases hq0 : 0 ≤ qi
              · by_cases hwa : wa < 0
                · obtain ⟨m, hm⟩ : ∃ m : Nat, qi = m := ⟨qi.toNat, by omega⟩
                  subst hm
                  have hmn : m < nd := by omega
                  have hmn2 : (m : Int) < (nd : Int) := by omega
                  obtain ⟨x, hx⟩ : ∃ x, dl[m]? = some x := ⟨_, List.getElem?_eq_getElem (by rw [HND.out]; exact hmn)⟩
                  have hcv := cover_step (i := z) hx (HOD.out x (List.mem_of_getElem? hx)) (by
                    rcases HST.out with ⟨_, _, h3⟩ | ⟨h1, _⟩
                    · rw [show m + 1 = j by omega]; exact h3
                    · omega)
                  have HCV := Lib.hid hcv
                  have HOX1 : Hid (∀ y ∈ [x], One y) := Lib.hid fun y hy => by
                    obtain rfl : y = x := by simpa using hy
                    exact HOD.out y (List.mem_of_getElem? hx)
                  have HPX : Hid (∀ wq : World, Below w1.heap.size w1 wq → ∃ ad, oad = some ad ∧ PtsAt wq.heap.size (some (ad.add (m * 4))) [x] wq) := Lib.hid fun wq hq => by
                    obtain ⟨ad, e, h1, h2, h3, h4, h5⟩ := (HD1.out.grow hq) m x hx
                    refine ⟨ad, e, fun i y hy => ?_⟩
                    obtain ⟨hi, rfl⟩ := List.getElem?_eq_some_iff.1 hy
                    obtain rfl : i = 0 := by simpa using hi
                    exact ⟨_, rfl, by rw [add_block]; exact h1, h2, h3, h4, h5⟩
                  clear hcv hx
                  obtain ⟨ad, hoad, HPX1⟩ := HPX.out _ HBJ.out
                  subst hoad
                  have HPX2 := Lib.hid HPX1
                  clear HPX1
                  obtain ⟨WA, hWA⟩ : ∃ WA, atA [x] z = WA := ⟨_, rfl⟩
                  obtain ⟨WF, hWF⟩ : ∃ WF, atF [x] z = WF := ⟨_, rfl⟩
                  rw [hWA, hWF] at HCV
                  have HWA := Lib.hid hWA
                  have HWF := Lib.hid hWF
                  clear hWA hWF
                  go_wp2_with (go_at_call 25; go_loud (refine (at_is _ _ _ [x] z WA WF HWA.out HWF.out (by simp; omega) HZB.out HOX1.out (by simp) _ HPX2.out).mono ?_; rintro e w5 ⟨rfl, hb5⟩; have HB5 := Lib.hid (bstep HBJ.out hb5); clear hb5))
                  exact ⟨⟨m, (m : Int) - 1, WA, WF, by omega, by omega, rfl, rfl, rfl, HCV.out, HB5.out⟩, by simp [intOf]⟩
                · have hwa2 : decide (wa < 0) = false := decide_eq_false hwa
                  have hwa3 : 0 ≤ wa := by omega
                  obtain ⟨hAw, hFw⟩ : A = wa ∧ F = wf := by
                    rcases HST.out with ⟨h1, _⟩ | ⟨_, h2⟩
                    · omega
                    · exact at_some HLK.out HA.out HF.out h2
                  subst hAw
                  subst hFw
                  clear hwa
                  go_wp2_with fail
                  exact ⟨⟨z + (1 + z / 50), by omega, by omega, rfl, HBJ.out⟩, by simp [intOf]; omega⟩
              · have hq1 : decide (0 ≤ qi) = false := decide_eq_false hq0
                have HFIN : Hid (A = wa ∧ F = wf ∧ (0 ≤ wa ∨ wa = -1)) := Lib.hid (by
                  rcases HST.out with ⟨h1, h2, h3⟩ | ⟨h1, h2⟩
                  · rw [show j = 0 by omega] at h3
                    obtain ⟨a1, a2⟩ := at_none HLK.out HA.out HF.out h3
                    exact ⟨by omega, by omega, .inr h1⟩
                  · obtain ⟨a1, a2⟩ := at_some HLK.out HA.out HF.out h2
                    exact ⟨a1, a2, .inl h1⟩)
                obtain ⟨hAw, hFw, hs⟩ := HFIN.out
                subst hAw
                subst hFw
                clear HFIN hq0
                rcases hs with hs | hs
                · go_wp2_with fail
                  exact ⟨⟨z + (1 + z / 50), by omega, by omega, rfl, HBJ.out⟩, by simp [intOf]; omega⟩
                · subst hs
                  go_wp2_with fail
                  exact ⟨⟨z + (1 + z / 50), by omega, by omega, rfl, HBJ.out⟩, by simp [intOf]; omega⟩
          · have hz8' : decide (z < 8192) = false := decide_eq_false hz8
            obtain ⟨o, ho⟩ : ∃ o, off % 8192 = o := ⟨_, rfl⟩
            have hob : 0 ≤ o ∧ o ≤ 8191 := by omega
            obtain ⟨r, hr⟩ : ∃ r, n % 300 = r := ⟨_, rfl⟩
            have hrb : 0 ≤ r ∧ r ≤ 299 := by omega
            obtain ⟨m, hm⟩ : ∃ m, min (1 + r) (8192 - o) = m := ⟨_, rfl⟩
            have hm' : (if 8192 - o < 1 + r then 8192 - o else 1 + r) = m := by rw [← hm]; split <;> omega
            have hmb : 1 ≤ m ∧ o + m ≤ 8192 := by omega
            have hwd : IntKind.i64.wrap (8192 - o) = 8192 - o := IntWalk.i64_in _ (by omega)
            have hwr : IntKind.i64.wrap (1 + r) = 1 + r := IntWalk.i64_in _ (by omega)
            have hwh : Whole o m 8192 := by unfold Whole; omega
            obtain ⟨q, hq⟩ : ∃ q, planS nl o m = q := ⟨_, rfl⟩
            have hq2 : planL o (o + m) nl = q := by rw [← hq]; unfold planS; rw [if_pos HGN.out, if_pos hwh]
            have HCOV : Hid (Covers (look nl) o q (o + m)) := Lib.hid (by rw [← hq2]; exact plan_covers HGN.out hwh)
            have hql : q.length ≤ 129 := by rw [← hq]; exact planS_len nl o m
            have HQ := Lib.hid hq
            have HM1 := Lib.hid (fun (w : World) => ho ▸ mod_any off 8192 w (by omega) (by omega))
            have HM2 := Lib.hid (fun (w : World) => hr ▸ mod_any n 300 w (by omega) (by omega))
            have HOB := Lib.hid hob
            have HMB := Lib.hid hmb
            clear ho hr hm hwh hq hq2 hz8 hmb
            go_wp2_with (first
              | (go_at_call_of 26 (Value.int IntKind.i64 8192); go_loud (refine (HM1.out _).mono ?_; rintro e w3 ⟨rfl, rfl⟩))
              | (go_at_call_of 26 (Value.int IntKind.i64 300); go_loud (refine (HM2.out _).mono ?_; rintro e w3 ⟨rfl, rfl⟩))
              | (go_at_call 21; go_loud (refine (plan_is _ _ _ nl q o m HQ.out rfl (by omega) _ (HN1.out.grow HBR.out)).mono ?_; rintro e w8 ⟨oa8, cap8, rfl, _, hp8, hb8⟩; have HP8 := Lib.hid hp8; have HN8 := Lib.hid ((HN1.out.grow HBR.out).grow hb8); have HB8 := Lib.hid (bstep (bstep HB1.out HBR.out) hb8); clear hb8 hp8)))
            go_loopw [21, 22, 23] (fun kk i _ wr => ∃ (j : Nat) (ki : Int), j ≤ q.length ∧ i = .int .i64 (j : Int) ∧ kk = .int .i64 ki ∧ Covers (look nl) ki (q.drop j) (o + m) ∧ Below w8.heap.size w8 wr) (fun _ i _ _ => ((q.length : Int) - intOf i).toNat)
            case atStart => exact ⟨0, o, by omega, rfl, rfl, HCOV.out, Below.refl _ _⟩
            case round =>
              obtain ⟨j, ki, hj, rfl, rfl, hcv, hbel⟩ := hrel
              have HBJ := Lib.hid hbel
              clear hbel
              have hob := HOB.out
              have hmb := HMB.out
              by_cases hlt : j < q.length
              · obtain ⟨x, hx⟩ : ∃ x, q[j]? = some x := ⟨_, List.getElem?_eq_getElem hlt⟩
                have hdr : q.drop j = x :: q.drop (j + 1) := by
                  obtain ⟨_, rfl⟩ := List.getElem?_eq_some_iff.1 hx
                  exact List.drop_eq_getElem_cons hlt
                rw [hdr] at hcv
                obtain ⟨hk1, hk2, hk3, hk4⟩ := hcv
                subst hk1
                have hrg := covers_at HCOV.out hx
                have HK3 := Lib.hid hk3
                have HK4 := Lib.hid hk4
                have HXJ := Lib.hid hx
                have hj0 : (0 : Int) ≤ (j : Int) := by omega
                have hjl : (j : Int) < (q.length : Int) := by omega
                have hxb : 0 ≤ x.o ∧ x.o + x.n ≤ 8192 := ⟨by omega, by omega⟩
                have hn1 : decide (x.n < 1) = false := decide_eq_false (by omega)
                have HFB : Hid (x.a = -1 ∨ (0 ≤ x.f ∧ x.f ≤ 1024)) := Lib.hid (by
                  rcases hk3 x.o (by omega) (by omega) with ⟨h1, _⟩ | ⟨_, h2⟩
                  · exact .inl h1
                  · obtain ⟨p, hp, b1, b2, b3, b4⟩ := look_some h2
                    have := (HON.out p hp).small
                    exact .inr (by omega))
                obtain ⟨a8, rfl, _, c0, c1, c2, c3⟩ := (HP8.out.grow HBJ.out) j x hx
                obtain ⟨N, hN⟩ : ∃ N : Nat, x.n = N := ⟨x.n.toNat, by omega⟩
                have HN := Lib.hid hN
                have hN2 : N ≤ 8192 := by omega
                clear hk3 hk4 hx hdr hrg hob hmb hN c2 c3
                go_wp2_with fail
                obtain ⟨w9, rfl⟩ : ∃ w9 : World, w9 = wr := ⟨_, rfl⟩
                clear c0 c1
                go_loopw [23] (fun i wr => ∃ t : Nat, t ≤ N ∧ i = .int .i64 (t : Int) ∧ Below w8.heap.size w8 wr) (fun i _ => ((N : Int) - intOf i).toNat)
                case atStart => exact ⟨0, by omega, rfl, HBJ.out⟩
                case round =>
                  obtain ⟨t, ht, rfl, hbel⟩ := hrel
                  have HBT := Lib.hid hbel
                  obtain ⟨a8', e8, _, c0, c1, c2, c3⟩ := (HP8.out.grow hbel) j x HXJ.out
                  obtain rfl : a8 = a8' := by simpa using e8
                  clear hbel e8
                  have hn := HN.out
                  by_cases htl : t < N
                  · have htl2 : (t : Int) < x.n := by omega
                    obtain ⟨P, hP⟩ : ∃ P, x.o + t = P := ⟨_, rfl⟩
                    have hw1 : IntKind.i64.wrap (x.o + t) = P := by rw [← hP]; exact IntWalk.i64_in _ (by omega)
                    have HPB := Lib.hid (show -100000 ≤ P ∧ P ≤ 100000 by omega)
                    have hlk := HK3.out P (by omega) (by omega)
                    by_cases hxa : x.a = -1
                    · have HA : Hid (atA nl P = -1 ∧ atF nl P = 0) := Lib.hid (by
                        rcases hlk with ⟨_, h2⟩ | ⟨h1, _⟩
                        · unfold atA atF; rw [h2]; exact ⟨rfl, rfl⟩
                        · omega)
                      rw [hxa] at c2
                      clear hlk hP hn hxa
                      go_wp2_with (go_at_call 25; go_loud (refine (at_is _ _ _ nl P _ _ HA.out.1 HA.out.2 rfl HPB.out HON.out (by omega) _ (HN8.out.grow HBT.out)).mono ?_; rintro e w5 ⟨rfl, hb5⟩; have HB5 := Lib.hid (bstep HBT.out hb5); replace c2 := cell_step hb5 c2; replace c3 := cell_step hb5 c3; clear hb5))
                      exact ⟨⟨t + 1, by omega, by simp, HB5.out⟩, by simp [intOf]; omega⟩
                    · obtain ⟨G, hG⟩ : ∃ G, x.f + t = G := ⟨_, rfl⟩
                      have hfb := HFB.out
                      have hw2 : IntKind.i64.wrap (x.f + t) = G := by rw [← hG]; exact IntWalk.i64_in _ (by omega)
                      have HA : Hid (atA nl P = x.a ∧ atF nl P = G) := Lib.hid (by
                        rcases hlk with ⟨h1, _⟩ | ⟨_, h2⟩
                        · exact absurd h1 hxa
                        · unfold atA atF; rw [h2]; exact ⟨rfl, by show x.f + (P - x.o) = G; omega⟩)
                      have hxa0 : 0 ≤ x.a := by
                        rcases hlk with ⟨h1, _⟩ | ⟨h1, _⟩
                        · exact absurd h1 hxa
                        · exact h1
                      clear hlk hP hn hG hfb hxa
                      go_wp2_with (go_at_call 25; go_loud (refine (at_is _ _ _ nl P _ _ HA.out.1 HA.out.2 rfl HPB.out HON.out (by omega) _ (HN8.out.grow HBT.out)).mono ?_; rintro e w5 ⟨rfl, hb5⟩; have HB5 := Lib.hid (bstep HBT.out hb5); replace c2 := cell_step hb5 c2; replace c3 := cell_step hb5 c3; clear hb5))
                      exact ⟨⟨t + 1, by omega, by simp, HB5.out⟩, by simp [intOf]; omega⟩
                  · have htl2 : ¬ ((t : Int) < x.n) := by omega
                    have hw1 : IntKind.i64.wrap (x.o + x.n) = x.o + x.n := IntWalk.i64_in _ (by omega)
                    clear hn
                    go_wp2_with fail
                    exact ⟨⟨j + 1, x.o + x.n, by omega, by simp, rfl, HK4.out, HBT.out⟩, by simp [intOf]; omega⟩
              · have hjl : ¬ ((j : Int) < (q.length : Int)) := by omega
                rw [List.drop_of_length_le (by omega)] at hcv
                have hke : ki = o + m := hcv
                subst hke
                have hwe : IntKind.i64.wrap (o + m) = o + m := IntWalk.i64_in _ (by omega)
                clear hcv hob hmb
                go_wp2_with (go_at_call 10; refine (wakes_any _).mono ?_; rintro e w9 ⟨rfl, hb⟩; have HB9 := Lib.hid (bstep (bstep HB8.out HBJ.out) hb); clear hb)
                go_ret
                exact ⟨rfl, HB9.out⟩
end Go.Proofs.Ytcjgnemceciccaa.ExtW
