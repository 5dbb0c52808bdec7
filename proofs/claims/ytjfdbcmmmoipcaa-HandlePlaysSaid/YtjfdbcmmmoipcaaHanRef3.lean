/- The reference's handles: Renew, Expire; Same; Own. -/
import Derived.Test.YtjfdbcmmmoipcaaHanRef2
import Derived.Test.YtjfdbcmmmoipcaaHanExp
import Derived.Test.YtjfdbcmmmoipcaaAppDraw
namespace Go.Proofs.Ytjfdbcmmmoipcaa.HanW
open Go.RowKit HanP
set_option maxHeartbeats 400000 in
theorem rrenew_any (qb B : Nat) (L : List Ha) (ls : List Int) (c tick : Int) (w : World) (h : QIs w qb B L ls) :
    Calls Try.prog 19 #[.pointer (some ⟨qb, 0, none⟩), .int .i64 c, .int .i64 tick] w fun e w' => e = .returned (.int .i64 (renewE c tick)) ∧ QIs w' qb B L (renewL ls c tick) ∧ Only qb w w' := by
  have HH := Lib.hid h
  by_cases hm : mayRenew c tick = true
  · obtain ⟨q1, q2, q3, q4⟩ := of_decide_eq_true hm
    obtain ⟨k, rfl⟩ : ∃ k : Nat, c = k := ⟨c.toNat, by omega⟩
    have hk : k < 8 := by omega
    have HE : Hid (renewE k tick = 0 ∧ renewL ls k tick = ls.set k (max (ls.getD k 0) tick)) := Lib.hid (by unfold renewE renewL; rw [if_pos hm, if_pos hm]; simp)
    obtain ⟨v, h⟩ := h
    have HV := Lib.hid h
    obtain ⟨p1, p2⟩ := h.lease hk
    obtain ⟨b1, b2⟩ := lease_bd h.good.lb k
    have HMB : Hid (0 ≤ max (ls.getD k 0) tick ∧ max (ls.getD k 0) tick ≤ 1099511627776) := Lib.hid (by omega)
    generalize ls.getD k 0 = m at *
    clear h hm
    go_enter Try.func19, Try.ntmps19
    go_wp2_with fail
    go_region
    go_wp2
    go_ret
    have hg := HV.out.good
    refine ⟨ret_int HE.out.1.symm, ⟨v, ?_, ?_, ?_⟩, ((Only.refl qb w).setCell _ _).drew⟩
    · rw [HE.out.2]
      show (w.setCell _ _).heap[qb]? = _
      rw [heap_setCell_same w qb (1 + k) _ _ _ HV.out.head]
      congr 2
      unfold qCells
      apply Array.ext'
      simp [Nat.add_comm 1 k, List.map_set]
    · exact ((Only.refl qb w).setCell _ _).drew.keepRow HV.out.row HV.out.ne
    · refine ⟨hg.rises, hg.fits, hg.few, by rw [HE.out.2]; simp [hg.l8], fun x hx => ?_⟩
      rw [HE.out.2] at hx
      rcases List.mem_or_eq_of_mem_set hx with hx | rfl
      · exact hg.lb x hx
      · exact HMB.out
  · have HE : Hid (renewE c tick = 1 ∧ renewL ls c tick = ls) := Lib.hid (by unfold renewE renewL; rw [if_neg hm, if_neg hm]; simp)
    have hcs : (c < 0) ∨ (0 ≤ c ∧ 8 ≤ c) ∨ ((0 ≤ c ∧ c < 8) ∧ tick < 0) ∨ ((0 ≤ c ∧ c < 8) ∧ 0 ≤ tick ∧ 1099511627776 < tick) := by
      have hm' : ¬ (0 ≤ c ∧ c < 8 ∧ 0 ≤ tick ∧ tick ≤ 1099511627776) := fun h => hm (decide_eq_true h)
      omega
    clear hm h
    rcases hcs with q1 | ⟨q1, q2⟩ | ⟨⟨q1, q2⟩, q3⟩ | ⟨⟨q1, q2⟩, q3, q4⟩
    all_goals
      go_enter Try.func19, Try.ntmps19
      go_wp2_with fail
      go_ret
      exact ⟨ret_int HE.out.1.symm, by rw [HE.out.2]; exact HH.out, Only.refl _ _⟩
set_option maxHeartbeats 1600000 in
theorem rexpire_any (qb B : Nat) (L : List Ha) (ls : List Int) (t : Int) (w : World) (h : QIs w qb B L ls) (hBw : B ≤ w.heap.size) :
    Calls Try.prog 22 #[.pointer (some ⟨qb, 0, none⟩), .int .i64 t] w fun e w' => ∃ v, e = .returned v ∧ RowK 67 encHa 3 w.heap.size w' v (L.filter (goneB ls t)) ∧ QIs w' qb B (L.filter fun a => !goneB ls t a) ls ∧ Only qb w w' := by
  obtain ⟨i0, hi, hz0, hz1, hz2⟩ := info_parts rh_info
  obtain ⟨v, h⟩ := h
  have HV := Lib.hid h
  have hlen := h.good.len
  have HFIT := Lib.hid h.good.fits
  obtain ⟨oa, cap, rfl, hc, hc2, _⟩ := h.row.form
  have HP := Lib.hid (h.row.pts ha_len (by omega))
  have hqb := h.lt
  clear h
  go_enter Try.func22, Try.ntmps22
  go_wp2_with fail
  go_loopw [5, 6, 7] (fun v1 v2 i wr => ∃ k : Nat, k ≤ L.length ∧ i = .int .i64 (k : Int) ∧ RowK 67 encHa 3 w.heap.size wr v1 ((L.take k).filter (goneB ls t)) ∧ RowK 67 encHa 3 w.heap.size wr v2 ((L.take k).filter fun a => !goneB ls t a) ∧ (∀ g, v1.ownBlock = some g → v2.ownBlock ≠ some g) ∧ Below w.heap.size w wr) (fun _ _ i _ => ((L.length : Int) - intOf i).toNat)
  case atStart => exact ⟨0, by omega, rfl, RowK.nil _ _, RowK.nil _ _, fun g h => by simp [Value.ownBlock] at h, Below.refl _ _⟩
  case round =>
    obtain ⟨k, hk, rfl, hr1, hr2, hne, hbel⟩ := hrel
    have HB := Lib.hid hbel
    have HNE := Lib.hid hne
    have hqw : qb < wr.heap.size := Nat.lt_of_lt_of_le hqb hbel.size
    have hhead : wr.heap[qb]? = some (.cells (qCells (.slice oa L.length cap) ls) 48 (0, 0)) := (hbel.block qb hqb).trans HV.out.head
    have p0 : wr.cell? ⟨qb, 0, none⟩ = some (.slice oa L.length cap) := by rw [Lib.cell_of_heap hhead]; simp [qCells]
    have f0 : wr.frozen? ⟨qb, 0, none⟩ = false := Lib.frozen_of_heap hhead _
    have HHEAD := Lib.hid hhead
    have hsz := hbel.size
    clear hbel hne hhead
    by_cases hlt : k < L.length
    · obtain ⟨x, hx⟩ : ∃ x, L[k]? = some x := ⟨_, List.getElem?_eq_getElem hlt⟩
      have HF := Lib.hid (filt_snoc hx (goneB ls t))
      have HF' := Lib.hid (filt_snoc hx (fun a => !goneB ls t a))
      have hl1 : ((L.take k).filter (goneB ls t)).length ≤ 128 := by
        have := List.length_filter_le (goneB ls t) (L.take k)
        have : (L.take k).length ≤ k := List.length_take_le _ _
        omega
      have hl2 : ((L.take k).filter (fun a => !goneB ls t a)).length ≤ 128 := by
        have := List.length_filter_le (fun a => !goneB ls t a) (L.take k)
        have : (L.take k).length ≤ k := List.length_take_le _ _
        omega
      obtain ⟨a, rfl, hab, c0, c1, c2⟩ := ha_at (HP.out.below HB.out) hx
      have hfx := HFIT.out x (List.mem_of_getElem? hx)
      obtain ⟨c, hc8⟩ : ∃ c : Nat, x.c = c := ⟨x.c.toNat, by omega⟩
      have hcl : c < 8 := by omega
      have p1 : wr.cell? ⟨qb, 1 + c, none⟩ = some (.int .i64 (ls.getD c 0)) := by
        rw [Lib.cell_of_heap HHEAD.out, Nat.add_comm]
        have : c < ls.length := by rw [HV.out.good.l8]; exact hcl
        simp [qCells, List.getD, this]
      have hgb : goneB ls t x = decide (ls.getD c 0 < t) := by unfold goneB; rw [hc8]; rfl
      generalize ls.getD c 0 = m at p1 hgb
      obtain ⟨xc, xn, xi⟩ := x
      simp only at hc8 hfx
      subst hc8
      have hci : (c : Int) < 8 := by omega
      obtain ⟨oa1, cap1, rfl, hcc1, _, _⟩ := hr1.form
      obtain ⟨oa2, cap2, rfl, hcc2, _, _⟩ := hr2.form
      simp only at c0 c1 c2
      generalize (L.take k).filter (goneB ls t) = J at hr1 HF hl1 hcc1 HNE
      generalize (L.take k).filter (fun a => !goneB ls t a) = J2 at hr2 HF' hl2 hcc2 HNE
      have HO1 : Hid (wr.ownsRow w.heap.size 67 3 (.slice oa1 J.length cap1) J.length (J.flatMap encHa)) := Lib.hid hr1
      have HO2 : Hid (wr.ownsRow w.heap.size 67 3 (.slice oa2 J2.length cap2) J2.length (J2.flatMap encHa)) := Lib.hid hr2
      have HX := Lib.hid hx
      clear hr1 hr2 hx
      by_cases hg : m < t
      · have HG2 : Hid ((L.take (k + 1)).filter (goneB ls t) = J ++ [⟨(c : Int), xn, xi⟩] ∧ (L.take (k + 1)).filter (fun a => !goneB ls t a) = J2) := Lib.hid (by
          have hgt : goneB ls t ⟨(c : Int), xn, xi⟩ = true := by rw [hgb]; exact decide_eq_true hg
          refine ⟨by rw [HF.out, if_pos hgt], by rw [HF'.out, hgt]; simp⟩)
        clear hgb hfx
        go_wp2_with fail
        go_region
        go_wp2_with (at_builtin; go_loud (refine wpList_append_newG rfl _ _ 45 rfl w.heap.size 67 i0 (.agg #[.int .i64 0, .int .i64 0, .int .i64 0]) 3 24 Try.underlying45 hi hz0 hz1 hz2 rfl (by decide) _ _ _ (by rfl) HO1.out _ 1 1 (by rfl) rfl (ha_one ⟨(c : Int), xn, xi⟩) (by unfold maxLen; omega) (by omega) hsz (by simp) ?_; intro oa6 cap6 w6 hown6 hbel6 hg6 hw6; have HS6 := Lib.hid hown6; have HB6 := Lib.hid hbel6; have HG6 := Lib.hid hg6; have HW6 := Lib.hid hw6; clear hown6 hbel6 hg6 hw6))
        have hlt2 := World.ownsRow.lt HO2.out
        refine ⟨⟨k + 1, by omega, by simp, by rw [HG2.out.1]; exact RowK.snoc (enc := encHa) (l := J) (⟨(c : Int), xn, xi⟩ : Ha) rfl rfl HS6.out, by rw [HG2.out.2]; exact RowK.other (l := J2) (enc := encHa) HO2.out HG6.out (fun g e1 e2 => HNE.out g e2 e1), fun g e1 e2 => ?_, HB.out.trans HB6.out⟩, by simp [intOf]; omega⟩
        have := hlt2 g e2
        rcases HW6.out with e3 | e3
        · rw [e3] at e1; exact HNE.out g e1 e2
        · rw [e3] at e1
          injection e1 with e1
          omega
      · have HG2 : Hid ((L.take (k + 1)).filter (goneB ls t) = J ∧ (L.take (k + 1)).filter (fun a => !goneB ls t a) = J2 ++ [⟨(c : Int), xn, xi⟩]) := Lib.hid (by
          have hgt : goneB ls t ⟨(c : Int), xn, xi⟩ = false := by rw [hgb]; exact decide_eq_false hg
          refine ⟨by rw [HF.out, hgt]; simp, by rw [HF'.out, hgt]; simp⟩)
        clear hgb hfx
        go_wp2_with fail
        go_region
        go_wp2_with (at_builtin; go_loud (refine wpList_append_newG rfl _ _ 45 rfl w.heap.size 67 i0 (.agg #[.int .i64 0, .int .i64 0, .int .i64 0]) 3 24 Try.underlying45 hi hz0 hz1 hz2 rfl (by decide) _ _ _ (by rfl) HO2.out _ 1 1 (by rfl) rfl (ha_one ⟨(c : Int), xn, xi⟩) (by unfold maxLen; omega) (by omega) hsz (by simp) ?_; intro oa6 cap6 w6 hown6 hbel6 hg6 hw6; have HS6 := Lib.hid hown6; have HB6 := Lib.hid hbel6; have HG6 := Lib.hid hg6; have HW6 := Lib.hid hw6; clear hown6 hbel6 hg6 hw6))
        have hlt2 := World.ownsRow.lt HO1.out
        refine ⟨⟨k + 1, by omega, by simp, by rw [HG2.out.1]; exact RowK.other (l := J) (enc := encHa) HO1.out HG6.out (fun g e1 e2 => HNE.out g e1 e2), by rw [HG2.out.2]; exact RowK.snoc (enc := encHa) (l := J2) (⟨(c : Int), xn, xi⟩ : Ha) rfl rfl HS6.out, fun g e1 e2 => ?_, HB.out.trans HB6.out⟩, by simp [intOf]; omega⟩
        have := hlt2 g e1
        rcases HW6.out with e3 | e3
        · rw [e3] at e2; exact HNE.out g e1 e2
        · rw [e3] at e2
          injection e2 with e2
          omega
    · obtain rfl : k = L.length := by omega
      rw [List.take_length] at hr1 hr2
      obtain ⟨oa1, cap1, rfl, hcc1, _, _⟩ := hr1.form
      obtain ⟨oa2, cap2, rfl, hcc2, _, _⟩ := hr2.form
      have HR1 := Lib.hid hr1
      have HR2 := Lib.hid hr2
      clear hr1 hr2
      go_wp2_with fail
      go_ret
      obtain ⟨r1, r2⟩ := HV.out.put HB.out HR2.out hBw (HV.out.good.filter _)
      refine ⟨_, rfl, ((Only.refl qb wr).setCell 0 _).keepRow HR1.out (fun e => ?_), r1, r2⟩
      have := World.ownsRow.lt HR1.out qb e
      omega
theorem ha_beq (a b : Ha) (h : a = b) : (a.c == b.c) = true ∧ (a.n == b.n) = true ∧ (a.i == b.i) = true := by subst h; simp
set_option maxHeartbeats 800000 in
theorem same_any (B : Nat) (oa ob : Option Addr) (ca cb : Nat) (L : List Ha) (hlen : L.length ≤ 100000) (w : World) (hBw : B ≤ w.heap.size) (ha : KAt encHa 3 B oa L w) (hb : KAt encHa 3 B ob L w) :
    Calls Try.prog 20 #[.slice oa L.length ca, .slice ob L.length cb] w fun e w' => e = .returned (.bool true) ∧ Below w.heap.size w w' := by
  have HA := Lib.hid ha
  have HB := Lib.hid hb
  have HBW := Lib.hid hBw
  clear ha hb hBw
  go_enter Try.func20, Try.ntmps20
  go_wp2_with fail
  go_loopw [5] (fun i wr => ∃ k : Nat, k ≤ L.length ∧ i = .int .i64 (k : Int) ∧ Below w.heap.size w wr) (fun i _ => ((L.length : Int) - intOf i).toNat)
  case atStart => exact ⟨0, by omega, rfl, Below.refl _ _⟩
  case round =>
    obtain ⟨k, hk, rfl, hbel⟩ := hrel
    have HBEL := Lib.hid hbel
    clear hbel
    by_cases hlt : k < L.length
    · obtain ⟨x, hx⟩ : ∃ x, L[k]? = some x := ⟨_, List.getElem?_eq_getElem hlt⟩
      obtain ⟨a, rfl, hab, c0, c1, c2⟩ := ha_at (HA.out.below (HBEL.out.mono HBW.out)) hx
      obtain ⟨b, rfl, hbb, d0, d1, d2⟩ := ha_at (HB.out.below (HBEL.out.mono HBW.out)) hx
      clear hx
      go_wp2_with fail
      go_quiet (fail)
      go_wp2_with fail
      exact ⟨⟨k + 1, by omega, by simp, below_drewN HBEL.out _⟩, by simp [intOf]; omega⟩
    · obtain rfl : k = L.length := by omega
      go_wp2_with fail
      go_ret
      exact ⟨rfl, HBEL.out⟩
set_option maxHeartbeats 800000 in
theorem own_any (B : Nat) (oa : Option Addr) (ca : Nat) (L : List Ha) (hlen : L.length ≤ 100000) (w : World) (hBw : B ≤ w.heap.size) (ha : KAt encHa 3 B oa L w) :
    Calls Try.prog 21 #[.slice oa L.length ca] w fun e w' => ∃ v, e = .returned v ∧ RowK 67 encHa 3 w.heap.size w' v L ∧ Below w.heap.size w w' := by
  obtain ⟨i0, hi, hz0, hz1, hz2⟩ := info_parts rh_info
  have HA := Lib.hid ha
  have HBW := Lib.hid hBw
  clear ha hBw
  go_enter Try.func21, Try.ntmps21
  go_wp2_with fail
  go_loopw [3, 4] (fun v i wr => ∃ k : Nat, k ≤ L.length ∧ i = .int .i64 (k : Int) ∧ RowK 67 encHa 3 w.heap.size wr v (L.take k) ∧ Below w.heap.size w wr) (fun _ i _ => ((L.length : Int) - intOf i).toNat)
  case atStart => exact ⟨0, by omega, rfl, RowK.nil _ _, Below.refl _ _⟩
  case round =>
    obtain ⟨k, hk, rfl, hrow, hbel⟩ := hrel
    have HBEL := Lib.hid hbel
    have hsz := hbel.size
    clear hbel
    by_cases hlt : k < L.length
    · obtain ⟨x, hx⟩ : ∃ x, L[k]? = some x := ⟨_, List.getElem?_eq_getElem hlt⟩
      obtain ⟨a, rfl, hab, c0, c1, c2⟩ := ha_at (HA.out.below (HBEL.out.mono HBW.out)) hx
      have HT := Lib.hid (take_snoc hx)
      have hlj : (L.take k).length ≤ k := List.length_take_le _ _
      obtain ⟨oa2, cap2, rfl, hcc, _, _⟩ := hrow.form
      generalize L.take k = J at hrow HT hlj hcc
      have HOWN : Hid (wr.ownsRow w.heap.size 67 3 (.slice oa2 J.length cap2) J.length (J.flatMap encHa)) := Lib.hid hrow
      obtain ⟨xc, xn, xi⟩ := x
      simp only at c0 c1 c2
      have HX := Lib.hid hx
      clear hrow hx
      go_wp2_with fail
      go_region_law ((refine step_append_newD rfl _ _ 45 rfl w.heap.size 67 i0 (.agg #[.int .i64 0, .int .i64 0, .int .i64 0]) 3 24 Try.underlying45 hi hz0 hz1 hz2 rfl (by decide) _ _ _ (by rfl) HOWN.out _ 1 1 (by rfl) rfl (ha_one ⟨xc, xn, xi⟩) (by unfold maxLen; omega) (by omega) hsz (by simp) ?_; intro oa6 cap6 w6 hown6 hbel6; have HS6 := Lib.hid hown6; have HB6 := Lib.hid hbel6; clear hown6 hbel6))
      all_goals go_wp2_with fail
      all_goals exact ⟨⟨k + 1, by omega, by simp, by rw [HT.out]; exact RowK.snoc (enc := encHa) (l := J) (⟨xc, xn, xi⟩ : Ha) rfl rfl HS6.out, HBEL.out.trans HB6.out⟩, by simp [intOf]; omega⟩
    · obtain rfl : k = L.length := by omega
      rw [List.take_length] at hrow
      have HR := Lib.hid hrow
      clear hrow
      go_wp2_with fail
      go_ret
      exact ⟨_, rfl, HR.out, HBEL.out⟩
end Go.Proofs.Ytjfdbcmmmoipcaa.HanW
