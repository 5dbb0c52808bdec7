/- Names: Drop, Add. -/
import Derived.Test.YtffigodlfmnbpaaDirSt
namespace Go.Proofs.Ytffigodlfmnbpaa.DirW
open Go.RowKit DirP
open PathW (nameB)
def dropE (L : List En) (d : Int) (s : ByteArray) : Int := if (lk L (d, s)).isSome then 0 else 60
theorem DGood.filter {L : List En} (h : DGood L) (p : En → Bool) : DGood (L.filter p) where
  rises := Sl.rises_filter h.rises p
  fits a ha := h.fits a (List.mem_filter.1 ha).1
  few d := by
    refine Nat.le_trans ?_ (h.few d)
    unfold cnt
    exact (List.filter_sublist).countP_le
theorem co_set {g : Int → Option Int} {L L' : List En} {d : Int} {v : Int} (h : ∀ d, (g d).getD 0 = cnt L d) (hv : v = cnt L' d) (ho : ∀ x, x ≠ d → cnt L' x = cnt L x) : ∀ x, ((fun z => if z = d then some v else g z) x).getD 0 = cnt L' x := by
  intro x
  show (if x = d then some v else g x).getD 0 = _
  by_cases e : x = d
  · subst e; rw [if_pos rfl]; exact hv
  · rw [if_neg e, h, ho x e]
set_option maxHeartbeats 800000 in
theorem drop_any (nb b c : Nat) (L : List En) (d : Int) (s : ByteArray) (hok : deOk (d, s)) (w : World) (h : DIs w nb b c L) :
    Calls Try.prog 11 #[.pointer (some ⟨nb, 0, none⟩), .int .i64 d, .string s] w fun e w' => e = .returned (.int .i64 (dropE L d s)) ∧ DIs w' nb b c (del L (d, s)) ∧ Only2 b c w w' ∧ w'.heap.size = w.heap.size := by
  have HH := Lib.hid h
  obtain ⟨N, hm⟩ := h.map
  obtain ⟨N2, g, hc, hg⟩ := h.cnts
  have HM := Lib.hid hm
  have HC := Lib.hid hc
  have HG := Lib.hid hg
  have HK := Lib.hid hok
  have HKI : Hid (inOk d) := Lib.hid hok.1
  obtain ⟨h0, h1⟩ := h.m0
  have hne := Lib.hid h.ne
  have hbc := Lib.hid h.bc
  clear h hm hok hc hg
  cases hl : lk L (d, s) with
  | none =>
    have HE : Hid (fiI L d s = 0 ∧ fiB L d s = false) := Lib.hid (by unfold fiI fiB; rw [hl]; exact ⟨rfl, rfl⟩)
    have HE2 : Hid (dropE L d s = 60) := Lib.hid (by unfold dropE; rw [hl]; rfl)
    have HD := Lib.hid (del_none hl)
    clear hl
    go_enter Try.func11, Try.ntmps11
    go_wp2_with (go_at_call 12; refine (find_any _ _ _ _ _ _ HK.out _ HH.out).mono ?_; rintro e w2 ⟨rfl, rfl⟩; rw [HE.out.1, HE.out.2])
    go_ret
    exact ⟨ret_int HE2.out.symm, by rw [HD.out]; exact HH.out, Only2.refl _ _ _, rfl⟩
  | some i =>
    have HE : Hid (fiI L d s = i ∧ fiB L d s = true) := Lib.hid (by unfold fiI fiB; rw [hl]; exact ⟨rfl, rfl⟩)
    have HE2 : Hid (dropE L d s = 0) := Lib.hid (by unfold dropE; rw [hl]; rfl)
    have hcd := cnt_del HH.out.good.rises hl
    have hcl : 1 ≤ cnt L d := by have := hcd d; rw [if_pos rfl] at this; omega
    have hcl2 := HH.out.good.few d
    have HCD : Hid (cnt (del L (d, s)) d = cnt L d - 1 ∧ ∀ x, x ≠ d → cnt (del L (d, s)) x = cnt L x) := Lib.hid ⟨by have := hcd d; rw [if_pos rfl] at this; omega, fun x hx => by have := hcd x; rw [if_neg (Ne.symm hx)] at this; omega⟩
    have HCO := Lib.hid (co_get HG.out d)
    have hw1 : IntKind.i64.wrap (((cnt L d : Nat) : Int) - 1) = ((cnt L d : Nat) : Int) - 1 := IntWalk.i64_in _ (by omega)
    have HCL := Lib.hid hcl
    clear hl hcd hcl hcl2
    go_enter Try.func11, Try.ntmps11
    go_wp2_with (first
      | (go_at_call 12; refine (find_any _ _ _ _ _ _ HK.out _ HH.out).mono ?_; rintro e w2 ⟨rfl, rfl⟩; rw [HE.out.1, HE.out.2])
      | (at_delete; go_loud (refine wpList_map_delete _ rfl _ _ 55 3 rfl deMK Try.underlying55 b N _ HM.out (by rfl) (d, s) HK.out (by rfl) ?_; intro w5 hm5 ho5 hs5; have HM5 := Lib.hid hm5; have HO5 := Lib.hid ho5; have HS5 := Lib.hid hs5; have HC5 : Hid (CoIs w5 c N2 g) := Lib.hid (MapIs.only HC.out ho5 (fun e => hbc.out e.symm)); have hhd := Only.heap ho5 HH.out.head hne.out.1; clear h0 h1; obtain ⟨h0, _⟩ := new_cells hhd 0 (by simp); obtain ⟨h1, _⟩ := new_cells hhd 1 (by simp); simp only [List.getElem_toArray, List.getElem_cons_zero, List.getElem_cons_succ] at h0 h1; have HHD := Lib.hid hhd; clear hm5 ho5 hs5 hhd))
      | (at_lookup; go_loud (refine wpList_map_look _ rfl _ _ 56 3 false rfl inMK Try.underlying56 _ (inZero _) c N2 _ HC5.out (by rfl) d HKI.out (by rfl) ?_; simp only [Bool.false_eq_true, if_false]; rw [HCO.out]))
      | (at_mapUpdate; go_loud (refine wpList_map_store _ rfl _ _ _ 56 3 rfl inMK Try.underlying56 c N2 _ HC5.out (by rfl) d (((cnt L d : Nat) : Int) - 1) HKI.out (by rfl) (by rfl) ?_; intro w6 hm6 ho6 hs6; have HM6 := Lib.hid hm6; have HO6 := Lib.hid ho6; have HS6 := Lib.hid hs6; clear hm6 ho6 hs6)))
    go_ret
    refine ⟨ret_int HE2.out.symm, ⟨?_, ⟨N, MapIs.congr (MapIs.only HM5.out HO6.out hbc.out) (lk_del HH.out.good.rises (d, s)).symm⟩, ⟨N2 + 1, _, HM6.out, co_set HG.out (by have := HCL.out; rw [HCD.out.1]; omega) HCD.out.2⟩, HH.out.good.filter _, hbc.out⟩, (Only2.left HO5.out).trans (Only2.right HO6.out), HS6.out.trans HS5.out⟩
    exact Only.heap HO6.out HHD.out hne.out.2

def rngB (d i : Int) : Bool := decide ((1 ≤ d ∧ d ≤ 2147483647) ∧ 1 ≤ i ∧ i ≤ 2147483647)
def addE (L : List En) (d : Int) (s : ByteArray) (i : Int) : Int := if nameB s.data.toList = true then if rngB d i = true then if (lk L (d, s)).isSome then 61 else if 64 ≤ cnt L d then 67 else 0 else 1 else 11
def addL (L : List En) (d : Int) (s : ByteArray) (i : Int) : List En := if addE L d s i = 0 then ins L ⟨d, s, i⟩ else L
theorem DGood.ins {L : List En} (h : DGood L) {d i : Int} {s : ByteArray} (hn : nameB s.data.toList = true) (hr : rngB d i = true) (hl : lk L (d, s) = none) (hc : cnt L d < 64) : DGood (ins L ⟨d, s, i⟩) where
  rises := Sl.rises_ins dLin h.rises ((lk_none L _).1 hl)
  fits a ha := by
    have hb := of_decide_eq_true hr
    rcases (Sl.mem_ins (key := En.key) (kl := kl) L _ a).1 ha with rfl | ha
    · exact ⟨hn, hb.1.1, hb.1.2, hb.2.1, hb.2.2⟩
    · exact h.fits a ha
  few x := by
    rw [cnt_ins]
    have := h.few x
    by_cases e : d = x
    · subst e; simp; omega
    · simp [e]; exact this
set_option maxHeartbeats 1600000 in
theorem add_any (nb b c : Nat) (L : List En) (d : Int) (s : ByteArray) (i : Int) (hs : s.size ≤ 9223372036854775807) (hok : deOk (d, s)) (w : World) (h : DIs w nb b c L) :
    Calls Try.prog 10 #[.pointer (some ⟨nb, 0, none⟩), .int .i64 d, .string s, .int .i64 i] w fun e w' => e = .returned (.int .i64 (addE L d s i)) ∧ DIs w' nb b c (addL L d s i) ∧ Only2 b c w w' ∧ w'.heap.size = w.heap.size := by
  have HH := Lib.hid h
  obtain ⟨N, hm⟩ := h.map
  obtain ⟨N2, g, hc, hg⟩ := h.cnts
  have HM := Lib.hid hm
  have HC := Lib.hid hc
  have HG := Lib.hid hg
  have HK := Lib.hid hok
  have HKI : Hid (inOk d) := Lib.hid hok.1
  obtain ⟨h0, h1⟩ := h.m0
  have hne := Lib.hid h.ne
  have hbc := Lib.hid h.bc
  have HCO := Lib.hid (co_get hg d)
  have HS := Lib.hid hs
  clear h hm hok hc hg hs
  cases hn : nameB s.data.toList with
  | false =>
    have HN := Lib.hid hn
    have HE2 : Hid (addE L d s i = 11) := Lib.hid (by unfold addE; rw [hn]; rfl)
    clear hn
    go_enter Try.func10, Try.ntmps10
    go_wp2_with (first
      | (go_at_call 12; refine (find_any _ _ _ _ _ _ HK.out _ HH.out).mono ?_; rintro e w2 ⟨rfl, rfl⟩)
      | (go_at_call 25; refine (PathW.name_any _ HS.out _).mono ?_; rintro e w2 ⟨rfl, rfl⟩; rw [HN.out]))
    go_ret
    exact ⟨ret_int HE2.out.symm, by unfold addL; rw [HE2.out]; exact HH.out, Only2.refl _ _ _, rfl⟩
  | true =>
    have HN := Lib.hid hn
    by_cases hr : rngB d i = true
    · obtain ⟨⟨r1, r2⟩, r3, r4⟩ := of_decide_eq_true hr
      have HR := Lib.hid hr
      cases hl : lk L (d, s) with
      | some j =>
        have HE : Hid (fiI L d s = j ∧ fiB L d s = true) := Lib.hid (by unfold fiI fiB; rw [hl]; exact ⟨rfl, rfl⟩)
        have HE2 : Hid (addE L d s i = 61) := Lib.hid (by unfold addE; rw [if_pos hn, if_pos hr, hl]; rfl)
        clear hn hl hr
        go_enter Try.func10, Try.ntmps10
        go_wp2_with (first
          | (go_at_call 12; refine (find_any _ _ _ _ _ _ HK.out _ HH.out).mono ?_; rintro e w2 ⟨rfl, rfl⟩; rw [HE.out.1, HE.out.2])
          | (go_at_call 25; refine (PathW.name_any _ HS.out _).mono ?_; rintro e w2 ⟨rfl, rfl⟩; rw [HN.out]))
        go_ret
        exact ⟨ret_int HE2.out.symm, by unfold addL; rw [HE2.out]; exact HH.out, Only2.refl _ _ _, rfl⟩
      | none =>
        have HE : Hid (fiI L d s = 0 ∧ fiB L d s = false) := Lib.hid (by unfold fiI fiB; rw [hl]; exact ⟨rfl, rfl⟩)
        have HLK := Lib.hid hl
        by_cases hct : 64 ≤ cnt L d
        · have HE2 : Hid (addE L d s i = 67) := Lib.hid (by unfold addE; rw [if_pos hn, if_pos hr, hl, if_neg (by simp), if_pos hct])
          have hci : (64 : Int) ≤ (cnt L d : Nat) := by omega
          clear hn hl hr hct
          go_enter Try.func10, Try.ntmps10
          go_wp2_with (first
            | (go_at_call 12; refine (find_any _ _ _ _ _ _ HK.out _ HH.out).mono ?_; rintro e w2 ⟨rfl, rfl⟩; rw [HE.out.1, HE.out.2])
            | (go_at_call 25; refine (PathW.name_any _ HS.out _).mono ?_; rintro e w2 ⟨rfl, rfl⟩; rw [HN.out])
            | (at_lookup; go_loud (refine wpList_map_look _ rfl _ _ 56 3 false rfl inMK Try.underlying56 _ (inZero _) c N2 _ HC.out (by rfl) d HKI.out (by rfl) ?_; simp only [Bool.false_eq_true, if_false]; rw [HCO.out])))
          go_ret
          exact ⟨ret_int HE2.out.symm, by unfold addL; rw [HE2.out]; exact HH.out, Only2.refl _ _ _, rfl⟩
        · have HE2 : Hid (addE L d s i = 0) := Lib.hid (by unfold addE; rw [if_pos hn, if_pos hr, hl, if_neg (by simp), if_neg hct])
          have HGI := Lib.hid (HH.out.good.ins hn hr hl (by omega))
          have HLL : Hid (addL L d s i = ins L ⟨d, s, i⟩) := Lib.hid (by unfold addL; rw [if_pos HE2.out])
          have hci : ((cnt L d : Nat) : Int) < 64 := by omega
          have HCI : Hid (cnt (ins L ⟨d, s, i⟩) d = cnt L d + 1 ∧ ∀ x, x ≠ d → cnt (ins L ⟨d, s, i⟩) x = cnt L x) := Lib.hid ⟨by rw [cnt_ins]; simp, fun x hx => by rw [cnt_ins]; simp [Ne.symm hx]⟩
          clear hn hl hr hct
          go_enter Try.func10, Try.ntmps10
          go_wp2_with (first
            | (go_at_call 12; refine (find_any _ _ _ _ _ _ HK.out _ HH.out).mono ?_; rintro e w2 ⟨rfl, rfl⟩; rw [HE.out.1, HE.out.2])
            | (go_at_call 25; refine (PathW.name_any _ HS.out _).mono ?_; rintro e w2 ⟨rfl, rfl⟩; rw [HN.out])
            | (at_lookup; (have hz := HC5.out); go_loud (refine wpList_map_look _ rfl _ _ 56 3 false rfl inMK Try.underlying56 _ (inZero _) c N2 _ hz (by rfl) d HKI.out (by rfl) ?_; clear hz; simp only [Bool.false_eq_true, if_false]; rw [HCO.out]))
            | (at_lookup; go_loud (refine wpList_map_look _ rfl _ _ 56 3 false rfl inMK Try.underlying56 _ (inZero _) c N2 _ HC.out (by rfl) d HKI.out (by rfl) ?_; simp only [Bool.false_eq_true, if_false]; rw [HCO.out]))
            | (at_mapUpdate; (have hz := HC5.out); go_loud (refine wpList_map_store _ rfl _ _ _ 56 3 rfl inMK Try.underlying56 c N2 _ hz (by rfl) d (((cnt L d : Nat) : Int) + 1) HKI.out (by rfl) (by rfl) ?_; clear hz; intro w6 hm6 ho6 hs6; have HM6 := Lib.hid hm6; have HO6 := Lib.hid ho6; have HS6 := Lib.hid hs6; clear hm6 ho6 hs6))
            | (at_mapUpdate; go_loud (refine wpList_map_store _ rfl _ _ _ 55 3 rfl deMK Try.underlying55 b N _ HM.out (by rfl) (d, s) i HK.out (by rfl) (by rfl) ?_; intro w5 hm5 ho5 hs5; have HM5 := Lib.hid hm5; have HO5 := Lib.hid ho5; have HS5 := Lib.hid hs5; have HC5 : Hid (CoIs w5 c N2 g) := Lib.hid (MapIs.only HC.out ho5 (fun e => hbc.out e.symm)); have hhd := Only.heap ho5 HH.out.head hne.out.1; clear h0 h1; obtain ⟨h0, _⟩ := new_cells hhd 0 (by simp); obtain ⟨h1, _⟩ := new_cells hhd 1 (by simp); simp only [List.getElem_toArray, List.getElem_cons_zero, List.getElem_cons_succ] at h0 h1; have HHD := Lib.hid hhd; clear hm5 ho5 hs5 hhd)))
          go_ret
          refine ⟨ret_int HE2.out.symm, ?_, (Only2.left HO5.out).trans (Only2.right HO6.out), HS6.out.trans HS5.out⟩
          rw [HLL.out]
          exact ⟨Only.heap HO6.out HHD.out hne.out.2, ⟨N + 1, MapIs.congr (MapIs.only HM5.out HO6.out hbc.out) (lk_ins HH.out.good.rises (a := ⟨d, s, i⟩) HLK.out).symm⟩, ⟨N2 + 1, _, HM6.out, co_set HG.out (by rw [HCI.out.1]; simp) HCI.out.2⟩, HGI.out, hbc.out⟩
    · have HE2 : Hid (addE L d s i = 1) := Lib.hid (by unfold addE; rw [if_pos hn, if_neg hr])
      have hcs : (d < 1) ∨ (1 ≤ d ∧ 2147483647 < d) ∨ ((1 ≤ d ∧ d ≤ 2147483647) ∧ i < 1) ∨ ((1 ≤ d ∧ d ≤ 2147483647) ∧ 1 ≤ i ∧ 2147483647 < i) := by
        have hm' : ¬ ((1 ≤ d ∧ d ≤ 2147483647) ∧ 1 ≤ i ∧ i ≤ 2147483647) := fun h => hr (decide_eq_true h)
        omega
      clear hn hr
      rcases hcs with q1 | ⟨q1, q2⟩ | ⟨⟨q1, q2⟩, q3⟩ | ⟨⟨q1, q2⟩, q3, q4⟩
      all_goals
        go_enter Try.func10, Try.ntmps10
        go_wp2_with (first
          | (go_at_call 12; refine (find_any _ _ _ _ _ _ HK.out _ HH.out).mono ?_; rintro e w2 ⟨rfl, rfl⟩)
          | (go_at_call 25; refine (PathW.name_any _ HS.out _).mono ?_; rintro e w2 ⟨rfl, rfl⟩; rw [HN.out]))
        go_ret
        exact ⟨ret_int HE2.out.symm, by unfold addL; rw [HE2.out]; exact HH.out, Only2.refl _ _ _, rfl⟩
end Go.Proofs.Ytffigodlfmnbpaa.DirW
