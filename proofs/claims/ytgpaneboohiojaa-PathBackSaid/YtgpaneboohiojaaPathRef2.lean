/- The reference's Good, Up, Inside. -/
import Derived.Test.YtgpaneboohiojaaPathSplit
namespace Go.Proofs.Ytgpaneboohiojaa.PathW
open Go.RowKit
theorem splitE_ok (p : List UInt8) : (splitE p == 0) = (namesR p).isSome := by
  unfold splitE
  cases h : (namesR p).isSome <;> simp
theorem rsplit_none (p : ByteArray) (hs : p.size ≤ 1000000) (h : namesR p.data.toList = none) (w : World) :
    Calls Try.prog 15 #[.string p] w fun e w' => ∃ v, e = .returned (.tuple #[v, .int .i64 11]) ∧ Strs w.heap.size w' v [] ∧ Below w.heap.size w w' := by
  have := rsplit_any p hs w
  rwa [h, splitE, h] at this
theorem rsplit_some (p : ByteArray) (hs : p.size ≤ 1000000) (l : List (List UInt8)) (h : namesR p.data.toList = some l) (w : World) :
    Calls Try.prog 15 #[.string p] w fun e w' => ∃ v, e = .returned (.tuple #[v, .int .i64 0]) ∧ Strs w.heap.size w' v l ∧ Below w.heap.size w w' := by
  have := rsplit_any p hs w
  rwa [h, splitE, h] at this
set_option maxHeartbeats 400000 in
theorem rgood_any (p : ByteArray) (hs : p.size ≤ 1000000) (w : World) :
    Calls Try.prog 20 #[.string p] w fun e w' => e = .returned (.bool (namesR p.data.toList).isSome) ∧ Below w.heap.size w w' := by
  cases hN : namesR p.data.toList with
  | none =>
    have HS := Lib.hid (rsplit_none p hs hN)
    clear hN
    go_enter Try.func20, Try.ntmps20
    go_wp2_with (go_at_call 15; refine (HS.out _).mono ?_; rintro e w1 ⟨v, rfl, hs1, hb1⟩; have HB1 := Lib.hid hb1; clear hs1 hb1)
    go_ret
    exact ⟨rfl, HB1.out⟩
  | some l =>
    have HS := Lib.hid (rsplit_some p hs l hN)
    clear hN
    go_enter Try.func20, Try.ntmps20
    go_wp2_with (go_at_call 15; refine (HS.out _).mono ?_; rintro e w1 ⟨v, rfl, hs1, hb1⟩; have HB1 := Lib.hid hb1; clear hs1 hb1)
    go_ret
    exact ⟨rfl, HB1.out⟩
theorem below_new {w w1 : World} {o : Obj} (hb : Below (w.alloc o).heap.size (w.alloc o) w1) : Below w.heap.size w w1 := bstep (below_alloc w o) hb
theorem set3 {w w1 : World} {x y z : Value} (h : Below w.heap.size w w1) : Below w.heap.size w (((w1.setCell ⟨w.heap.size, 0, none⟩ x).setCell ⟨w.heap.size, 1, none⟩ y).setCell ⟨w.heap.size, 2, none⟩ z) :=
  ((h.setCell (p := ⟨w.heap.size, 0, none⟩) (Nat.le_refl _) _).setCell (p := ⟨w.heap.size, 1, none⟩) (Nat.le_refl _) _).setCell (p := ⟨w.heap.size, 2, none⟩) (Nat.le_refl _) _
theorem res3 {w1 : World} {b : Nat} {x0 y0 z0 : Value} (h0 : w1.cell? ⟨b, 0, none⟩ = some x0) (h1 : w1.cell? ⟨b, 1, none⟩ = some y0) (h2 : w1.cell? ⟨b, 2, none⟩ = some z0) (x y z : Value) :
    (((w1.setCell ⟨b, 0, none⟩ x).setCell ⟨b, 1, none⟩ y).setCell ⟨b, 2, none⟩ z).cell? ⟨b, 0, none⟩ = some x ∧ (((w1.setCell ⟨b, 0, none⟩ x).setCell ⟨b, 1, none⟩ y).setCell ⟨b, 2, none⟩ z).cell? ⟨b, 1, none⟩ = some y ∧ (((w1.setCell ⟨b, 0, none⟩ x).setCell ⟨b, 1, none⟩ y).setCell ⟨b, 2, none⟩ z).cell? ⟨b, 2, none⟩ = some z := by
  have e01 : (⟨b, 0, none⟩ : Addr) ≠ ⟨b, 1, none⟩ := by simp
  have e02 : (⟨b, 0, none⟩ : Addr) ≠ ⟨b, 2, none⟩ := by simp
  have e12 : (⟨b, 1, none⟩ : Addr) ≠ ⟨b, 2, none⟩ := by simp
  refine ⟨?_, ?_, ?_⟩
  · rw [World.cell?_setCell_other _ _ _ _ e02.symm, World.cell?_setCell_other _ _ _ _ e01.symm, World.cell?_setCell_same _ _ _ h0]
  · rw [World.cell?_setCell_other _ _ _ _ e12.symm, World.cell?_setCell_same _ _ _ (by rw [World.cell?_setCell_other _ _ _ _ e01]; exact h1)]
  · rw [World.cell?_setCell_same _ _ _ (by rw [World.cell?_setCell_other _ _ _ _ e12, World.cell?_setCell_other _ _ _ _ e02]; exact h2)]
def rupV (p : List UInt8) : Value := .agg #[.string ⟨(upR p).1.toArray⟩, .string ⟨(upR p).2.1.toArray⟩, .bool (upR p).2.2]
set_option maxHeartbeats 800000 in
theorem rup_any (p : ByteArray) (hs : p.size ≤ 1000000) (w : World) :
    Calls Try.prog 17 #[.string p] w fun e w' => e = .returned (rupV p.data.toList) ∧ Below w.heap.size w w' := by
  cases hN : namesR p.data.toList with
  | none =>
    have HU : Hid (rupV p.data.toList = .agg #[.string ⟨#[]⟩, .string ⟨#[]⟩, .bool false]) := Lib.hid (by rw [rupV, upR, hN])
    have HN := Lib.hid (rsplit_none p hs hN)
    clear hN
    go_enter Try.func17, Try.ntmps17
    go_wp2_with (go_at_call 15; refine (HN.out _).mono ?_; rintro e w1 ⟨v, rfl, hs1, hb1⟩; have HB1 := Lib.hid (below_new hb1); obtain ⟨c0, c1, c2, f0, f1, f2⟩ := new_cells3 (new_kept hb1); clear hs1 hb1)
    have hd := res3 c0 c1 c2 (.string ⟨#[]⟩) (.string ⟨#[]⟩) (.bool false)
    have hB3 := set3 (x := .string ⟨#[]⟩) (y := .string ⟨#[]⟩) (z := .bool false) HB1.out
    generalize ((w1.setCell ⟨w.heap.size, 0, none⟩ (.string ⟨#[]⟩)).setCell ⟨w.heap.size, 1, none⟩ (.string ⟨#[]⟩)).setCell ⟨w.heap.size, 2, none⟩ (.bool false) = W3 at *
    exact bodyPost_ret (v := .agg #[.string ⟨#[]⟩, .string ⟨#[]⟩, .bool false]) (by simp [results, Try.results17, go_sem, hd.1, hd.2.1, hd.2.2]) rfl ⟨by rw [HU.out], hB3⟩
  | some l =>
    have HN := Lib.hid (rsplit_some p hs l hN)
    obtain ⟨_, h8, ha⟩ := join_names _ l hN
    have hz := names_short p.data.toList
    rw [hN] at hz
    have HZ : Hid (∀ x ∈ l, x.length ≤ 9223372036854775807) := Lib.hid hz
    by_cases h0 : l = []
    · have HU : Hid (rupV p.data.toList = .agg #[.string ⟨#[]⟩, .string ⟨#[]⟩, .bool false]) := Lib.hid (by rw [rupV, upR, hN]; simp [h0])
      subst h0
      clear hN hz
      go_enter Try.func17, Try.ntmps17
      go_wp2_with (go_at_call 15; refine (HN.out _).mono ?_; rintro e w1 ⟨v, rfl, hs1, hb1⟩; have HB1 := Lib.hid (below_new hb1); obtain ⟨c0, c1, c2, f0, f1, f2⟩ := new_cells3 (new_kept hb1); obtain ⟨oa, cap, rfl⟩ := hs1.form; clear hs1 hb1)
      have hd := res3 c0 c1 c2 (.string ⟨#[]⟩) (.string ⟨#[]⟩) (.bool false)
      have hB3 := set3 (x := .string ⟨#[]⟩) (y := .string ⟨#[]⟩) (z := .bool false) HB1.out
      generalize ((w1.setCell ⟨w.heap.size, 0, none⟩ (.string ⟨#[]⟩)).setCell ⟨w.heap.size, 1, none⟩ (.string ⟨#[]⟩)).setCell ⟨w.heap.size, 2, none⟩ (.bool false) = W3 at *
      exact bodyPost_ret (v := .agg #[.string ⟨#[]⟩, .string ⟨#[]⟩, .bool false]) (by simp [results, Try.results17, go_sem, hd.1, hd.2.1, hd.2.2]) rfl ⟨by rw [HU.out], hB3⟩
    · have hpos : 1 ≤ l.length := List.length_pos_iff.2 h0
      obtain ⟨m, hm⟩ : ∃ m, l.length = m + 1 := ⟨l.length - 1, by omega⟩
      obtain ⟨x, hx⟩ : ∃ x, l[m]? = some x := ⟨_, List.getElem?_eq_getElem (show m < l.length by omega)⟩
      have HU : Hid (rupV p.data.toList = .agg #[.string ⟨(joinP (l.take m)).toArray⟩, .string ⟨x.toArray⟩, .bool true]) := Lib.hid (by
        rw [rupV, upR, hN]; simp only; rw [if_neg h0, hm, Nat.add_sub_cancel, List.getD_eq_getElem?_getD, hx]; rfl)
      have HXX : Hid (∀ h : m < l.length, l[m]'h = x) := Lib.hid fun h => by rw [List.getElem?_eq_getElem h] at hx; injection hx
      have HJ := Lib.hid (join_take l m h8 ha)
      have HTL : Hid ((l.take m).length = m) := Lib.hid (by rw [List.length_take]; omega)
      have HML : Hid (m < l.length) := Lib.hid (by omega)
      have hb0 : ((l.length : Int) == 0) = false := by rw [beq_eq_false_iff_ne]; omega
      have hm8 : (m : Int) ≤ 8 := by omega
      have HM := Lib.hid hm
      have hnn : l.length ≤ 8 := h8
      clear hN hz h0 hx ha hm
      go_enter Try.func17, Try.ntmps17
      go_wp2_with (first
        | (go_at_call 15; refine (HN.out _).mono ?_; rintro e w1 ⟨v, rfl, hs1, hb1⟩; have HB1 := Lib.hid (below_new hb1); obtain ⟨c0, c1, c2, f0, f1, f2⟩ := new_cells3 (new_kept hb1); obtain ⟨oa, cap, rfl⟩ := hs1.form; have hcap : (l.length : Int) ≤ (cap : Int) := (by have := hs1.cap.2; omega); have HR := Lib.hid (show Rds w1.heap.size w1 oa l from Rds.of_strs hs1); obtain ⟨a, rfl, hab, hc⟩ := HR.out m HML.out; have hidx : m = l.length - 1 := (by have := HM.out; omega); rw [HXX.out] at hc; rw [hidx] at hc; unfold strV at hc; clear hidx; clear hs1 hb1)
        | (go_at_call 9; refine (rjoin_is _ _ _ (l.take m) (by rw [HTL.out]; have := HM.out; omega) (by have := HTL.out; have := HM.out; omega) (fun y hy => HZ.out y (List.mem_of_mem_take hy)) _ _ HJ.out _ (HR.out.take m)).mono ?_; rintro e w2 ⟨rfl, rfl⟩))
      have hd := res3 c0 c1 c2 (.string ⟨(joinP (l.take m)).toArray⟩) (.string ⟨x.toArray⟩) (.bool true)
      have hB3 := set3 (x := .string ⟨(joinP (l.take m)).toArray⟩) (y := .string ⟨x.toArray⟩) (z := .bool true) HB1.out
      generalize ((w1.setCell ⟨w.heap.size, 0, none⟩ (.string ⟨(joinP (l.take m)).toArray⟩)).setCell ⟨w.heap.size, 1, none⟩ (.string ⟨x.toArray⟩)).setCell ⟨w.heap.size, 2, none⟩ (.bool true) = W3 at *
      exact bodyPost_ret (v := .agg #[.string ⟨(joinP (l.take m)).toArray⟩, .string ⟨x.toArray⟩, .bool true]) (by simp [results, Try.results17, go_sem, hd.1, hd.2.1, hd.2.2]) rfl ⟨by rw [HU.out], hB3⟩
set_option maxHeartbeats 1600000 in
theorem rinside_any (p q : ByteArray) (hp : p.size ≤ 1000000) (hq : q.size ≤ 1000000) (w : World) :
    Calls Try.prog 12 #[.string p, .string q] w fun e w' => e = .returned (.bool (insideR p.data.toList q.data.toList)) ∧ Below w.heap.size w w' := by
  cases hN1 : namesR p.data.toList with
  | none =>
    have HR : Hid (insideR p.data.toList q.data.toList = false) := Lib.hid (by rw [insideR, hN1])
    have H1 := Lib.hid (rsplit_none p hp hN1)
    cases hN2 : namesR q.data.toList with
    | none =>
      have H2 := Lib.hid (rsplit_none q hq hN2)
      clear hN1 hN2
      go_enter Try.func12, Try.ntmps12
      go_wp2_with fail
      refine (H1.out _).mono ?_
      rintro e w1 ⟨v, rfl, hs1, hb1⟩
      have HB1 := Lib.hid hb1
      clear hs1 hb1
      go_wp2_with fail
      refine (H2.out _).mono ?_
      rintro e w2 ⟨v2, rfl, hs2, hb2⟩
      have HB2 := Lib.hid (bstep HB1.out hb2)
      clear hs2 hb2
      go_wp2
      go_ret
      exact ⟨ret_bool HR.out.symm, HB2.out⟩
    | some b =>
      have H2 := Lib.hid (rsplit_some q hq b hN2)
      clear hN1 hN2
      go_enter Try.func12, Try.ntmps12
      go_wp2_with fail
      refine (H1.out _).mono ?_
      rintro e w1 ⟨v, rfl, hs1, hb1⟩
      have HB1 := Lib.hid hb1
      clear hs1 hb1
      go_wp2_with fail
      refine (H2.out _).mono ?_
      rintro e w2 ⟨v2, rfl, hs2, hb2⟩
      have HB2 := Lib.hid (bstep HB1.out hb2)
      clear hs2 hb2
      go_wp2
      go_ret
      exact ⟨ret_bool HR.out.symm, HB2.out⟩
  | some a =>
    have H1 := Lib.hid (rsplit_some p hp a hN1)
    cases hN2 : namesR q.data.toList with
    | none =>
      have HR : Hid (insideR p.data.toList q.data.toList = false) := Lib.hid (by rw [insideR, hN1, hN2])
      have H2 := Lib.hid (rsplit_none q hq hN2)
      clear hN1 hN2
      go_enter Try.func12, Try.ntmps12
      go_wp2_with fail
      refine (H1.out _).mono ?_
      rintro e w1 ⟨v, rfl, hs1, hb1⟩
      have HB1 := Lib.hid hb1
      clear hs1 hb1
      go_wp2_with fail
      refine (H2.out _).mono ?_
      rintro e w2 ⟨v2, rfl, hs2, hb2⟩
      have HB2 := Lib.hid (bstep HB1.out hb2)
      clear hs2 hb2
      go_wp2
      go_ret
      exact ⟨ret_bool HR.out.symm, HB2.out⟩
    | some b =>
      have H2 := Lib.hid (rsplit_some q hq b hN2)
      have ha8 := (join_names _ a hN1).2.1
      have hb8 := (join_names _ b hN2).2.1
      by_cases hle : b.length ≤ a.length
      · have HR : Hid (insideR p.data.toList q.data.toList = (a.take b.length == b)) := Lib.hid (by rw [insideR, hN1, hN2]; simp only; rw [decide_eq_true hle, Bool.true_and])
        clear hN1 hN2
        go_enter Try.func12, Try.ntmps12
        go_wp2_with fail
        refine (H1.out _).mono ?_
        rintro e w1 ⟨v, rfl, hs1, hb1⟩
        have HB1 := Lib.hid hb1
        obtain ⟨oa, ca, rfl⟩ := hs1.form
        have HA := Lib.hid (show Rds w1.heap.size w1 oa a from Rds.of_strs hs1)
        clear hs1 hb1
        go_wp2_with fail
        refine (H2.out _).mono ?_
        rintro e w2 ⟨v2, rfl, hs2, hb2⟩
        obtain ⟨ob, cb, rfl⟩ := hs2.form
        have HB := Lib.hid (show Rds w2.heap.size w2 ob b from Rds.of_strs hs2)
        have HA2 : Hid (Rds w2.heap.size w2 oa a) := Lib.hid fun i hi => by
          obtain ⟨x, e1, e2, e3⟩ := (HA.out.below hb2) i hi
          exact ⟨x, e1, Nat.lt_of_lt_of_le e2 hb2.size, e3⟩
        have HB2 := Lib.hid (bstep HB1.out hb2)
        clear hs2 hb2
        go_wp2_with fail
        go_loopw [9] (fun i wr => ∃ k : Nat, k ≤ b.length ∧ i = .int .i64 k ∧ a.take k = b.take k ∧ Below w2.heap.size w2 wr) (fun i _ => b.length - (intOf i).toNat)
        case atStart => exact ⟨0, Nat.zero_le _, rfl, rfl, Below.refl _ _⟩
        case round =>
          obtain ⟨k, hk, rfl, htk, hbel⟩ := hrel
          have HT := Lib.hid htk
          have HBL := Lib.hid hbel
          clear htk hbel
          by_cases hlt : k < b.length
          · have hlt2 : k < a.length := by omega
            obtain ⟨x, rfl, _, hx⟩ := (HA2.out.below HBL.out) k hlt2
            obtain ⟨y, rfl, _, hy⟩ := (HB.out.below HBL.out) k hlt
            have HTA : Hid (a.take (k + 1) = a.take k ++ [a[k]]) := Lib.hid (List.take_succ_eq_append_getElem hlt2)
            have HTB : Hid (b.take (k + 1) = b.take k ++ [b[k]]) := Lib.hid (List.take_succ_eq_append_getElem hlt)
            have hk0 : (0 : Int) ≤ (k : Int) := by omega
            have hk1 : (k : Int) < (a.length : Int) := by omega
            have hk2 : (k : Int) < (b.length : Int) := by omega
            unfold strV at hx hy
            by_cases he : a[k] = b[k]
            · have hq : (a[k] == b[k]) = true := by rw [he]; simp
              have HE := Lib.hid he
              clear he
              go_wp2
              go_quiet (fail)
              go_wp2
              exact ⟨⟨k + 1, by omega, by go_num, by rw [HTA.out, HTB.out, HT.out, HE.out], below_drewN HBL.out _⟩, by simp [intOf]; omega⟩
            · have hq : (a[k] == b[k]) = false := by rw [beq_eq_false_iff_ne]; exact he
              have HE := Lib.hid he
              clear he
              go_wp2
              go_quiet (fail)
              go_wp2
              go_ret
              refine ⟨ret_bool ?_, below_drewN (bstep HB2.out HBL.out) _⟩
              rw [HR.out]
              symm
              rw [beq_eq_false_iff_ne]
              intro h
              apply HE.out
              have h1 : (a.take b.length)[k]'(by rw [List.length_take]; omega) = b[k] := by simp only [h]
              rwa [List.getElem_take] at h1
          · have HKE : Hid (a.take b.length = b) := Lib.hid (by
              have h1 := HT.out
              obtain rfl : k = b.length := by omega
              rw [h1]; exact List.take_of_length_le (Nat.le_refl _))
            go_wp2
            go_ret
            refine ⟨ret_bool ?_, bstep HB2.out HBL.out⟩
            rw [HR.out, HKE.out]; simp
      · have HR : Hid (insideR p.data.toList q.data.toList = false) := Lib.hid (by rw [insideR, hN1, hN2]; simp only; rw [decide_eq_false hle, Bool.false_and])
        have hd : decide ((a.length : Int) < (b.length : Int)) = true := decide_eq_true (by omega)
        have hd2 : decide (a.length < b.length) = true := decide_eq_true (by omega)
        clear hN1 hN2
        go_enter Try.func12, Try.ntmps12
        go_wp2_with fail
        refine (H1.out _).mono ?_
        rintro e w1 ⟨v, rfl, hs1, hb1⟩
        have HB1 := Lib.hid hb1
        obtain ⟨oa, ca, rfl⟩ := hs1.form
        clear hs1 hb1
        go_wp2_with fail
        refine (H2.out _).mono ?_
        rintro e w2 ⟨v2, rfl, hs2, hb2⟩
        obtain ⟨ob, cb, rfl⟩ := hs2.form
        have HB2 := Lib.hid (bstep HB1.out hb2)
        clear hs2 hb2
        go_wp2
        go_ret
        exact ⟨ret_bool HR.out.symm, HB2.out⟩
end Go.Proofs.Ytgpaneboohiojaa.PathW
