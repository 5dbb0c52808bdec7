/- Same: two records alike, of the program and of the statements' helpers. -/
import Derived.Test.YtiffmigihhcgcaaGreatDoorOpSt
namespace Go.Proofs.YtiffmigihhcgcaaGreatDoor.OpW
set_option maxRecDepth 100000
open Go.RowKit OpP
theorem mv_ne {x y : Mv} (h : x ≠ y) : (¬ x.a = y.a) ∨ (x.a = y.a ∧ ¬ x.f = y.f) ∨ (x.a = y.a ∧ x.f = y.f ∧ ¬ x.n = y.n) ∨ (x.a = y.a ∧ x.f = y.f ∧ x.n = y.n ∧ ¬ x.t = y.t) := by
  obtain ⟨a, f, n, t⟩ := x
  obtain ⟨b, g, m, u⟩ := y
  by_cases h0 : a = b
  · by_cases h1 : f = g
    · by_cases h2 : n = m
      · by_cases h3 : t = u
        · exact absurd (by rw [h0, h1, h2, h3]) h
        · exact .inr (.inr (.inr ⟨h0, h1, h2, h3⟩))
      · exact .inr (.inr (.inl ⟨h0, h1, h2⟩))
    · exact .inr (.inl ⟨h0, h1⟩)
  · exact .inl h0
set_option maxHeartbeats 1600000 in
theorem equal_any (oa ob : Option Addr) (na nb ca cb : Nat) (l l' : List Mv) (hna : na = l.length) (hnb : nb = l'.length) (hl : l.length ≤ 1000000) (_ : l'.length ≤ 1000000) (w : World) (h1 : MvAt w oa l) (h2 : MvAt w ob l') :
    Calls Tryz.prog 42 #[.slice oa na ca, .slice ob nb cb] w fun e w' => e = .returned (.bool (decide (l = l'))) ∧ Below w.heap.size w w' := by
  subst hna; subst hnb
  have HP := Lib.hid h1
  have HQ := Lib.hid h2
  clear h1 h2
  by_cases hlen : l.length = l'.length
  · have HL := Lib.hid hlen
    have hbn : ((l.length : Int) != (l'.length : Int)) = false := by rw [bne_eq_false_iff_eq]; omega
    clear hlen
    go_enter Tryz.func42, Tryz.ntmps42
    go_wp2_with fail
    clear hbn
    go_loopw [13] (fun i wr => ∃ k : Nat, k ≤ l.length ∧ i = .int .i64 (k : Int) ∧ l.take k = l'.take k ∧ Below w.heap.size w wr) (fun i _ => ((l.length : Int) - intOf i).toNat)
    case atStart => exact ⟨0, by omega, rfl, rfl, Below.refl _ _⟩
    case round =>
      obtain ⟨k, hk, rfl, htk, hbel⟩ := hrel
      have HB := Lib.hid hbel
      have HT := Lib.hid htk
      clear hbel htk
      by_cases hlt : k < l.length
      · obtain ⟨x, hx⟩ : ∃ x, l[k]? = some x := ⟨_, List.getElem?_eq_getElem hlt⟩
        obtain ⟨y, hy⟩ : ∃ y, l'[k]? = some y := ⟨_, List.getElem?_eq_getElem (by have := HL.out; omega)⟩
        obtain ⟨a, rfl, hab, c0, c1, c2, c3⟩ := mv_cells (HP.out.grow HB.out) hx
        obtain ⟨b, rfl, hbb, d0, d1, d2, d3⟩ := mv_cells (HQ.out.grow HB.out) hy
        have hk0 : (0 : Int) ≤ (k : Int) := by omega
        have hkl : (k : Int) < (l.length : Int) := by omega
        have hkl2 : (k : Int) < (l'.length : Int) := by have := HL.out; omega
        have HX := Lib.hid hx
        have HY := Lib.hid hy
        clear hx hy
        by_cases hxy : x = y
        · subst hxy
          have HTT : Hid (l.take (k + 1) = l'.take (k + 1)) := Lib.hid (by rw [List.take_add_one, List.take_add_one, HT.out, HX.out, HY.out])
          go_wp2_with fail
          go_quiet (fail)
          go_wp2_with fail
          exact ⟨⟨k + 1, by omega, by simp, HTT.out, below_drewN HB.out _⟩, by simp [intOf]; omega⟩
        · have HN : Hid (decide (l = l') = false) := Lib.hid (decide_eq_false (fun e => by
            have h1 := HX.out
            rw [e, HY.out] at h1
            exact hxy (by simpa using h1.symm)))
          have hne := mv_ne hxy
          clear hxy
          go_wp2_with fail
          rcases hne with n0 | ⟨n0, n1⟩ | ⟨n0, n1, n2⟩ | ⟨n0, n1, n2, n3⟩
          all_goals go_quiet (fail)
          all_goals go_wp2_with fail
          all_goals go_ret
          all_goals exact ⟨ret_bool HN.out.symm, below_drewN HB.out _⟩
      · have hk1 : ¬ ((k : Int) < (l.length : Int)) := by omega
        have HE : Hid (decide (l = l') = true) := Lib.hid (decide_eq_true (by
          have := HT.out
          rwa [List.take_of_length_le (by omega), List.take_of_length_le (by have := HL.out; omega)] at this))
        go_wp2_with fail
        go_ret
        exact ⟨ret_bool HE.out.symm, HB.out⟩
  · have hbn : ((l.length : Int) != (l'.length : Int)) = true := by rw [bne_iff_ne]; omega
    have HE : Hid (decide (l = l') = false) := Lib.hid (decide_eq_false (fun e => hlen (by rw [e])))
    clear hlen
    go_enter Tryz.func42, Tryz.ntmps42
    go_wp2_with fail
    go_ret
    exact ⟨ret_bool HE.out.symm, Below.refl _ _⟩
theorem str_eq {a b : ByteArray} (e : a.toList = b.toList) : a = b := by
  rw [Lib.toList_data, Lib.toList_data] at e
  exact ByteArray.ext (Array.toList_inj.1 e)
theorem two_new (w : World) (o p : Obj) : Below w.heap.size w ((w.alloc o).alloc p) := bstep (below_alloc w o) (below_alloc _ p)
theorem same_eq {x y : Rec} (e0 : x.cl = y.cl) (e1 : x.sq = y.sq) (e2 : x.k = y.k) (e3 : x.p.toList = y.p.toList) (e4 : x.t.toList = y.t.toList) (e5 : x.sz = y.sz) (e6 : x.h = y.h) (e7 : x.o = y.o) (e8 : x.d.toList = y.d.toList) (e9 : x.tk = y.tk) (e10 : x.i = y.i) :
    decide (x.m = y.m) = sameB x y := by
  cases hs : sameB x y with
  | true => exact decide_eq_true (by rw [(sameB_iff x y).1 hs])
  | false =>
    refine decide_eq_false fun hm => ?_
    rw [Bool.eq_false_iff] at hs
    apply hs
    rw [sameB_iff]
    have e3 := str_eq e3
    have e4 := str_eq e4
    have e8 := str_eq e8
    obtain ⟨c1, s1, k1, p1, t1, z1, h1, o1, d1, q1, i1, m1⟩ := x
    obtain ⟨c2, s2, k2, p2, t2, z2, h2, o2, d2, q2, i2, m2⟩ := y
    simp only at e0 e1 e2 e3 e4 e5 e6 e7 e8 e9 e10 hm
    rw [e0, e1, e2, e3, e4, e5, e6, e7, e8, e9, e10, hm]
theorem same_no {α : Type} [DecidableEq α] (f : Rec → α) {x y : Rec} (h : ¬ f x = f y) : false = sameB x y := by
  symm
  rw [Bool.eq_false_iff]
  intro hs
  exact h (by rw [(sameB_iff x y).1 hs])
set_option maxHeartbeats 3200000 in
theorem same_any (x y : Rec) (ox oy : Option Addr) (nx ny cx cy : Nat) (hx : nx = x.m.length) (hy : ny = y.m.length) (zx : x.m.length ≤ 1000000) (zy : y.m.length ≤ 1000000) (w : World) (h1 : MvAt w ox x.m) (h2 : MvAt w oy y.m) :
    Calls Tryz.prog 25 #[.agg #[.int .i64 x.cl, .int .i64 x.sq, .int .i64 x.k, .string x.p, .string x.t, .int .i64 x.sz, .int .i64 x.h, .int .i64 x.o, .string x.d, .int .i64 x.tk, .int .i64 x.i, .slice ox nx cx], .agg #[.int .i64 y.cl, .int .i64 y.sq, .int .i64 y.k, .string y.p, .string y.t, .int .i64 y.sz, .int .i64 y.h, .int .i64 y.o, .string y.d, .int .i64 y.tk, .int .i64 y.i, .slice oy ny cy]] w fun e w' => e = .returned (.bool (sameB x y)) ∧ Below w.heap.size w w' := by
  have H1 := Lib.hid h1
  have H2 := Lib.hid h2
  have HN := Lib.hid hx
  have HM := Lib.hid hy
  clear h1 h2 hx hy
  go_enter Tryz.func25, Tryz.ntmps25
  go_wp2_with (go_at_call 42; go_loud (refine (equal_any ox oy _ _ cx cy x.m y.m HN.out HM.out zx zy _ (H1.out.grow (two_new w _ _)) (H2.out.grow (two_new w _ _))).mono ?_; rintro e w1 ⟨rfl, hb1⟩; have HB1 := Lib.hid hb1; clear hb1))
  all_goals go_ret
  all_goals first
    | exact ⟨ret_bool (same_eq (by assumption) (by assumption) (by assumption) (by assumption) (by assumption) (by assumption) (by assumption) (by assumption) (by assumption) (by assumption) (by assumption)), (two_new w _ _).trans (HB1.out.mono (by simp; omega))⟩
    | exact ⟨ret_bool (same_no Rec.cl (by assumption)), two_new w _ _⟩
    | exact ⟨ret_bool (same_no Rec.sq (by assumption)), two_new w _ _⟩
    | exact ⟨ret_bool (same_no Rec.k (by assumption)), two_new w _ _⟩
    | exact ⟨ret_bool (same_no (fun r => r.p.toList) (by assumption)), two_new w _ _⟩
    | exact ⟨ret_bool (same_no (fun r => r.t.toList) (by assumption)), two_new w _ _⟩
    | exact ⟨ret_bool (same_no Rec.sz (by assumption)), two_new w _ _⟩
    | exact ⟨ret_bool (same_no Rec.h (by assumption)), two_new w _ _⟩
    | exact ⟨ret_bool (same_no Rec.o (by assumption)), two_new w _ _⟩
    | exact ⟨ret_bool (same_no (fun r => r.d.toList) (by assumption)), two_new w _ _⟩
    | exact ⟨ret_bool (same_no Rec.tk (by assumption)), two_new w _ _⟩
    | exact ⟨ret_bool (same_no Rec.i (by assumption)), two_new w _ _⟩
end Go.Proofs.YtiffmigihhcgcaaGreatDoor.OpW
