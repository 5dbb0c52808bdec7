/- escheatkeep.Op: two records alike. -/
import Derived.Test.YtiffmigihhcgcaaGreatDoorOpSame
namespace Go.Proofs.YtiffmigihhcgcaaGreatDoor.OpW
set_option maxRecDepth 100000
set_option linter.unusedVariables false
open Go.RowKit OpP
set_option maxHeartbeats 3200000 in
theorem keep_eq (x : Rec) (l l' : List Mv) (ox oy : Option Addr) (nx ny cx cy : Nat) (hx : nx = l.length) (hy : ny = l'.length) (zx : l.length ≤ 1000000) (zy : l'.length ≤ 1000000) (w : World) (h1 : MvAt w ox l) (h2 : MvAt w oy l') :
    Calls Tryz.prog 32 #[.agg #[.int .i64 x.cl, .int .i64 x.sq, .int .i64 x.k, .string x.p, .string x.t, .int .i64 x.sz, .int .i64 x.h, .int .i64 x.o, .string x.d, .int .i64 x.tk, .int .i64 x.i, .slice ox nx cx], .agg #[.int .i64 x.cl, .int .i64 x.sq, .int .i64 x.k, .string x.p, .string x.t, .int .i64 x.sz, .int .i64 x.h, .int .i64 x.o, .string x.d, .int .i64 x.tk, .int .i64 x.i, .slice oy ny cy]] w fun e w' => e = .returned (.bool (decide (l = l'))) ∧ Below w.heap.size w w' := by
  have H1 := Lib.hid h1
  have H2 := Lib.hid h2
  have HC : Hid (((w.alloc (.cells #[.int .i64 x.cl, .int .i64 x.sq, .int .i64 x.k, .string x.p, .string x.t, .int .i64 x.sz, .int .i64 x.h, .int .i64 x.o, .string x.d, .int .i64 x.tk, .int .i64 x.i, .slice ox nx cx] 24)).alloc (.cells #[.int .i64 x.cl, .int .i64 x.sq, .int .i64 x.k, .string x.p, .string x.t, .int .i64 x.sz, .int .i64 x.h, .int .i64 x.o, .string x.d, .int .i64 x.tk, .int .i64 x.i, .slice oy ny cy] 24)).cell? ⟨w.heap.size, 11, none⟩ = some (.slice ox nx cx) ∧ ((w.alloc (.cells #[.int .i64 x.cl, .int .i64 x.sq, .int .i64 x.k, .string x.p, .string x.t, .int .i64 x.sz, .int .i64 x.h, .int .i64 x.o, .string x.d, .int .i64 x.tk, .int .i64 x.i, .slice ox nx cx] 24)).alloc (.cells #[.int .i64 x.cl, .int .i64 x.sq, .int .i64 x.k, .string x.p, .string x.t, .int .i64 x.sz, .int .i64 x.h, .int .i64 x.o, .string x.d, .int .i64 x.tk, .int .i64 x.i, .slice oy ny cy] 24)).cell? ⟨w.heap.size + 1, 11, none⟩ = some (.slice oy ny cy)) :=
    Lib.hid ⟨by rw [Lib.cell_of_heap ((heap_alloc_old _ _ (by simp)).trans (heap_alloc_new w _))]; rfl, by rw [Lib.cell_of_heap (heap_alloc2_new w _ _)]; rfl⟩
  clear h1 h2
  by_cases hlen : nx = ny
  rotate_left
  · have HE : Hid (decide (l = l') = false) := Lib.hid (decide_eq_false (fun e => hlen (by rw [hx, hy, e])))
    have hbn : ((nx : Int) != (ny : Int)) = true := by rw [bne_iff_ne]; omega
    clear hlen hx hy
    go_enter Tryz.func32, Tryz.ntmps32
    go_wp2_with fail
    go_ret
    exact ⟨ret_bool HE.out.symm, two_new w _ _⟩
  · have hbn : ((nx : Int) != (ny : Int)) = false := by rw [bne_eq_false_iff_eq]; omega
    have HLN : Hid (nx = l.length ∧ nx = l'.length) := Lib.hid ⟨hx, by rw [hlen, hy]⟩
    have hny : nx ≤ 1000000 := by omega
    have hny2 : ny ≤ 1000000 := by omega
    have HNN := Lib.hid hlen
    clear hlen hx hy
    go_enter Tryz.func32, Tryz.ntmps32
    go_wp2_with fail
    clear hbn
    go_loopw [5] (fun i wr => ∃ k : Nat, k ≤ nx ∧ i = .int .i64 (k : Int) ∧ l.take k = l'.take k ∧ wr.cell? ⟨w.heap.size, 11, none⟩ = some (.slice ox nx cx) ∧ wr.cell? ⟨w.heap.size + 1, 11, none⟩ = some (.slice oy ny cy) ∧ Below w.heap.size w wr) (fun i _ => ((nx : Int) - intOf i).toNat)
    case atStart => exact ⟨0, by omega, rfl, rfl, HC.out.1, HC.out.2, two_new w _ _⟩
    case round =>
      obtain ⟨k, hk, rfl, htk, g1, g2, hbel⟩ := hrel
      have HB := Lib.hid hbel
      have HT := Lib.hid htk
      have G1 := Lib.hid g1
      have G2 := Lib.hid g2
      clear hbel htk
      by_cases hlt : k < nx
      · obtain ⟨x', hx⟩ : ∃ x', l[k]? = some x' := ⟨_, List.getElem?_eq_getElem (by have := HLN.out; omega)⟩
        obtain ⟨y', hy⟩ : ∃ y', l'[k]? = some y' := ⟨_, List.getElem?_eq_getElem (by have := HLN.out; omega)⟩
        obtain ⟨a, rfl, hab, c0, c1, c2, c3⟩ := mv_cells (H1.out.grow HB.out) hx
        obtain ⟨b, rfl, hbb, d0, d1, d2, d3⟩ := mv_cells (H2.out.grow HB.out) hy
        have hk0 : (0 : Int) ≤ (k : Int) := by omega
        have hkl : (k : Int) < (nx : Int) := by omega
        have hkl2 : (k : Int) < (ny : Int) := by have := HNN.out; omega
        have HX := Lib.hid hx
        have HY := Lib.hid hy
        have z0 : (a.add (k * 4)).block < wr.heap.size := by rw [add_block]; exact hab
        have z1 : (b.add (k * 4)).block < wr.heap.size := by rw [add_block]; exact hbb
        have y0 := World.block_lt_of_cell? _ _ g1
        have y1 := World.block_lt_of_cell? _ _ g2
        clear hx hy
        by_cases hxy : x' = y'
        · subst hxy
          have HTT : Hid (l.take (k + 1) = l'.take (k + 1)) := Lib.hid (by rw [List.take_add_one, List.take_add_one, HT.out, HX.out, HY.out])
          go_wp2_with fail
          go_region
          all_goals (go_wp2_with fail)
          all_goals exact ⟨⟨k + 1, by omega, by simp, HTT.out, cell_step ((two_new wr _ _).drew) G1.out, cell_step ((two_new wr _ _).drew) G2.out, HB.out.trans (((two_new wr _ _).drew).mono HB.out.size)⟩, by simp [intOf]; omega⟩
        · have HN : Hid (decide (l = l') = false) := Lib.hid (decide_eq_false (fun e => by
            have h1 := HX.out
            rw [e, HY.out] at h1
            exact hxy (by simpa using h1.symm)))
          have hne := mv_ne hxy
          clear hxy
          rcases hne with n0 | ⟨n0, n1⟩ | ⟨n0, n1, n2⟩ | ⟨n0, n1, n2, n3⟩
          all_goals go_wp2_with fail
          all_goals go_region
          all_goals (first | have m0 := bne_iff_ne.2 n3 | have m0 := bne_iff_ne.2 n2 | have m0 := bne_iff_ne.2 n1 | have m0 := bne_iff_ne.2 n0)
          all_goals go_wp2_with fail
          all_goals go_ret
          all_goals exact ⟨ret_bool HN.out.symm, HB.out.trans (((two_new wr _ _).drew).mono HB.out.size)⟩
      · have hk1 : ¬ ((k : Int) < (nx : Int)) := by omega
        have HE : Hid (decide (l = l') = true) := Lib.hid (decide_eq_true (by
          have := HT.out
          rwa [List.take_of_length_le (by have := HLN.out; omega), List.take_of_length_le (by have := HLN.out; omega)] at this))
        go_wp2_with fail
        go_ret
        exact ⟨ret_bool HE.out.symm, HB.out⟩
/-- all fields but the moves alike -/
def Heads (x y : Rec) : Prop := x.cl = y.cl ∧ x.sq = y.sq ∧ x.k = y.k ∧ x.p.toList = y.p.toList ∧ x.t.toList = y.t.toList ∧ x.sz = y.sz ∧ x.h = y.h ∧ x.o = y.o ∧ x.d.toList = y.d.toList ∧ x.tk = y.tk ∧ x.i = y.i
set_option maxHeartbeats 6400000 in
theorem keep_ne (x y : Rec) (ox oy : Option Addr) (nx ny cx cy : Nat) (hne : ¬ Heads x y) (w : World) :
    Calls Tryz.prog 32 #[.agg #[.int .i64 x.cl, .int .i64 x.sq, .int .i64 x.k, .string x.p, .string x.t, .int .i64 x.sz, .int .i64 x.h, .int .i64 x.o, .string x.d, .int .i64 x.tk, .int .i64 x.i, .slice ox nx cx], .agg #[.int .i64 y.cl, .int .i64 y.sq, .int .i64 y.k, .string y.p, .string y.t, .int .i64 y.sz, .int .i64 y.h, .int .i64 y.o, .string y.d, .int .i64 y.tk, .int .i64 y.i, .slice oy ny cy]] w fun e w' => e = .returned (.bool (sameB x y)) ∧ Below w.heap.size w w' := by
  have HNE := Lib.hid hne
  clear hne
  go_enter Tryz.func32, Tryz.ntmps32
  go_wp2_with fail
  all_goals first
    | exact absurd (show Heads x y from ⟨by assumption, by assumption, by assumption, by assumption, by assumption, by assumption, by assumption, by assumption, by assumption, by assumption, by assumption⟩) HNE.out
    | skip
  all_goals go_ret
  all_goals first
    | exact ⟨ret_bool (same_no Rec.cl (by assumption)), two_new w _ _⟩
    | exact ⟨ret_bool (same_no Rec.sq (by assumption)), two_new w _ _⟩
    | exact ⟨ret_bool (same_no Rec.k (by assumption)), two_new w _ _⟩
    | exact ⟨ret_bool (same_no (fun r => r.p.toList) (by assumption)), two_new w _ _⟩
    | exact ⟨ret_bool (same_no (fun r => r.t.toList) (by assumption)), two_new w _ _⟩
    | exact ⟨ret_bool (same_no Rec.sz (by assumption)), two_new w _ _⟩
    | exact ⟨ret_bool (same_no Rec.h (by assumption)), two_new w _ _⟩
    | exact ⟨ret_bool (same_no Rec.o (by assumption)), two_new w _ _⟩
    | exact ⟨ret_bool (same_no (fun r => r.d.toList) (by assumption)), two_new w _ _⟩
    | exact ⟨ret_bool (same_no Rec.tk (by assumption)), two_new w _ _⟩
    | exact ⟨ret_bool (same_no Rec.i (by assumption)), two_new w _ _⟩
theorem keep_any (x y : Rec) (ox oy : Option Addr) (nx ny cx cy : Nat) (hx : nx = x.m.length) (hy : ny = y.m.length) (zx : x.m.length ≤ 1000000) (zy : y.m.length ≤ 1000000) (w : World) (h1 : MvAt w ox x.m) (h2 : MvAt w oy y.m) :
    Calls Tryz.prog 32 #[.agg #[.int .i64 x.cl, .int .i64 x.sq, .int .i64 x.k, .string x.p, .string x.t, .int .i64 x.sz, .int .i64 x.h, .int .i64 x.o, .string x.d, .int .i64 x.tk, .int .i64 x.i, .slice ox nx cx], .agg #[.int .i64 y.cl, .int .i64 y.sq, .int .i64 y.k, .string y.p, .string y.t, .int .i64 y.sz, .int .i64 y.h, .int .i64 y.o, .string y.d, .int .i64 y.tk, .int .i64 y.i, .slice oy ny cy]] w fun e w' => e = .returned (.bool (sameB x y)) ∧ Below w.heap.size w w' := by
  by_cases h : Heads x y
  · obtain ⟨e0, e1, e2, e3, e4, e5, e6, e7, e8, e9, e10⟩ := h
    rw [← same_eq e0 e1 e2 e3 e4 e5 e6 e7 e8 e9 e10]
    rw [← e0, ← e1, ← e2, ← str_eq e3, ← str_eq e4, ← e5, ← e6, ← e7, ← str_eq e8, ← e9, ← e10]
    exact keep_eq x x.m y.m ox oy nx ny cx cy hx hy zx zy w h1 h2
  · exact keep_ne x y ox oy nx ny cx cy h w
theorem keep_is (x y : Rec) (b : Bool) (hb : sameB x y = b) (ox oy : Option Addr) (nx ny cx cy : Nat) (hx : nx = x.m.length) (hy : ny = y.m.length) (zx : x.m.length ≤ 1000000) (zy : y.m.length ≤ 1000000) (w : World) (h1 : MvAt w ox x.m) (h2 : MvAt w oy y.m) :
    Calls Tryz.prog 32 #[.agg #[.int .i64 x.cl, .int .i64 x.sq, .int .i64 x.k, .string x.p, .string x.t, .int .i64 x.sz, .int .i64 x.h, .int .i64 x.o, .string x.d, .int .i64 x.tk, .int .i64 x.i, .slice ox nx cx], .agg #[.int .i64 y.cl, .int .i64 y.sq, .int .i64 y.k, .string y.p, .string y.t, .int .i64 y.sz, .int .i64 y.h, .int .i64 y.o, .string y.d, .int .i64 y.tk, .int .i64 y.i, .slice oy ny cy]] w fun e w' => e = .returned (.bool b) ∧ Below w.heap.size w w' := by
  rw [← hb]; exact keep_any x y ox oy nx ny cx cy hx hy zx zy w h1 h2
end Go.Proofs.YtiffmigihhcgcaaGreatDoor.OpW
