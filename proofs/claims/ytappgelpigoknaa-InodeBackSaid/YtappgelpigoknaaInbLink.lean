/- The table of inodes: Link, Open. -/
import Derived.Test.YtappgelpigoknaaInbSt
namespace Go.Proofs.Ytappgelpigoknaa.InoW
set_option maxRecDepth 100000
open Go.RowKit InoP ExtW
variable {tb b : Nat} {L : List Ino} {next : Int}
theorem keep_is (x x0 : Ino) (may : Bool) (yi yk yl yo ys : Int) (oa : Option Addr) (n c : Nat) (hf : find L x.i = some x0) (hg : IGood x) (w : World) (h : TIs w tb b L next) (hr : IRel w tb b x ⟨yi, yk, yl, yo, ys, oa, n, c⟩) :
    Calls Try.prog 31 #[.pointer (some ⟨tb, 0, none⟩), .agg #[.int .i64 yi, .int .i64 yk, .int .i64 yl, .int .i64 yo, .int .i64 ys, .slice oa n c], .bool may] w fun e w' => e = .returned (.int .i64 0) ∧ TIs w' tb b (keepL L x may) next ∧ Only b w w' :=
  keep_any x x0 ⟨yi, yk, yl, yo, ys, oa, n, c⟩ may hf hg w h hr
theorem TIs.all {w : World} (h : TIs w tb b L next) (i : Int) : (find L i = none ∧ ∀ w', Below w.heap.size w w' → iOk i → Calls Try.prog 30 #[.pointer (some ⟨tb, 0, none⟩), .int .i64 i] w' fun e w2 => e = .returned (.tuple #[.agg #[.int .i64 0, .int .i64 0, .int .i64 0, .int .i64 0, .int .i64 0, .slice none 0 0], .bool false]) ∧ Below w'.heap.size w' w2) ∨
    ∃ x yi yk yl yo ys oa n c, find L i = some x ∧ IGood x ∧ IRel w tb b x ⟨yi, yk, yl, yo, ys, oa, n, c⟩ ∧ ∀ w', Below w.heap.size w w' → Calls Try.prog 30 #[.pointer (some ⟨tb, 0, none⟩), .int .i64 i] w' fun e w2 => e = .returned (.tuple #[.agg #[.int .i64 yi, .int .i64 yk, .int .i64 yl, .int .i64 yo, .int .i64 ys, .slice oa n c], .bool true]) ∧ Below w'.heap.size w' w2 := by
  obtain ⟨n, g, o⟩ := h.op
  cases hf : find L i with
  | none => exact .inl ⟨rfl, fun w' hb hi => get_no n g i hi (o.no i hf) w' (h.grow hb).m0.1 (MapIs.keep o.m hb)⟩
  | some x =>
    obtain ⟨y, hy, hr⟩ := o.yes i x hf
    obtain ⟨hx, hxi⟩ := find_mem hf
    have hn := h.good.num x hx
    have hnx := h.good.next
    exact .inr ⟨x, y.i, y.k, y.l, y.o, y.s, y.oa, y.n, y.c, rfl, h.good.all x hx, hr, fun w' hb => get_yes n g i (iOk_of (by omega)) y hy w' (h.grow hb).m0.1 (MapIs.keep o.m hb)⟩
theorem IRel.setL {w : World} {x : Ino} {yi yk yl yo ys : Int} {oa : Option Addr} {n c : Nat} (h : IRel w tb b x ⟨yi, yk, yl, yo, ys, oa, n, c⟩) (d : Int) : IRel w tb b { x with l := x.l + d } ⟨yi, yk, yl + d, yo, ys, oa, n, c⟩ :=
  { i := h.i, k := h.k, l := by have := h.l; simp only at this ⊢; omega, o := h.o, s := h.s, n := h.n, pts := h.pts, far := h.far, nil := h.nil, ty := h.ty }
theorem IRel.setO {w : World} {x : Ino} {yi yk yl yo ys : Int} {oa : Option Addr} {n c : Nat} (h : IRel w tb b x ⟨yi, yk, yl, yo, ys, oa, n, c⟩) (d : Int) : IRel w tb b { x with o := x.o + d } ⟨yi, yk, yl, yo + d, ys, oa, n, c⟩ :=
  { i := h.i, k := h.k, l := h.l, o := by have := h.o; simp only at this ⊢; omega, s := h.s, n := h.n, pts := h.pts, far := h.far, nil := h.nil, ty := h.ty }
set_option maxHeartbeats 1600000 in
theorem link_any (i d : Int) (hi : iOk i) (w : World) (h : TIs w tb b L next) :
    Calls Try.prog 8 #[.pointer (some ⟨tb, 0, none⟩), .int .i64 i, .int .i64 d] w fun e w' => e = .returned (.int .i64 (linkE L i d)) ∧ TIs w' tb b (linkL L i d) next ∧ Only b w w' := by
  have H := Lib.hid h
  rcases h.all i with ⟨hf, hget⟩ | ⟨x, yi, yk, yl, yo, ys, oa, n, c, hf, hg, hr, hget⟩
  · have HE : Hid (linkE L i d = 60 ∧ linkL L i d = L) := Lib.hid (by unfold linkE linkL; rw [hf]; exact ⟨rfl, rfl⟩)
    have HC := Lib.hid (hget w (Below.refl _ _) hi)
    clear h hi hf hget
    go_enter Try.func8, Try.ntmps8
    go_wp2_with (go_at_call 30; refine HC.out.mono ?_; rintro e w2 ⟨rfl, hb2⟩; have HB2 := Lib.hid hb2; clear hb2)
    go_ret
    have hb := bstep HB2.out (below_alloc w2 (.cells #[.int .i64 0, .int .i64 0, .int .i64 0, .int .i64 0, .int .i64 0, .slice none 0 0] 62))
    exact ⟨ret_int HE.out.1.symm, by rw [HE.out.2]; exact H.out.grow hb, Only.of_below hb⟩
  · have HC := Lib.hid (hget w (Below.refl _ _))
    have HF := Lib.hid hf
    have HG := Lib.hid hg
    have HR := Lib.hid hr
    have hl := hg.l
    have hyl := hr.l
    simp only at hyl
    have HL := Lib.hid hl
    have HYL := Lib.hid hyl
    clear h hi hf hg hr hget hl hyl
    by_cases hok : (d = 1 ∨ d = -1) ∧ i ≠ 1
    · have hi1 : (i == 1) = false := by rw [beq_eq_false_iff_ne]; exact hok.2
      have HI1 := Lib.hid hok.2
      by_cases hlk : x.l + d < 0 ∨ 8 < x.l + d
      · have HE : Hid (linkE L i d = 66 ∧ linkL L i d = L) := Lib.hid (by
          have e : linkE L i d = 66 := by unfold linkE; rw [HF.out]; exact (if_pos hok).trans (if_pos hlk)
          exact ⟨e, by unfold linkL; rw [HF.out]; exact if_neg (by rw [e]; decide)⟩)
        have hw : IntKind.i64.wrap (yl + d) = yl + d := IntWalk.i64_in _ (by have := HL.out; have := HYL.out; omega)
        have hcs : (d = 1 ∧ decide (yl + 1 < 0) = false ∧ 8 < yl + 1) ∨ (d = -1 ∧ yl + -1 < 0) := by
          have := HL.out; have := HYL.out
          rcases hok.1 with e | e
          · left; subst e; exact ⟨rfl, decide_eq_false (by omega), by omega⟩
          · right; subst e; exact ⟨rfl, by omega⟩
        clear hok hlk
        rcases hcs with ⟨rfl, h2, h3⟩ | ⟨rfl, h2⟩
        all_goals
          go_enter Try.func8, Try.ntmps8
          go_wp2_with (go_at_call 30; refine HC.out.mono ?_; rintro e w2 ⟨rfl, hb2⟩; have HB2 := Lib.hid hb2; clear hb2)
          go_ret
          have hb := bstep HB2.out (below_alloc w2 (.cells #[.int .i64 yi, .int .i64 yk, .int .i64 yl, .int .i64 yo, .int .i64 ys, .slice oa n c] 62))
          exact ⟨ret_int HE.out.1.symm, by rw [HE.out.2]; exact H.out.grow hb, Only.of_below hb⟩
      · have HX : Hid (IGood { x with l := x.l + d } ∧ x.i = i) := Lib.hid ⟨{ HG.out with l := by show 0 ≤ x.l + d ∧ x.l + d ≤ 8; omega }, (find_mem HF.out).2⟩
        have HE : Hid (linkE L i d = 0 ∧ linkL L i d = keepL L { x with l := x.l + d } (decide (d < 0))) := Lib.hid (by
          have e : linkE L i d = 0 := by unfold linkE; rw [HF.out]; exact (if_pos hok).trans (if_neg hlk)
          exact ⟨e, by unfold linkL; rw [HF.out]; exact if_pos e⟩)
        have hw : IntKind.i64.wrap (yl + d) = yl + d := IntWalk.i64_in _ (by have := HL.out; have := HYL.out; omega)
        have hcs : (d = 1 ∧ decide (yl + 1 < 0) = false ∧ decide (8 < yl + 1) = false) ∨ (d = -1 ∧ decide (yl + -1 < 0) = false ∧ decide (8 < yl + -1) = false) := by
          have := HL.out; have := HYL.out
          rcases hok.1 with e | e
          · left; subst e; exact ⟨rfl, decide_eq_false (by omega), decide_eq_false (by omega)⟩
          · right; subst e; exact ⟨rfl, decide_eq_false (by omega), decide_eq_false (by omega)⟩
        clear hok hlk
        rcases hcs with ⟨rfl, h2, h3⟩ | ⟨rfl, h2, h3⟩
        · go_enter Try.func8, Try.ntmps8
          go_wp2_with (first
            | (go_at_call 30; refine HC.out.mono ?_; rintro e w2 ⟨rfl, hb2⟩; have HB2 := Lib.hid hb2; clear hb2)
            | (go_at_call 31; go_loud (refine (keep_is { x with l := x.l + 1 } x false yi yk (yl + 1) yo ys oa n c (by rw [← HF.out, ← HX.out.2]) HX.out.1 _ (H.out.grow (bstep HB2.out (below_alloc w2 _))) ((HR.out.setL _).grow (bstep HB2.out (below_alloc w2 _)))).mono ?_; rintro e w3 ⟨rfl, h3, ho3⟩; have H3 := Lib.hid h3; have HO3 := Lib.hid ho3; clear h3 ho3)))
          go_ret
          exact ⟨ret_int HE.out.1.symm, by rw [HE.out.2]; exact H3.out, (Only.of_below (bstep HB2.out (below_alloc w2 _))).trans HO3.out⟩
        · go_enter Try.func8, Try.ntmps8
          go_wp2_with (first
            | (go_at_call 30; refine HC.out.mono ?_; rintro e w2 ⟨rfl, hb2⟩; have HB2 := Lib.hid hb2; clear hb2)
            | (go_at_call 31; go_loud (refine (keep_is { x with l := x.l + -1 } x true yi yk (yl + -1) yo ys oa n c (by rw [← HF.out, ← HX.out.2]) HX.out.1 _ (H.out.grow (bstep HB2.out (below_alloc w2 _))) ((HR.out.setL _).grow (bstep HB2.out (below_alloc w2 _)))).mono ?_; rintro e w3 ⟨rfl, h3, ho3⟩; have H3 := Lib.hid h3; have HO3 := Lib.hid ho3; clear h3 ho3)))
          go_ret
          exact ⟨ret_int HE.out.1.symm, by rw [HE.out.2]; exact H3.out, (Only.of_below (bstep HB2.out (below_alloc w2 _))).trans HO3.out⟩
    · have HE : Hid (linkE L i d = 1 ∧ linkL L i d = L) := Lib.hid (by
        have e : linkE L i d = 1 := by unfold linkE; rw [HF.out]; exact if_neg hok
        exact ⟨e, by unfold linkL; rw [HF.out]; exact if_neg (by rw [e]; decide)⟩)
      have hcs : (d = 1 ∧ i = 1) ∨ (d = -1 ∧ i = 1) ∨ ((d == 1) = false ∧ (d == -1) = false) := by
        simp only [beq_eq_false_iff_ne, ne_eq] at *; omega
      clear hok
      rcases hcs with ⟨rfl, rfl⟩ | ⟨rfl, rfl⟩ | ⟨h1, h2⟩
      all_goals
        go_enter Try.func8, Try.ntmps8
        go_wp2_with (go_at_call 30; refine HC.out.mono ?_; rintro e w2 ⟨rfl, hb2⟩; have HB2 := Lib.hid hb2; clear hb2)
        go_ret
        have hb := bstep HB2.out (below_alloc w2 (.cells #[.int .i64 yi, .int .i64 yk, .int .i64 yl, .int .i64 yo, .int .i64 ys, .slice oa n c] 62))
        exact ⟨ret_int HE.out.1.symm, by rw [HE.out.2]; exact H.out.grow hb, Only.of_below hb⟩
end Go.Proofs.Ytappgelpigoknaa.InoW
