/- The table of inodes: Move. -/
import Derived.Test.YtappgelpigoknaaInbTrunc
import Derived.Test.YtappgelpigoknaaExtMove
import Derived.Test.YtappgelpigoknaaRowAt
import Derived.Lib.BufferMore
namespace Go.Proofs.Ytappgelpigoknaa.InoP
set_option maxRecDepth 100000
set_option linter.constructorNameAsVariable false
open ExtW
/-- bytes of an address that lie elsewhere now -/
structure Mq where
  a : Int
  f : Int
  n : Int
  t : Int
/-- parts behind moves, and the first error -/
def mvsP : List Pt → List Mq → Int → List Pt × Int
  | p, [], _ => (p, 0)
  | p, m :: r, tt => if moveE p m.a m.f m.n m.t tt = 0 then mvsP (moveL p m.a m.f m.n m.t tt) r tt else (p, moveE p m.a m.f m.n m.t tt)
def tmovE (L : List Ino) (i : Int) (ms : List Mq) (tt : Int) : Int :=
  match find L i with
  | none => 60
  | some x => if x.k = 1 then 63 else spaceE (mvsP x.p ms tt).2
def tmovL (L : List Ino) (i : Int) (ms : List Mq) (tt : Int) : List Ino :=
  match find L i with
  | none => L
  | some x => if tmovE L i ms tt = 0 then upd L { x with p := (mvsP x.p ms tt).1 } else L
theorem tmov_pre (L : List Ino) (i : Int) (ms : List Mq) (tt : Int) : tmovE L i ms tt = if fileE L i = 0 then spaceE (match find L i with | some x => (mvsP x.p ms tt).2 | none => 0) else fileE L i := by
  unfold tmovE fileE
  cases find L i with
  | none => simp
  | some x => by_cases h : x.k = 1 <;> simp [h]
theorem tmov_no {L : List Ino} {i : Int} {ms : List Mq} {tt : Int} (h : tmovE L i ms tt ≠ 0) : tmovL L i ms tt = L := by
  unfold tmovL
  cases hf : find L i with
  | none => rfl
  | some x => exact if_neg h
theorem move_step {l : List Pt} {ma mf mn mt tt : Int} (hg : ExtW.Good l) (h : moveE l ma mf mn mt tt = 0) : May ma mf mn mt tt ∧ ExtW.Good (moveL l ma mf mn mt tt) ∧ endL (moveL l ma mf mn mt tt) = endL l ∧ ∀ i, ExtW.look (moveL l ma mf mn mt tt) i = movG (ExtW.look l) ma mf mn mt tt i := by
  unfold moveE at h
  rw [if_pos hg] at h
  by_cases hm : May ma mf mn mt tt
  · rw [if_pos hm] at h
    have h3 := mov_fine hg hm
    have h4 := mov_end hg ma mf mn mt tt
    have e : moveL l ma mf mn mt tt = fewL (movL l ma mf mn mt tt) := by
      unfold moveL
      rw [if_pos hg, if_pos hm]
    rw [e]
    generalize movL l ma mf mn mt tt = M at *
    unfold fewE at h
    have hl : ¬ M.length > 64 := by
      intro q; rw [if_pos q] at h; cases h
    have e2 : fewL M = M := by unfold fewL; rw [if_neg hl]
    rw [e2]
    exact ⟨hm, ⟨Nat.le_of_not_lt hl, h3.2.1⟩, h4, h3.2.2⟩
  · rw [if_neg hm] at h; cases h
theorem mvs_step {x : Ino} (hg : IGood x) {p : List Pt} (h1 : ExtW.Good p) (h2 : endL p = endL x.p) (hk : x.k ≠ 1) : IGood { x with p := p } :=
  ⟨hg.kind, hg.l, hg.o, hg.s, h1, by show endL p ≤ x.s; rw [h2]; exact hg.e, fun h => absurd h hk⟩
end Go.Proofs.Ytappgelpigoknaa.InoP
namespace Go.Proofs.Ytappgelpigoknaa.InoW
set_option maxRecDepth 100000
open Go.RowKit InoP ExtW
def encQ (x : Mq) : List Value := [.int .i64 x.a, .int .i64 x.f, .int .i64 x.n, .int .i64 x.t]
theorem q_at {B : Nat} {oa : Option Addr} {l : List Mq} {w : World} (h : KAt encQ 4 B oa l w) {i : Nat} {x : Mq} (hx : l[i]? = some x) :
    ∃ a, oa = some a ∧ a.block < B ∧ w.cell? (a.add (i * 4)) = some (.int .i64 x.a) ∧ w.cell? ⟨(a.add (i * 4)).block, (a.add (i * 4)).off + 1, none⟩ = some (.int .i64 x.f) ∧
      w.cell? ⟨(a.add (i * 4)).block, (a.add (i * 4)).off + 2, none⟩ = some (.int .i64 x.n) ∧ w.cell? ⟨(a.add (i * 4)).block, (a.add (i * 4)).off + 3, none⟩ = some (.int .i64 x.t) := by
  obtain ⟨a, h1, h2, h3⟩ := h i x hx
  exact ⟨a, h1, h2, h3 0 _ rfl, h3 1 _ rfl, h3 2 _ rfl, h3 3 _ rfl⟩
theorem box_setI {w : World} {xb : Nat} {yi yk yl yo ys : Int} {oa o6 : Option Addr} {n c m6 c6 : Nat} (h : IBox w xb ⟨yi, yk, yl, yo, ys, oa, n, c⟩) : IBox (w.setCell ⟨xb, 5, none⟩ (.slice o6 m6 c6)) xb ⟨yi, yk, yl, yo, ys, o6, m6, c6⟩ := by
  unfold IBox at h ⊢
  rw [Lib.heap_setCell_same h]
  rfl
variable {tb b : Nat} {L : List Ino} {next : Int}
set_option maxHeartbeats 6400000 in
theorem tmove_any (i tt : Int) (hi : iOk i) (ms : List Mq) (hms : ∀ m ∈ ms, -9223372036854775808 ≤ m.f ∧ m.f ≤ 9223372036854775807) (hlen : ms.length ≤ 1000000) (om : Option Addr) (cm : Nat) (w : World) (h : TIs w tb b L next) (hm : KAt encQ 4 w.heap.size om ms w) :
    Calls Try.prog 27 #[.pointer (some ⟨tb, 0, none⟩), .int .i64 i, .slice om ms.length cm, .int .i64 tt] w fun e w' => e = .returned (.int .i64 (tmovE L i ms tt)) ∧ TIs w' tb b (tmovL L i ms tt) next ∧ Only b w w' := by
  have H := Lib.hid h
  have HMS := Lib.hid hms
  have HMA := Lib.hid hm
  by_cases he : fileE L i = 0
  · obtain ⟨x, yi, yk, yl, yo, ys, oa, m, c, hf, hk, hg, hr, hfile⟩ := file_ok i he w h
    have HC := Lib.hid hfile
    have HR := Lib.hid hr
    obtain rfl : m = x.p.length := hr.n
    have HG := Lib.hid hg
    have HF := Lib.hid hf
    have HK : Hid (x.k ≠ 1) := Lib.hid hk
    have HTE : Hid (tmovE L i ms tt = spaceE (mvsP x.p ms tt).2) := Lib.hid (by rw [tmov_pre, if_pos he, hf])
    have HLT := Lib.hid h.lt
    clear h hf hk hg hr hfile he hi hms hm
    go_enter Try.func27, Try.ntmps27
    go_wp2_with (go_at_call 32; refine HC.out.mono ?_; rintro e w2 ⟨rfl, hb2⟩; have HB2 := Lib.hid hb2; clear hb2)
    have HB2X : Hid (Below w.heap.size w (w2.alloc (.cells #[.int .i64 yi, .int .i64 yk, .int .i64 yl, .int .i64 yo, .int .i64 ys, .slice oa x.p.length c] 62))) := Lib.hid (bstep HB2.out (below_alloc w2 _))
    have HIB : Hid (IBox (w2.alloc (.cells #[.int .i64 yi, .int .i64 yk, .int .i64 yl, .int .i64 yo, .int .i64 ys, .slice oa x.p.length c] 62)) w2.heap.size ⟨yi, yk, yl, yo, ys, oa, x.p.length, c⟩) := Lib.hid (heap_alloc_new w2 _)
    have HXS : Hid (w.heap.size ≤ w2.heap.size) := Lib.hid HB2.out.size
    generalize w2.alloc (.cells #[.int .i64 yi, .int .i64 yk, .int .i64 yl, .int .i64 yo, .int .i64 ys, .slice oa x.p.length c] 62) = w3 at *
    generalize w2.heap.size = xb at *
    go_loopw [24] (fun j wr => ∃ (k : Nat) (P : List Pt) (o5 : Option Addr) (c5 : Nat), k ≤ ms.length ∧ j = .int .i64 (k : Int) ∧ mvsP x.p ms tt = mvsP P (ms.drop k) tt ∧ ExtW.Good P ∧ endL P = endL x.p ∧ IBox wr xb ⟨yi, yk, yl, yo, ys, o5, P.length, c5⟩ ∧ IRel wr tb b { x with p := P } ⟨yi, yk, yl, yo, ys, o5, P.length, c5⟩ ∧ Below w.heap.size w wr) (fun j _ => ((ms.length : Int) - intOf j).toNat)
    case atStart => exact ⟨0, x.p, oa, c, by omega, rfl, by simp, HG.out.p, rfl, HIB.out, HR.out.grow HB2X.out, HB2X.out⟩
    case round =>
      obtain ⟨k, P, o5, c5, hk, rfl, hmv, hgp, hend, hib, hrel2, hbel⟩ := hrel
      have HMV := Lib.hid hmv
      have HGP := Lib.hid hgp
      have HEND := Lib.hid hend
      have HIBW := Lib.hid hib
      have HREL := Lib.hid hrel2
      have HBW := Lib.hid hbel
      have HPL : Hid (P.length ≤ 64) := Lib.hid hgp.1
      clear hmv hgp hend hib hrel2 hbel
      by_cases hlt : k < ms.length
      · have hlt1 : (k : Int) < (ms.length : Int) := by omega
        obtain ⟨q, hq⟩ : ∃ q, ms[k]? = some q := ⟨_, List.getElem?_eq_getElem hlt⟩
        obtain ⟨a, rfl, _, q0, q1, q2, q3⟩ := q_at (HMA.out.below HBW.out) hq
        have HQB := Lib.hid (HMS.out q (List.mem_of_getElem? hq))
        have HDR : Hid (ms.drop k = q :: ms.drop (k + 1)) := Lib.hid (by
          obtain ⟨hk', rfl⟩ := List.getElem?_eq_some_iff.1 hq
          exact List.drop_eq_getElem_cons hk')
        obtain ⟨qa, qf, qn, qt⟩ := q
        simp only at q0 q1 q2 q3 HQB
        have HBX := Lib.hid (below_alloc wr (.cells #[.int .i64 qa, .int .i64 qf, .int .i64 qn, .int .i64 qt] 91))
        have hib1 : IBox (wr.alloc (.cells #[.int .i64 qa, .int .i64 qf, .int .i64 qn, .int .i64 qt] 91)) xb ⟨yi, yk, yl, yo, ys, o5, P.length, c5⟩ := (HBX.out.block xb (lt_of_block HIBW.out)).trans HIBW.out
        have HIB1 := Lib.hid hib1
        obtain ⟨b0, b1, b2, b3, b4, b5⟩ := hib1.cells
        have HXL := Lib.hid (lt_of_block HIBW.out)
        have hwl := HBW.out.size
        obtain ⟨E, hE⟩ : ∃ E, moveE P qa qf qn qt tt = E := ⟨_, rfl⟩
        have HE := Lib.hid hE
        clear hq hib1 hE
        by_cases hE0 : E = 0
        · subst hE0
          obtain ⟨hs1, hs2, hs3, _⟩ := move_step HGP.out HE.out
          have HGP2 := Lib.hid hs2
          have HEND2 : Hid (endL (moveL P qa qf qn qt tt) = endL x.p) := Lib.hid (by rw [hs3]; exact HEND.out)
          have HMV2 : Hid (mvsP x.p ms tt = mvsP (moveL P qa qf qn qt tt) (ms.drop (k + 1)) tt) := Lib.hid (by rw [HMV.out, HDR.out, mvsP, if_pos HE.out])
          clear hs1 hs2 hs3
          go_wp2_with (go_at_call 45; go_loud (refine (move_any o5 c5 P qa qf qn qt tt HQB.out (by have := HPL.out; omega) _ ((HREL.out.grow HBX.out).pts)).mono ?_; rintro e w4 ⟨v4, rfl, hr4, hb4⟩; rw [HE.out]; have HR4 := Lib.hid hr4; have HB4 := Lib.hid (bstep HBX.out hb4); have HB04 := Lib.hid (bstep HBW.out (bstep HBX.out hb4)); obtain ⟨o6, c6, rfl, _⟩ := hr4.form; have hbx : IBox w4 xb ⟨yi, yk, yl, yo, ys, o5, P.length, c5⟩ := (hb4.block xb (lt_of_block HIB1.out)).trans HIB1.out; have HIB4 := Lib.hid hbx; clear b0 b1 b2 b3 b4 b5; obtain ⟨b0, b1, b2, b3, b4, b5⟩ := hbx.cells; have f5 := Lib.frozen_of_heap hbx 5; clear hb4 hr4 hbx))
          have hxw : w.heap.size ≤ xb := HXS.out
          exact ⟨⟨k + 1, moveL P qa qf qn qt tt, o6, c6, by omega, by simp, HMV2.out, HGP2.out, HEND2.out, box_setI HIB4.out,
            HREL.out.setP (x' := { x with p := moveL P qa qf qn qt tt }) HR4.out (by have := HLT.out; have := HBX.out.size; omega) (by have := HXL.out; have := HBX.out.size; omega) ((Only.refl xb w4).setCell 5 _) rfl HREL.out.s, HB04.out.setCell (p := ⟨xb, 5, none⟩) hxw _⟩, by simp [intOf]; omega⟩
        · have hE1 : (E == 0) = false := beq_eq_false_iff_ne.2 hE0
          have hE2 : (E != 0) = true := bne_iff_ne.2 hE0
          have HTV : Hid (tmovE L i ms tt = spaceE E) := Lib.hid (by rw [HTE.out, HMV.out, HDR.out, mvsP, if_neg (by rw [HE.out]; exact hE0), HE.out])
          have HTL : Hid (tmovL L i ms tt = L) := Lib.hid (tmov_no (by rw [HTV.out]; exact fun e => hE0 (space_ok.1 e)))
          clear hE0
          go_wp2_with (first
            | (go_at_call 34; go_loud (refine (space_any E _).mono ?_; rintro e w5 ⟨rfl, rfl⟩))
            | (go_at_call 45; go_loud (refine (move_any o5 c5 P qa qf qn qt tt HQB.out (by have := HPL.out; omega) _ ((HREL.out.grow HBX.out).pts)).mono ?_; rintro e w4 ⟨v4, rfl, hr4, hb4⟩; rw [HE.out]; have HB04 := Lib.hid (bstep HBW.out (bstep HBX.out hb4)); obtain ⟨o6, c6, rfl, _⟩ := hr4.form; have hbx : IBox w4 xb ⟨yi, yk, yl, yo, ys, o5, P.length, c5⟩ := (hb4.block xb (lt_of_block HIB1.out)).trans HIB1.out; clear b0 b1 b2 b3 b4 b5; obtain ⟨b0, b1, b2, b3, b4, b5⟩ := hbx.cells; have f5 := Lib.frozen_of_heap hbx 5; clear hb4 hr4 hbx)))
          try simp only [Exit.inBlock, Exit.then]
          go_ret
          have hxw : w.heap.size ≤ xb := HXS.out
          have hbb := HB04.out.setCell (p := ⟨xb, 5, none⟩) hxw (.slice o6 (moveL P qa qf qn qt tt).length c6)
          exact ⟨ret_int HTV.out.symm, by rw [HTL.out]; exact H.out.grow hbb, Only.of_below hbb⟩
      · obtain rfl : k = ms.length := by omega
        have HFIN : Hid (mvsP x.p ms tt = (P, 0)) := Lib.hid (by rw [HMV.out, List.drop_length, mvsP])
        have HTV : Hid (tmovE L i ms tt = 0) := Lib.hid (by rw [HTE.out, HFIN.out]; rfl)
        have HTL : Hid (tmovL L i ms tt = upd L { x with p := P }) := Lib.hid (by unfold tmovL; rw [HF.out]; simp only; rw [if_pos HTV.out, HFIN.out])
        have HX : Hid (IGood { x with p := P } ∧ find L ({ x with p := P } : Ino).i = some x) := Lib.hid ⟨mvs_step HG.out HGP.out HEND.out HK.out, by rw [← HF.out]; exact congrArg (find L) (find_mem HF.out).2⟩
        obtain ⟨b0, b1, b2, b3, b4, b5⟩ := HIBW.out.cells
        go_wp2_with (go_at_call 31; go_loud (refine (keep_is { x with p := P } x false yi yk yl yo ys o5 _ c5 HX.out.2 HX.out.1 _ (H.out.grow HBW.out) HREL.out).mono ?_; rintro e w5 ⟨rfl, h5, ho5⟩; have H5 := Lib.hid h5; have HO5 := Lib.hid ho5; clear h5 ho5))
        go_ret
        exact ⟨ret_int HTV.out.symm, by rw [HTL.out]; exact H5.out, (Only.of_below HBW.out).trans HO5.out⟩
  · have HC := Lib.hid (file_bad i _ hi rfl he w h)
    have HE : Hid (tmovE L i ms tt = fileE L i ∧ tmovL L i ms tt = L) := Lib.hid (by
      have e : tmovE L i ms tt = fileE L i := by rw [tmov_pre, if_neg he]
      exact ⟨e, tmov_no (by rw [e]; exact he)⟩)
    have he2 : (fileE L i == 0) = false := by rw [beq_eq_false_iff_ne]; exact he
    generalize fileE L i = fe at *
    clear h hi he hms hm
    go_enter Try.func27, Try.ntmps27
    go_wp2_with (go_at_call 32; refine HC.out.mono ?_; rintro e w2 ⟨rfl, hb2⟩; have HB2 := Lib.hid hb2; clear hb2)
    go_ret
    exact ⟨ret_int HE.out.1.symm, by rw [HE.out.2]; exact H.out.grow (bstep HB2.out (below_alloc _ _)), Only.of_below (bstep HB2.out (below_alloc _ _))⟩
end Go.Proofs.Ytappgelpigoknaa.InoW
