/- Several texts in one. -/
import Derived.Test.YtaaecdijbkkoiaaInoFile
/- Tables whose rows lie apart from one more block. -/
namespace Go.Proofs.Ytaaecdijbkkoiaa.InoW
set_option maxRecDepth 100000
open Go.RowKit InoP ExtW
/-- as TIs; and no row of parts, where there are any, lies in block ab -/
structure TIsF (w : World) (tb b : Nat) (L : List Ino) (next : Int) (ab : Nat) : Prop where
  head : w.heap[tb]? = some (.cells #[.map (some b), .int .i64 next] 83 (0, 0))
  map : ∃ n g, TmIs w b n g ∧ (∀ i, find L i = none → g i = none) ∧ ∀ i x, find L i = some x → ∃ y, g i = some y ∧ IRel w tb b x y ∧ (x.p ≠ [] → ∀ a, y.oa = some a → a.block ≠ ab)
  good : TGood L next
  ne : ab ≠ tb ∧ ab ≠ b ∧ ab < w.heap.size
variable {w w' : World} {tb b ab : Nat} {L : List Ino} {next : Int}
theorem TIsF.ti (h : TIsF w tb b L next ab) : TIs w tb b L next := by
  obtain ⟨n, g, h1, h2, h3⟩ := h.map
  exact ⟨h.head, ⟨n, g, h1, h2, fun i x hx => by obtain ⟨y, q1, q2, _⟩ := h3 i x hx; exact ⟨y, q1, q2⟩⟩, h.good⟩
theorem TIsF.grow (h : TIsF w tb b L next ab) (k : Below w.heap.size w w') : TIsF w' tb b L next ab := by
  obtain ⟨n, g, h1, h2, h3⟩ := h.map
  exact ⟨(k.block tb h.ti.lt.1).trans h.head, ⟨n, g, MapIs.keep h1 k, h2, fun i x hx => by obtain ⟨y, q1, q2, q3⟩ := h3 i x hx; exact ⟨y, q1, q2.grow k, q3⟩⟩, h.good, ⟨h.ne.1, h.ne.2.1, Nat.lt_of_lt_of_le h.ne.2.2 k.size⟩⟩
/-- a block that was made behind all rows -/
theorem TIs.far (h : TIs w tb b L next) (o : Obj) : TIsF (w.alloc o) tb b L next w.heap.size := by
  have hl := h.lt
  have hg := h.grow (below_alloc w o)
  obtain ⟨n, g, h1, h2, h3⟩ := h.map
  refine ⟨hg.head, ⟨n, g, MapIs.alloc h1 o, h2, fun i x hx => ?_⟩, h.good, ⟨by omega, by omega, by simp⟩⟩
  obtain ⟨y, q1, q2⟩ := h3 i x hx
  refine ⟨y, q1, q2.grow (below_alloc w o), fun hp a ha => ?_⟩
  obtain ⟨z, l, hz⟩ : ∃ z l, x.p = z :: l := by
    cases hq : x.p with
    | nil => exact absurd hq hp
    | cons z l => exact ⟨z, l, rfl⟩
  obtain ⟨a', e, hlt, _⟩ := q2.pts 0 z (by rw [hz]; rfl)
  rw [ha] at e; injection e with e
  rw [e]; omega
/-- what is stored into the block leaves the table alone -/
theorem TIsF.only (h : TIsF w tb b L next ab) (ho : Only ab w w') : TIsF w' tb b L next ab := by
  obtain ⟨n, g, h1, h2, h3⟩ := h.map
  obtain ⟨n1, n2, n3⟩ := h.ne
  refine ⟨ho.heap h.head (by omega), ⟨n, g, MapIs.only h1 ho (by omega), h2, fun i x hx => ?_⟩, h.good, ⟨n1, n2, Nat.lt_of_lt_of_le n3 ho.size⟩⟩
  obtain ⟨y, q1, q2, q3⟩ := h3 i x hx
  refine ⟨y, q1, { q2 with pts := ?_ }, q3⟩
  by_cases hp : x.p = []
  · rw [hp]; exact fun i x h => by simp at h
  · exact (pts_only q2.pts ho (Nat.le_refl _) (q3 hp)).mono ho.size
end Go.Proofs.Ytaaecdijbkkoiaa.InoW

/- Table.keep, apart from one more block. -/
namespace Go.Proofs.Ytaaecdijbkkoiaa.InoW
set_option maxRecDepth 100000
open Go.RowKit InoP ExtW
variable {tb b ab : Nat} {L : List Ino} {next : Int}
set_option maxHeartbeats 1600000 in
theorem keep_far (x x0 : Ino) (y : IV) (hf : find L x.i = some x0) (hg : IGood x) (w : World) (h : TIsF w tb b L next ab) (hr : IRel w tb b x y) (hfar : x.p ≠ [] → ∀ a, y.oa = some a → a.block ≠ ab) :
    Calls Try.prog 37 #[.pointer (some ⟨tb, 0, none⟩), .agg #[.int .i64 y.i, .int .i64 y.k, .int .i64 y.l, .int .i64 y.o, .int .i64 y.s, .slice y.oa y.n y.c], .bool false] w fun e w' => e = .returned (.int .i64 0) ∧ TIsF w' tb b (upd L x) next ab ∧ Only b w w' := by
  have hb1 := below_alloc w (.cells #[.int .i64 y.i, .int .i64 y.k, .int .i64 y.l, .int .i64 y.o, .int .i64 y.s, .slice y.oa y.n y.c] 68)
  have HF1 := Lib.hid (h.grow hb1)
  obtain ⟨n, g, hm, g1, g2⟩ := HF1.out.map
  have OP : Hid (Op _ tb b n g L next) := Lib.hid ⟨hm, g1, fun i z hz => by obtain ⟨u, q1, q2, _⟩ := g2 i z hz; exact ⟨u, q1, q2⟩⟩
  have FAR : Hid (∀ i z, find L i = some z → ∀ u, g i = some u → z.p ≠ [] → ∀ a, u.oa = some a → a.block ≠ ab) := Lib.hid fun i z hz u hu => by
    obtain ⟨u', q1, _, q3⟩ := g2 i z hz
    rw [hu] at q1; injection q1 with q1
    rw [q1]; exact q3
  have h0 := HF1.out.ti.m0.1
  have hnum := h.good.num _ (find_mem hf).1
  have hnx := h.good.next
  have hxi := (find_mem hf).2
  have HI : Hid (iOk y.i) := Lib.hid (iOk_of (by rw [hr.i]; omega))
  have HF := Lib.hid hf
  have HG := Lib.hid hg
  have HR := Lib.hid (hr.grow hb1)
  have HFR := Lib.hid hfar
  have HB1 := Lib.hid hb1
  have HBX : Hid (IBox (w.alloc (.cells #[.int .i64 y.i, .int .i64 y.k, .int .i64 y.l, .int .i64 y.o, .int .i64 y.s, .slice y.oa y.n y.c] 68)) w.heap.size y) := Lib.hid (heap_alloc_new w _)
  obtain ⟨c0, c1, c2, c3, c4, c5⟩ := HBX.out.cells
  clear h hf hg hr hb1 hnum hnx hxi hm g1 g2 hfar
  go_enter Try.func37, Try.ntmps37
  go_wp2_with fail
  generalize w.alloc (.cells #[.int .i64 y.i, .int .i64 y.k, .int .i64 y.l, .int .i64 y.o, .int .i64 y.s, .slice y.oa y.n y.c] 68) = w1 at *
  go_still_tail 7, (by kernel_rfl)
  clear c0 c1 c2 c3 c4 c5
  go_wp2_with (at_mapUpdate; go_loud (refine wpList_map_store _ rfl _ _ _ 81 68 rfl iMK Try.underlying81 b n g (MapIs.drew OP.out.m) (by rfl) y.i y HI.out (by rfl) (by rfl) ?_; intro w5 hm5 ho5 hs5; have HM5 := Lib.hid hm5; have HO5 : Hid (Only b w1 w5) := Lib.hid (only_undrew (w := w1) ho5); clear hm5 ho5 hs5))
  go_ret
  obtain ⟨q1, q2⟩ := op_upd OP.out HF.out HR.out
  have hi := HR.out.i
  refine ⟨rfl, ⟨Only.heap HO5.out HF1.out.head HF1.out.ti.ne, ⟨_, _, HM5.out, ?_, fun i z hz => ?_⟩, HF1.out.good.upd HF.out HG.out, ⟨HF1.out.ne.1, HF1.out.ne.2.1, Nat.lt_of_lt_of_le HF1.out.ne.2.2 HO5.out.size⟩⟩, (Only.of_below HB1.out).trans HO5.out⟩
  · rw [hi]; exact q1
  · rw [hi]
    obtain ⟨u, r1, r2⟩ := q2 i z hz
    refine ⟨u, r1, r2.only HO5.out (.inr rfl), fun hp a ha => ?_⟩
    have e := find_upd L x x0 HF.out
    rw [e] at hz
    by_cases c : i = x.i
    · simp only [if_pos c] at hz r1
      injection hz with hz; injection r1 with r1
      rw [← r1] at ha
      exact HFR.out (by rw [hz]; exact hp) a ha
    · simp only [if_neg c] at hz r1
      exact FAR.out i z hz u r1 hp a ha
end Go.Proofs.Ytaaecdijbkkoiaa.InoW

/- Table.Write, apart from one more block. -/
namespace Go.Proofs.Ytaaecdijbkkoiaa.InoW
set_option maxRecDepth 100000
open Go.RowKit InoP ExtW
variable {tb b ab : Nat} {L : List Ino} {next : Int}
set_option maxHeartbeats 1600000 in
theorem write_far (i off n a : Int) (he : fileE L i = 0) (hm : mayW off n = true) (hW : writeE L i off n a = 0) (w : World) (hF : TIsF w tb b L next ab) :
    Calls Try.prog 22 #[.pointer (some ⟨tb, 0, none⟩), .int .i64 i, .int .i64 off, .int .i64 n, .int .i64 a] w fun e w' => e = .returned (.int .i64 0) ∧ TIsF w' tb b (writeL L i off n a) next ab ∧ Only b w w' := by
  have HF0 := Lib.hid hF
  have h := HF0.out.ti
  clear hF
  obtain ⟨x, yi, yk, yl, yo, ys, oa, m, c, hf, hk, hg, hr, hfile⟩ := file_ok i he w h
  have HC := Lib.hid hfile
  have HR := Lib.hid hr
  have hq := of_decide_eq_true hm
  obtain rfl : m = x.p.length := hr.n
  have hlen := hg.p.1
  have hxs := hg.s
  have hys : ys = x.s := hr.s
  have hw1 : IntKind.i64.wrap (8192 - n) = 8192 - n := IntWalk.i64_in _ (by omega)
  have hw2 : IntKind.i64.wrap (off + n) = off + n := IntWalk.i64_in _ (by omega)
  have hd1 : decide (off < 0) = false := decide_eq_false (by omega)
  have hd2 : decide (n < 1) = false := decide_eq_false (by omega)
  have hd3 : decide (1024 < n) = false := decide_eq_false (by omega)
  have hd4 : decide (8192 - n < off) = false := decide_eq_false (by omega)
  have HP : Hid (∀ w', Below w.heap.size w w' → PtsAt w'.heap.size oa x.p w') := Lib.hid fun w' k => hr.pts.grow k
  have HL64 := Lib.hid hlen
  have hpe : putE x.p ⟨off, n, a, 0⟩ = 0 := by
    have hw := hW
    rw [write_pre, if_pos he, if_pos hm, hf] at hw
    exact space_ok.1 hw
  have HE : Hid (writeE L i off n a = 0 ∧ writeL L i off n a = upd L (writeX x off n a)) := Lib.hid (by
    have e : writeE L i off n a = 0 := by rw [write_pre, if_pos he, if_pos hm, hf]; exact space_ok.2 hpe
    exact ⟨e, by unfold writeL; rw [hf]; exact if_pos e⟩)
  have HPA := Lib.hid (put_any oa c x.p ⟨off, n, a, 0⟩ (by omega))
  have HPE := Lib.hid hpe
  have HX : Hid (IGood (writeX x off n a) ∧ find L (writeX x off n a).i = some x) := Lib.hid ⟨writeX_good hg hk hm hpe, by rw [← hf]; exact congrArg (find L) (find_mem hf).2⟩
  obtain ⟨s2, hs2⟩ : ∃ s2, max ys (off + n) = s2 := ⟨_, rfl⟩
  have HS2 : Hid (s2 = (writeX x off n a).s) := Lib.hid (by rw [← hs2, hys]; rfl)
  have hmx : (if ys < off + n then off + n else ys) = s2 := by rw [← hs2]; split <;> omega
  have HLT := Lib.hid h.lt
  clear h hf hk hg hr hfile hm he hpe hlen hxs hys hs2 hW
  go_enter Try.func22, Try.ntmps22
  go_wp2_with (first
    | (go_at_call 38; refine HC.out.mono ?_; rintro e w2 ⟨rfl, hb2⟩; have HB2 := Lib.hid hb2; clear hb2)
    | (go_at_call 39; go_loud (refine (HPA.out _ (HP.out _ (bstep HB2.out (below_alloc w2 _)))).mono ?_; rintro e w4 ⟨v4, rfl, hr4, hb4⟩; have HB4 := Lib.hid (bstep (bstep HB2.out (below_alloc w2 _)) hb4); have HR4 := Lib.hid hr4; obtain ⟨oa4, cap4, rfl, _⟩ := hr4.form; have hbx : IBox w4 w2.heap.size ⟨yi, yk, yl, yo, ys, oa, x.p.length, c⟩ := new_kept hb4; obtain ⟨c0, c1, c2, c3, c4, c5⟩ := hbx.cells; have f4 := Lib.frozen_of_heap hbx 4; have f5 := Lib.frozen_of_heap hbx 5; have HBX := Lib.hid hbx; clear hb4 hr4 hbx; rw [HPE.out]))
    | (go_at_call 37; go_loud (refine (keep_far (writeX x off n a) x ⟨yi, yk, yl, yo, s2, oa4, _, cap4⟩ HX.out.2 HX.out.1 _ (HF0.out.grow (two_set HB4.out (HB2.out.size) _ _)) (HR.out.setP HR4.out (by have := HB2.out.size; have := HLT.out; simp; omega) (by simp) (two_only _ _ _ _) rfl HS2.out) (fun _ ad had => by have := ((row_base HR4.out).1 ad had).1; have := HB2.out.size; have := HF0.out.ne.2.2; simp at *; omega)).mono ?_; rintro e w5 ⟨rfl, h5, ho5⟩; have H5 := Lib.hid h5; have HO5 := Lib.hid ho5; clear h5 ho5)))
  go_ret
  exact ⟨rfl, by rw [HE.out.2]; exact H5.out, (Only.of_below (two_set HB4.out (HB2.out.size) _ _)).trans HO5.out⟩
end Go.Proofs.Ytaaecdijbkkoiaa.InoW
