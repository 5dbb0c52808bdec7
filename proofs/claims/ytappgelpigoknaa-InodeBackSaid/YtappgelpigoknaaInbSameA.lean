/- Several texts in one. -/
import Derived.Test.YtappgelpigoknaaInbList
import Derived.Test.YtappgelpigoknaaInbLoad
import Derived.Test.YtappgelpigoknaaInbAll
import Derived.Test.YtappgelpigoknaaInbOwn
import Derived.Test.YtappgelpigoknaaHeld
/- Lists of inodes that are alike: the document's Same. -/
namespace Go.Proofs.Ytappgelpigoknaa.InoW
set_option maxRecDepth 100000
open Go.RowKit InoP ExtW
set_option maxHeartbeats 1600000 in
theorem psame_any (oa ob : Option Addr) (na nb ca cb : Nat) (l : List Pt) (hna : na = l.length) (hnb : nb = l.length) (hl : l.length ≤ 1000000) (w : World) (h1 : PtsAt w.heap.size oa l w) (h2 : PtsAt w.heap.size ob l w) :
    Calls Try.prog 44 #[.slice oa na ca, .slice ob nb cb] w fun e w' => e = .returned (.bool true) ∧ Below w.heap.size w w' := by
  subst hna; subst hnb
  have HP := Lib.hid h1
  have HQ := Lib.hid h2
  clear h1 h2
  go_enter Try.func44, Try.ntmps44
  go_wp2_with fail
  go_loopw [5] (fun i wr => ∃ k : Nat, k ≤ l.length ∧ i = .int .i64 (k : Int) ∧ Below w.heap.size w wr) (fun i _ => ((l.length : Int) - intOf i).toNat)
  case atStart => exact ⟨0, by omega, rfl, Below.refl _ _⟩
  case round =>
    obtain ⟨k, hk, rfl, hbel⟩ := hrel
    have HB := Lib.hid hbel
    clear hbel
    by_cases hlt : k < l.length
    · obtain ⟨x, hx⟩ : ∃ x, l[k]? = some x := ⟨_, List.getElem?_eq_getElem hlt⟩
      obtain ⟨a, rfl, hab, c0, c1, c2, c3⟩ := (HP.out.below HB.out) k x hx
      obtain ⟨b, rfl, hbb, d0, d1, d2, d3⟩ := (HQ.out.below HB.out) k x hx
      have hk0 : (0 : Int) ≤ (k : Int) := by omega
      have hkl : (k : Int) < (l.length : Int) := by omega
      have z0 : (a.add (k * 4)).block < wr.heap.size := by rw [add_block]; have := HB.out.size; omega
      have z1 : (b.add (k * 4)).block < wr.heap.size := by rw [add_block]; have := HB.out.size; omega
      clear hx
      go_wp2_with fail
      go_region
      all_goals (go_wp2_with fail)
      all_goals exact ⟨⟨k + 1, by omega, by simp, (bstep (bstep HB.out (below_alloc wr _)) (below_alloc _ _)).drew⟩, by simp [intOf]; omega⟩
    · have hk1 : ¬ ((k : Int) < (l.length : Int)) := by omega
      go_wp2_with fail
      go_ret
      exact ⟨rfl, HB.out⟩
set_option maxHeartbeats 6400000 in
theorem rsame_any (oa ob : Option Addr) (na nb ca cb : Nat) (xs : List Ino) (ys zs : List IV) (hna : na = xs.length) (hnb : nb = xs.length) (hl : xs.length ≤ 100000) (hp : ∀ x ∈ xs, x.p.length ≤ 100000) (w : World) (h1 : IList w oa xs ys) (h2 : IList w ob xs zs) :
    Calls Try.prog 23 #[.slice oa na ca, .slice ob nb cb] w fun e w' => e = .returned (.bool true) ∧ Below w.heap.size w w' := by
  subst hna; subst hnb
  have HY := Lib.hid h1
  have HZ := Lib.hid h2
  have HPL := Lib.hid hp
  have hly := h1.read.1
  have hlz := h2.read.1
  clear h1 h2 hp
  go_enter Try.func23, Try.ntmps23
  go_wp2_with fail
  go_loopw [5] (fun i wr => ∃ k : Nat, k ≤ xs.length ∧ i = .int .i64 (k : Int) ∧ Below w.heap.size w wr) (fun i _ => ((xs.length : Int) - intOf i).toNat)
  case atStart => exact ⟨0, by omega, rfl, Below.refl _ _⟩
  case round =>
    obtain ⟨k, hk, rfl, hbel⟩ := hrel
    have HB := Lib.hid hbel
    clear hbel
    by_cases hlt : k < xs.length
    · obtain ⟨x, hx⟩ : ∃ x, xs[k]? = some x := ⟨_, List.getElem?_eq_getElem hlt⟩
      obtain ⟨y, hy⟩ : ∃ y, ys[k]? = some y := ⟨_, List.getElem?_eq_getElem (by omega)⟩
      obtain ⟨z, hz⟩ : ∃ z, zs[k]? = some z := ⟨_, List.getElem?_eq_getElem (by omega)⟩
      have HHY := Lib.hid (HY.out.grow HB.out)
      have HHZ := Lib.hid (HZ.out.grow HB.out)
      have r1 := HHY.out.read.2 k x y hx hy
      have r2 := HHZ.out.read.2 k x z hx hz
      obtain ⟨a, rfl, hab, c0, c1, c2, c3, c4, c5⟩ := iv_at HHY.out.at_ hy
      obtain ⟨b, rfl, hbb, d0, d1, d2, d3, d4, d5⟩ := iv_at HHZ.out.at_ hz
      rw [r1.i] at c0; rw [r1.k] at c1; rw [r1.l] at c2; rw [r1.o] at c3; rw [r1.s] at c4; rw [r1.n] at c5
      rw [r2.i] at d0; rw [r2.k] at d1; rw [r2.l] at d2; rw [r2.o] at d3; rw [r2.s] at d4; rw [r2.n] at d5
      have HP1 := Lib.hid r1.pts
      have HP2 := Lib.hid r2.pts
      have HXP : Hid (x.p.length ≤ 1000000) := Lib.hid (by have := HPL.out x (List.mem_of_getElem? hx); omega)
      obtain ⟨xi, xk, xl, xo, xs', xp⟩ := x
      obtain ⟨yoa, hyoa⟩ : ∃ q, y.oa = q := ⟨_, rfl⟩
      obtain ⟨zoa, hzoa⟩ : ∃ q, z.oa = q := ⟨_, rfl⟩
      obtain ⟨yc, hyc⟩ : ∃ q, y.c = q := ⟨_, rfl⟩
      obtain ⟨zc, hzc⟩ : ∃ q, z.c = q := ⟨_, rfl⟩
      rw [hyoa, hyc] at c5; rw [hzoa, hzc] at d5
      rw [hyoa] at HP1; rw [hzoa] at HP2
      simp only at c0 c1 c2 c3 c4 c5 d0 d1 d2 d3 d4 d5 HP1 HP2 HXP
      have hk0 : (0 : Int) ≤ (k : Int) := by omega
      have hkl : (k : Int) < (xs.length : Int) := by omega
      have z0 : (a.add (k * 6)).block < wr.heap.size := by rw [add_block]; have := HB.out.size; omega
      have z1 : (b.add (k * 6)).block < wr.heap.size := by rw [add_block]; have := HB.out.size; omega
      clear hx hy hz r1 r2 hyoa hzoa hyc hzc
      go_wp2_with fail
      go_region
      all_goals (go_wp2_with (go_at_call 44; go_loud (refine (psame_any _ _ _ _ _ _ xp rfl rfl HXP.out _ (HP1.out.grow (bstep (below_alloc wr _) (below_alloc _ _)).drew) (HP2.out.grow (bstep (below_alloc wr _) (below_alloc _ _)).drew)).mono ?_; rintro e w5 ⟨rfl, hb5⟩; have HB5 := Lib.hid hb5; clear hb5)))
      all_goals exact ⟨⟨k + 1, by omega, by simp, bstep (bstep (bstep HB.out (below_alloc wr _)) (below_alloc _ _)).drew HB5.out⟩, by simp [intOf]; omega⟩
    · have hk1 : ¬ ((k : Int) < (xs.length : Int)) := by omega
      go_wp2_with fail
      go_ret
      exact ⟨rfl, HB.out⟩
end Go.Proofs.Ytappgelpigoknaa.InoW

/- Table.Dump: the inodes of a table, each with a copy of its parts. -/
namespace Go.Proofs.Ytappgelpigoknaa.InoW
set_option maxRecDepth 100000
open Go.RowKit InoP ExtW
def encJ (x : Int) : List Value := [.int .i64 x]
theorem encJ_len (x : Int) : (encJ x).length = 1 := rfl
theorem flat_encJ : ∀ L : List Ino, ((L.map (·.i)).flatMap encJ) = L.map fun x => Value.int .i64 x.i
  | [] => rfl
  | x :: L => by
    have := flat_encJ L
    simp only [List.map_cons, List.flatMap_cons, encJ] at this ⊢
    rw [this]; rfl
theorem ints_row {L : List Ino} {B : Nat} {w : World} {oa : Option Addr} {cap : Nat} (h : w.ownsRow B 3 1 (.slice oa L.length cap) L.length (L.map fun x => Value.int .i64 x.i)) : RowK 3 encJ 1 B w (.slice oa L.length cap) (L.map (·.i)) := by
  unfold RowK
  rw [flat_encJ, List.length_map]; exact h
variable {tb b : Nat} {L : List Ino} {next : Int}
set_option maxHeartbeats 3200000 in
theorem dump_any (W : World) (h : TIs W tb b L next) :
    Calls Try.prog 19 #[.pointer (some ⟨tb, 0, none⟩)] W fun e w' => ∃ oa' cap' zs, e = .returned (.slice oa' L.length cap') ∧ RowI 62 W.heap.size w' (.slice oa' L.length cap') L zs ∧ Below W.heap.size W w' := by
  obtain ⟨i0, hi, hz0, hz1, hz2⟩ := info_parts ino_info
  have HT := Lib.hid h
  have HL := Lib.hid h.good.len
  clear h
  go_enter Try.func19, Try.ntmps19
  go_wp2_with (go_at_call 29; refine (all_any _ HT.out).mono ?_; rintro e w1 ⟨oa, cap, rfl, hown, hnil, hb1⟩; have HROW1 := Lib.hid (ints_row hown); have HB1 := Lib.hid hb1; clear hown hnil hb1)
  go_loopw [3, 10] (fun v i wr => ∃ (k : Nat) (zs : List IV), k ≤ L.length ∧ i = .int .i64 (k : Int) ∧ RowI 62 w1.heap.size wr v (L.take k) zs ∧ Below w1.heap.size w1 wr) (fun _ i _ => (L.length - intOf i).toNat)
  case atStart => exact ⟨0, [], by omega, rfl, RowI.nil _ _ _, Below.refl _ _⟩
  case round =>
    obtain ⟨k, zs, hk, rfl, hrow, hbel⟩ := hrel
    have hl64 := HL.out
    have HB := Lib.hid hbel
    have HZ : Hid (zs.length = k) := Lib.hid (by rw [hrow.read.1, List.length_take]; omega)
    obtain ⟨oz, cz, rfl, hcz, _, _⟩ := hrow.row.form
    have hzk := HZ.out
    rw [hzk] at hrow hcz ⊢
    have HRI := Lib.hid hrow
    have HROW := Lib.hid hrow.row
    clear hbel hrow hzk
    by_cases hlt : k < L.length
    · obtain ⟨x, hx⟩ : ∃ x, L[k]? = some x := ⟨_, List.getElem?_eq_getElem hlt⟩
      have hxm : x ∈ L := List.mem_of_getElem? hx
      have HTX := Lib.hid (take_snocI hx)
      have HTW := Lib.hid (HT.out.grow (bstep HB1.out HB.out))
      obtain ⟨a, rfl, _, hcc⟩ := RowK.pts encJ_len (by omega) (HROW1.out.grow HB.out) k x.i (by rw [List.getElem?_map, hx]; rfl)
      have c6 := hcc 0 _ rfl
      simp only [fieldOf, Nat.mul_one] at c6
      obtain ⟨n, g, o⟩ := HTW.out.op
      obtain ⟨y, hy, hr⟩ := o.yes x.i x (find_of_mem HT.out.good.rises hxm)
      obtain ⟨yi, yk, yl, yo, ys', ya, yn, yc⟩ := y
      obtain rfl : yn = x.p.length := hr.n
      have HR := Lib.hid hr.read
      have HM := Lib.hid o.m
      have HY := Lib.hid hy
      have HI : Hid (iOk x.i) := Lib.hid (iOk_of (by have := HT.out.good.num x hxm; have := HT.out.good.next; omega))
      have HPX : Hid (x.p.length ≤ 64) := Lib.hid (HT.out.good.all x hxm).p.1
      have h0 := HTW.out.m0.1
      have HPB : Hid (PtsAt (wr.alloc (.cells #[.int .i64 yi, .int .i64 yk, .int .i64 yl, .int .i64 yo, .int .i64 ys', .slice ya x.p.length yc] 62)).heap.size ya x.p (wr.alloc (.cells #[.int .i64 yi, .int .i64 yk, .int .i64 yl, .int .i64 yo, .int .i64 ys', .slice ya x.p.length yc] 62))) := Lib.hid (hr.pts.grow (below_alloc wr _))
      clear hx hy hr hxm o hcc
      go_wp2_with (first
        | (at_lookup; go_loud (refine wpList_map_look_some _ rfl _ _ 69 62 false rfl iMK Try.underlying69 _ (ivZero _) b n g HM.out (by rfl) x.i HI.out (by rfl) _ HY.out (.agg #[.int .i64 yi, .int .i64 yk, .int .i64 yl, .int .i64 yo, .int .i64 ys', .slice ya x.p.length yc]) rfl ?_; simp only [Bool.false_eq_true, if_false]))
        | (have hz := HR2.out; clear hz; at_builtin; go_loud (refine wpList_append_newH rfl _ _ 53 rfl w1.heap.size 62 i0 (.agg #[.int .i64 0, .int .i64 0, .int .i64 0, .int .i64 0, .int .i64 0, .slice none 0 0]) 6 64 Try.underlying53 hi hz0 hz1 hz2 rfl (by decide) _ _ _ (by rfl) HOWN6.out _ 1 1 (by rfl) rfl (encI_one ⟨yi, yk, yl, yo, ys', oa2, x.p.length, cap2⟩) (by unfold maxLen; omega) (by omega) (by have := HB.out.size; have := HB6.out.size; omega) (by simp) ?_; intro oa5 cap5 w5 hown5 hbel5 hg5 hv5; have HV5 := Lib.hid hv5; have HS5 := Lib.hid hown5; have HB5 := Lib.hid hbel5; have HG5 := Lib.hid hg5; clear hown5 hbel5 hg5 hv5))
        | (go_at_call 36; go_loud (refine (clone_any ya yc _ x.p rfl (by have := HPX.out; omega) HR.out.nil _ HPB.out).mono ?_; rintro e w2 ⟨oa2, cap2, rfl, hown2, hb2⟩; have HR2 := Lib.hid hown2; have HB2 := Lib.hid hb2; have hbx : IBox w2 wr.heap.size ⟨yi, yk, yl, yo, ys', ya, x.p.length, yc⟩ := new_kept hb2; obtain ⟨b0, b1, b2, b3, b4, b5⟩ := hbx.cells; have f5 := Lib.frozen_of_heap hbx 5; have HOWN6 := Lib.hid (own_after HROW.out HZ.out (bstep (below_alloc wr _) hb2) (.slice oa2 x.p.length cap2)); have HB6 := Lib.hid (set_after (bstep (below_alloc wr (.cells #[.int .i64 yi, .int .i64 yk, .int .i64 yl, .int .i64 yo, .int .i64 ys', .slice ya x.p.length yc] 62)) hb2) (.slice oa2 x.p.length cap2)); clear hown2 hb2 hbx)))
      have hr6 : Row (wr.alloc (.cells #[.int .i64 yi, .int .i64 yk, .int .i64 yl, .int .i64 yo, .int .i64 ys', .slice ya x.p.length yc] 62)).heap.size (w2.setCell ⟨wr.heap.size, 5, none⟩ (.slice oa2 x.p.length cap2)) (.slice oa2 x.p.length cap2) x.p :=
        ((Only.refl wr.heap.size w2).setCell 5 _).keepRow HR2.out (fun e => by
          have hq := (row_base HR2.out).1
          cases oa2 with
          | none => simp [Value.ownBlock] at e
          | some ad => have := (hq ad rfl).1; simp [Value.ownBlock] at e; simp at this; omega)
      have hr0 := HR.out
      have hyr : IRead (w2.setCell ⟨wr.heap.size, 5, none⟩ (.slice oa2 x.p.length cap2)) x ⟨yi, yk, yl, yo, ys', oa2, x.p.length, cap2⟩ := ⟨hr0.i, hr0.k, hr0.l, hr0.o, hr0.s, rfl, hr6.pts, (row_base hr6).2.2⟩
      have hfin := HRI.out.snoc HZ.out HB6.out hyr (fun _ a ha => by have := ((row_base hr6).1 a ha).1; simp at this; omega) rfl HS5.out HG5.out HV5.out
      rw [← HTX.out] at hfin
      exact ⟨⟨k + 1, _, by omega, by simp, hfin, HB.out.trans ((HB6.out.mono HB.out.size).trans HB5.out)⟩, by simp [intOf]; omega⟩
    · obtain rfl : k = L.length := by omega
      rw [List.take_length] at HRI
      go_wp2_with fail
      go_ret
      have := HRI.out
      exact ⟨oz, cz, zs, rfl, ⟨this.row.mono HB1.out.size, this.read, this.far⟩, HB1.out.trans (HB.out.mono HB1.out.size)⟩
end Go.Proofs.Ytappgelpigoknaa.InoW

/- A table and the document's are alike: the statement's own Same. -/
namespace Go.Proofs.Ytappgelpigoknaa.InoW
set_option maxRecDepth 100000
open Go.RowKit InoP ExtW
variable {tb b : Nat} {L : List Ino} {next : Int} {w W : World}
theorem ls_next (h : TIs w tb b L next) (k : Below w.heap.size w W) : Calls Try.prog 22 #[.pointer (some ⟨tb, 0, none⟩)] W fun e w' => e = .returned (.int .i64 next) ∧ Below w.heap.size w w' :=
  (next_any W (h.grow k)).mono fun _ _ ⟨h1, h2⟩ => ⟨h1, h2 ▸ k⟩
theorem ls_dump (h : TIs w tb b L next) (k : Below w.heap.size w W) : Calls Try.prog 19 #[.pointer (some ⟨tb, 0, none⟩)] W fun e w' => ∃ oa' cap' zs, e = .returned (.slice oa' L.length cap') ∧ IList w' oa' L zs ∧ Below w.heap.size w w' :=
  (dump_any W (h.grow k)).mono fun _ _ ⟨oa', cap', zs, h1, h2, h3⟩ => ⟨oa', cap', zs, h1, h2.list, bstep k h3⟩
theorem ls_own (h : TGood L next) {oa : Option Addr} {cap : Nat} {ys : List IV} (hl : IList W oa L ys) (k : Below w.heap.size w W) : Calls Try.prog 24 #[.slice oa L.length cap] W fun e w' => ∃ oa' cap' zs, e = .returned (.slice oa' L.length cap') ∧ IList w' oa' L zs ∧ Below w.heap.size w w' :=
  (own_any oa cap L ys (fun x hx => by have := (h.all x hx).p.1; omega) (by have := h.len; omega) W hl).mono fun _ _ ⟨oa', cap', zs, h1, h2, h3⟩ => ⟨oa', cap', zs, h1, h2.list, bstep k h3⟩
theorem ls_same (h : TGood L next) {oa ob : Option Addr} {ca cb : Nat} {ys zs : List IV} (hl : IList W oa L ys) (hq : IList w ob L zs) (k : Below w.heap.size w W) : Calls Try.prog 23 #[.slice oa L.length ca, .slice ob L.length cb] W fun e w' => e = .returned (.bool true) ∧ Below w.heap.size w w' :=
  (rsame_any oa ob _ _ ca cb L ys zs rfl rfl (by have := h.len; omega) (fun x hx => by have := (h.all x hx).p.1; omega) W hl (hq.grow k)).mono fun _ _ ⟨h1, h3⟩ => ⟨h1, bstep k h3⟩
theorem see2 {c0 c1 : Value} {qb : Nat} (q0 : w.cell? ⟨qb, 0, none⟩ = some c0) (q1 : w.cell? ⟨qb, 1, none⟩ = some c1) (k : Below w.heap.size w W) : (W.cell? ⟨qb, 0, none⟩ = some c0 ∧ W.cell? ⟨qb, 1, none⟩ = some c1) ∧ Below w.heap.size w W :=
  ⟨⟨cell_step k q0, cell_step k q1⟩, k⟩
set_option maxHeartbeats 3200000 in
theorem lsame_any (qb cq : Nat) (oq : Option Addr) (zs : List IV) (w : World) (h : TIs w tb b L next) (hq : IList w oq L zs) (q0 : w.cell? ⟨qb, 0, none⟩ = some (.slice oq L.length cq)) (q1 : w.cell? ⟨qb, 1, none⟩ = some (.int .i64 next)) :
    Calls Try.prog 25 #[.pointer (some ⟨tb, 0, none⟩), .pointer (some ⟨qb, 0, none⟩)] w fun e w' => e = .returned (.bool true) ∧ Below w.heap.size w w' := by
  have HT := Lib.hid h
  have HG := Lib.hid h.good
  have HQ := Lib.hid hq
  have hlen := hq.read.1
  have hk0 : Below w.heap.size w w.drew := (Below.refl _ _).drew
  clear h hq
  go_enter Try.func25, Try.ntmps25
  go_wp2_with fail
  go_region_held3 (fun w' => (w'.cell? ⟨qb, 0, none⟩ = some (.slice oq L.length cq) ∧ w'.cell? ⟨qb, 1, none⟩ = some (.int .i64 next)) ∧ Below w.heap.size w w')
    (first | exact see2 q0 q1 (by assumption))
    (first
      | (have hz := hla; clear hz; go_at_call 24; refine (ls_own HG.out hla (by assumption)).mono ?_; rintro e wb ⟨oa2, ca2, zs2, rfl, hlb, hkb⟩)
      | (have hz := hlb; clear hz; go_at_call 23; refine (ls_same HG.out hlb HQ.out (by assumption)).mono ?_; rintro e wc ⟨rfl, hkc⟩)
      | (go_at_call 19; refine (ls_dump HT.out (by assumption)).mono ?_; rintro e wa ⟨oa1, ca1, zs1, rfl, hla, hka⟩)
      | (go_at_call 22; refine (ls_next HT.out (by assumption)).mono ?_; rintro e wn ⟨rfl, hkn⟩))
  have HKC := Lib.hid hkc
  have HQ0 := Lib.hid q0
  have HQ1 := Lib.hid q1
  have HT2 := Lib.hid (HT.out.grow hkc)
  clear hkc hkn hlb hla hkb hka q0 q1
  go_wp2_with (go_at_call 29; refine (all_any _ HT2.out).mono ?_; rintro e w5 ⟨oa, cap, rfl, hown, hnil, hb5⟩; have HROW := Lib.hid (ints_row hown); have HB5 := Lib.hid (bstep HKC.out hb5); have q0 := cell_step HB5.out HQ0.out; have q1 := cell_step HB5.out HQ1.out; clear hown hnil hb5)
  go_loopw [6] (fun i wr => ∃ k : Nat, k ≤ L.length ∧ i = .int .i64 (k : Int) ∧ Below w5.heap.size w5 wr) (fun i _ => ((L.length : Int) - intOf i).toNat)
  case atStart => exact ⟨0, by omega, rfl, Below.refl _ _⟩
  case round =>
    obtain ⟨k, hk, rfl, hbel⟩ := hrel
    have HB := Lib.hid hbel
    have hl64 := HG.out.len
    clear hbel
    by_cases hlt : k < L.length
    · obtain ⟨x, hx⟩ : ∃ x, L[k]? = some x := ⟨_, List.getElem?_eq_getElem hlt⟩
      obtain ⟨z, hz⟩ : ∃ z, zs[k]? = some z := ⟨_, List.getElem?_eq_getElem (by omega)⟩
      have r1 := HQ.out.read.2 k x z hx hz
      obtain ⟨a, rfl, _, hcc⟩ := RowK.pts encJ_len (by omega) (HROW.out.grow HB.out) k x.i (by rw [List.getElem?_map, hx]; rfl)
      have c0 := hcc 0 _ rfl
      simp only [fieldOf, Nat.mul_one] at c0
      obtain ⟨a2, rfl, _, d0, _⟩ := iv_at (HQ.out.grow (bstep HB5.out HB.out)).at_ hz
      rw [r1.i] at d0
      have p0 := cell_step HB.out q0
      clear hx hz r1 hcc q0 q1
      go_wp2_with fail
      refine held_below (by kernel_rfl) (by kernel_rfl) ?_
      repeat first
        | (refine held_skip ?_ ?_; (· first | rfl | (go_simp; done)); simp only [Act.put, List.setIfInBounds_toArray, List.set_cons_zero, List.set_cons_succ])
        | (refine held_val (v := ?_) ?_ ?_ ?_
           rotate_left
           · first | rfl | (go_simp; done)
           · intro wq hq
             have e0 := cell_step hq c0
             have e1 := cell_step hq d0
             have e2 := cell_step hq p0
             go_simp
             with_reducible rfl
           simp only [Act.put, List.setIfInBounds_toArray, List.set_cons_zero, List.set_cons_succ])
      refine held_nil ?_
      intro w2 hb2
      have HB9 := Lib.hid hb2
      clear hb2
      go_wp2_with fail
      exact ⟨⟨k + 1, by omega, by simp, bstep HB.out HB9.out⟩, by simp [intOf]; omega⟩
    · have hk1 : ¬ ((k : Int) < (L.length : Int)) := by omega
      go_wp2_with fail
      go_ret
      exact ⟨rfl, bstep HB5.out HB.out⟩
end Go.Proofs.Ytappgelpigoknaa.InoW
