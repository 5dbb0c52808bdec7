/- The table of inodes: Stat, Opens, Write, Truncate. -/
import Derived.Test.YtappgelpigoknaaInbMake
import Derived.Test.YtappgelpigoknaaExtEnd
namespace Go.Proofs.Ytappgelpigoknaa.InoW
set_option maxRecDepth 100000
open Go.RowKit InoP ExtW
variable {tb b : Nat} {L : List Ino} {next : Int}
/-- what Stat tells -/
def statX (L : List Ino) (i : Int) : Ino := (find L i).getD ⟨0, 0, 0, 0, 0, []⟩
def statB (L : List Ino) (i : Int) : Bool := (find L i).isSome
theorem statSize : (Try.prog.info? 34).map (·.size) = some 4 := by kernel_rfl
set_option maxHeartbeats 800000 in
theorem stat_any (i : Int) (hi : iOk i) (w : World) (h : TIs w tb b L next) :
    Calls Try.prog 11 #[.pointer (some ⟨tb, 0, none⟩), .int .i64 i] w fun e w' => e = .returned (.tuple #[.agg #[.int .i64 (statX L i).i, .int .i64 (statX L i).k, .int .i64 (statX L i).l, .int .i64 (statX L i).s], .bool (statB L i)]) ∧ Below w.heap.size w w' := by
  have HB0 := Lib.hid (below_alloc w (.cells #[.int .i64 0, .int .i64 0, .int .i64 0, .int .i64 0] 34))
  rcases h.all i with ⟨hf, hget⟩ | ⟨x, yi, yk, yl, yo, ys, oa, n, c, hf, hg, hr, hget⟩
  · have HC := Lib.hid (hget _ HB0.out hi)
    have HE : Hid (statX L i = ⟨0, 0, 0, 0, 0, []⟩ ∧ statB L i = false) := Lib.hid (by unfold statX statB; rw [hf]; exact ⟨rfl, rfl⟩)
    clear h hi hf hget
    go_enter Try.func11, Try.ntmps11
    go_wp2_with (first
      | (go_at_call 30; refine HC.out.mono ?_; rintro e w2 ⟨rfl, hb2⟩; have HB2 := Lib.hid hb2; clear hb2)
      | (refine wpList_store_row rfl 34 (Operand.tmp 4) _ rfl w.heap.size _ rfl rfl 34 _ ((heap_alloc_old _ _ (lt_of_block (new_kept HB2.out))).trans (new_kept HB2.out)) statSize rfl (by simp [Value.oneCell']) ?_))
    try simp only [Exit.inBlock, Exit.then]
    refine ret_row (p := 4) (u := 5) rfl rfl rfl (setRow_heap _ _ _ _ _ _ ((heap_alloc_old _ _ (lt_of_block (new_kept HB2.out))).trans (new_kept HB2.out))) Try.underlying34 rfl statSize ?_
    exact ⟨by rw [HE.out.1, HE.out.2]; rfl, below_setRow (bstep (bstep HB0.out HB2.out) (below_alloc _ _)) (Nat.le_refl _) _⟩
  · have HC := Lib.hid (hget _ HB0.out)
    have HE : Hid (statX L i = x ∧ statB L i = true ∧ yi = x.i ∧ yk = x.k ∧ yl = x.l ∧ ys = x.s) := Lib.hid ⟨by unfold statX; rw [hf]; rfl, by unfold statB; rw [hf]; rfl, hr.i, hr.k, hr.l, hr.s⟩
    clear h hi hf hget hg hr
    go_enter Try.func11, Try.ntmps11
    go_wp2_with (first
      | (go_at_call 30; refine HC.out.mono ?_; rintro e w2 ⟨rfl, hb2⟩; have HB2 := Lib.hid hb2; clear hb2)
      | (refine wpList_store_row rfl 34 (Operand.tmp 4) _ rfl w.heap.size _ rfl rfl 34 _ ((heap_alloc_old _ _ (lt_of_block (new_kept HB2.out))).trans (new_kept HB2.out)) statSize rfl (by simp [Value.oneCell']) ?_))
    try simp only [Exit.inBlock, Exit.then]
    refine ret_row (p := 4) (u := 5) rfl rfl rfl (setRow_heap _ _ _ _ _ _ ((heap_alloc_old _ _ (lt_of_block (new_kept HB2.out))).trans (new_kept HB2.out))) Try.underlying34 rfl statSize ?_
    exact ⟨by rw [HE.out.1, HE.out.2.1, ← HE.out.2.2.1, ← HE.out.2.2.2.1, ← HE.out.2.2.2.2.1, ← HE.out.2.2.2.2.2]; rfl, below_setRow (bstep (bstep HB0.out HB2.out) (below_alloc _ _)) (Nat.le_refl _) _⟩
/-- the error that the checks ahead tell -/
theorem write_pre (i off n a : Int) : writeE L i off n a = if fileE L i = 0 then (if mayW off n then spaceE (putE ((find L i).getD ⟨0, 0, 0, 0, 0, []⟩).p ⟨off, n, a, 0⟩) else 67) else fileE L i := by
  unfold writeE fileE
  cases find L i with
  | none => simp
  | some x => by_cases h : x.k = 1 <;> simp [h]
theorem write_no {i off n a : Int} (h : writeE L i off n a ≠ 0) : writeL L i off n a = L := by
  unfold writeL
  cases hf : find L i with
  | none => rfl
  | some x => exact if_neg h
theorem two_only (w : World) (c : Nat) (u v : Value) : Only c w ((w.setCell ⟨c, 5, none⟩ u).setCell ⟨c, 4, none⟩ v) := ((Only.refl c w).setCell 5 u).setCell 4 v
theorem two_set {w w4 : World} {c : Nat} (h : Below w.heap.size w w4) (hc : w.heap.size ≤ c) (u v : Value) : Below w.heap.size w ((w4.setCell ⟨c, 5, none⟩ u).setCell ⟨c, 4, none⟩ v) :=
  (h.setCell (p := ⟨c, 5, none⟩) hc u).setCell (p := ⟨c, 4, none⟩) hc v
theorem row_base {B : Nat} {w : World} {oa : Option Addr} {n c : Nat} {l : List Pt} (h : Row B w (.slice oa n c) l) : (∀ a, oa = some a → B ≤ a.block ∧ a.block < w.heap.size) ∧ n = l.length ∧ (oa = none → n = 0 ∧ c = 0) := by
  rcases h.2 with ⟨e, h0⟩ | ⟨g, cap', cur, e, h1, h2, h3, h4, h5, h6⟩
  · simp only [Value.slice.injEq] at e
    obtain ⟨rfl, rfl, rfl⟩ := e
    exact ⟨fun a h => by simp at h, h0.symm, fun _ => ⟨rfl, rfl⟩⟩
  · simp only [Value.slice.injEq] at e
    obtain ⟨rfl, rfl, rfl⟩ := e
    refine ⟨fun a h => ?_, rfl, fun h => by simp at h⟩
    injection h with h
    subst h
    exact ⟨h1, lt_of_block h2⟩
theorem IRel.setP {B c' : Nat} {w w4 w5 : World} {x x' : Ino} {yi yk yl yo ys s2 : Int} {oa oa4 : Option Addr} {n c m cap : Nat} {p' : List Pt} (h : IRel w tb b x ⟨yi, yk, yl, yo, ys, oa, n, c⟩) (hr : Row B w4 (.slice oa4 m cap) p') (hB : tb < B ∧ b < B) (hc : c' < B) (ho : Only c' w4 w5)
    (hx : x' = { x with p := p', s := x'.s }) (hs : s2 = x'.s) : IRel w5 tb b x' ⟨yi, yk, yl, yo, s2, oa4, m, cap⟩ := by
  obtain ⟨r1, r2, r3⟩ := row_base hr
  have hp : x'.p = p' := by rw [hx]
  refine { i := by rw [hx]; exact h.i, k := by rw [hx]; exact h.k, l := by rw [hx]; exact h.l, o := by rw [hx]; exact h.o, s := hs, n := by rw [hp]; exact r2, pts := ?_, far := fun a ha => ?_, nil := r3, ty := fun a ha => ?_ }
  · rw [hp]
    exact (pts_only hr.pts ho (Nat.le_refl _) fun a ha => by have := r1 a ha; omega).mono ho.size
  · have := r1 a ha; omega
  · exact (PartB.row hr a ha).only ho (by have := r1 a ha; omega)
set_option maxHeartbeats 1600000 in
theorem write_any (i off n a : Int) (hi : iOk i) (w : World) (h : TIs w tb b L next) :
    Calls Try.prog 10 #[.pointer (some ⟨tb, 0, none⟩), .int .i64 i, .int .i64 off, .int .i64 n, .int .i64 a] w fun e w' => e = .returned (.int .i64 (writeE L i off n a)) ∧ TIs w' tb b (writeL L i off n a) next ∧ Only b w w' := by
  have H := Lib.hid h
  by_cases he : fileE L i = 0
  · obtain ⟨x, yi, yk, yl, yo, ys, oa, m, c, hf, hk, hg, hr, hfile⟩ := file_ok i he w h
    have HC := Lib.hid hfile
    have HR := Lib.hid hr
    by_cases hm : mayW off n = true
    · have hq := of_decide_eq_true hm
      obtain rfl : m = x.p.length := hr.n
      have hlen := hg.p.1
      have hxs := hg.s
      have hys : ys = x.s := hr.s
      have hw1 : IntKind.i64.wrap (8192 - n) = 8192 - n := IntWalk.i64_in _ (by omega)
      have hw2 : IntKind.i64.wrap (off + n) = off + n := IntWalk.i64_in _ (by omega)
      have hd1 : decide (off < 0) = false := decide_eq_false (by omega)
      have hd2 : decide (n < 1) = false := decide_eq_false (by omega)
      have hd3 : decide (1024 < n) = false := decide_eq_false (by omega)
      have hd4 : decide (8192 - n < off) = false := decide_eq_false (by omega)
      have HP : Hid (∀ w', Below w.heap.size w w' → PtsAt w'.heap.size oa x.p w') := Lib.hid fun w' k => hr.pts.grow k
      have HL64 := Lib.hid hlen
      by_cases hpe : putE x.p ⟨off, n, a, 0⟩ = 0
      · have HE : Hid (writeE L i off n a = 0 ∧ writeL L i off n a = upd L (writeX x off n a)) := Lib.hid (by
          have e : writeE L i off n a = 0 := by rw [write_pre, if_pos he, if_pos hm, hf]; exact space_ok.2 hpe
          exact ⟨e, by unfold writeL; rw [hf]; exact if_pos e⟩)
        have HPA := Lib.hid (put_any oa c x.p ⟨off, n, a, 0⟩ (by omega))
        have HPE := Lib.hid hpe
        have HX : Hid (IGood (writeX x off n a) ∧ find L (writeX x off n a).i = some x) := Lib.hid ⟨writeX_good hg hk hm hpe, by rw [← hf]; exact congrArg (find L) (find_mem hf).2⟩
        obtain ⟨s2, hs2⟩ : ∃ s2, max ys (off + n) = s2 := ⟨_, rfl⟩
        have HS2 : Hid (s2 = (writeX x off n a).s) := Lib.hid (by rw [← hs2, hys]; rfl)
        have hmx : (if ys < off + n then off + n else ys) = s2 := by rw [← hs2]; split <;> omega
        have HLT := Lib.hid h.lt
        clear h hf hk hg hr hfile hm he hi hpe hlen hxs hys hs2
        go_enter Try.func10, Try.ntmps10
        go_wp2_with (first
          | (go_at_call 32; refine HC.out.mono ?_; rintro e w2 ⟨rfl, hb2⟩; have HB2 := Lib.hid hb2; clear hb2)
          | (go_at_call 33; go_loud (refine (HPA.out _ (HP.out _ (bstep HB2.out (below_alloc w2 _)))).mono ?_; rintro e w4 ⟨v4, rfl, hr4, hb4⟩; have HB4 := Lib.hid (bstep (bstep HB2.out (below_alloc w2 _)) hb4); have HR4 := Lib.hid hr4; obtain ⟨oa4, cap4, rfl, _⟩ := hr4.form; have hbx : IBox w4 w2.heap.size ⟨yi, yk, yl, yo, ys, oa, x.p.length, c⟩ := new_kept hb4; obtain ⟨c0, c1, c2, c3, c4, c5⟩ := hbx.cells; have f4 := Lib.frozen_of_heap hbx 4; have f5 := Lib.frozen_of_heap hbx 5; have HBX := Lib.hid hbx; clear hb4 hr4 hbx; rw [HPE.out]))
          | (go_at_call 31; go_loud (refine (keep_is (writeX x off n a) x false yi yk yl yo s2 oa4 _ cap4 HX.out.2 HX.out.1 _ (H.out.grow (two_set HB4.out (HB2.out.size) _ _)) (HR.out.setP HR4.out (by have := HB2.out.size; have := HLT.out; simp; omega) (by simp) (two_only _ _ _ _) rfl HS2.out)).mono ?_; rintro e w5 ⟨rfl, h5, ho5⟩; have H5 := Lib.hid h5; have HO5 := Lib.hid ho5; clear h5 ho5)))
        go_ret
        exact ⟨ret_int HE.out.1.symm, by rw [HE.out.2]; exact H5.out, (Only.of_below (two_set HB4.out (HB2.out.size) _ _)).trans HO5.out⟩
      · have HE : Hid (writeE L i off n a = spaceE (putE x.p ⟨off, n, a, 0⟩) ∧ writeL L i off n a = L) := Lib.hid (by
          have e : writeE L i off n a = spaceE (putE x.p ⟨off, n, a, 0⟩) := by rw [write_pre, if_pos he, if_pos hm, hf]; rfl
          exact ⟨e, write_no (by rw [e, Ne, space_ok]; exact hpe)⟩)
        have HPA := Lib.hid (put_any oa c x.p ⟨off, n, a, 0⟩ (by omega))
        have hpe2 : (putE x.p ⟨off, n, a, 0⟩ == 0) = false := by rw [beq_eq_false_iff_ne]; exact hpe
        generalize putE x.p ⟨off, n, a, 0⟩ = pe at *
        clear h hf hk hg hr hfile hm he hi hpe hlen hxs hys
        go_enter Try.func10, Try.ntmps10
        go_wp2_with (first
          | (go_at_call 32; refine HC.out.mono ?_; rintro e w2 ⟨rfl, hb2⟩; have HB2 := Lib.hid hb2; clear hb2)
          | (go_at_call 33; go_loud (refine (HPA.out _ (HP.out _ (bstep HB2.out (below_alloc w2 _)))).mono ?_; rintro e w4 ⟨v4, rfl, hr4, hb4⟩; have HB4 := Lib.hid (bstep (bstep HB2.out (below_alloc w2 _)) hb4); clear hb4 hr4))
          | (go_at_call 34; refine (space_any _ _).mono ?_; rintro e w5 ⟨rfl, rfl⟩))
        go_ret
        exact ⟨ret_int HE.out.1.symm, by rw [HE.out.2]; exact H.out.grow HB4.out, Only.of_below HB4.out⟩
    · have HE : Hid (writeE L i off n a = 67 ∧ writeL L i off n a = L) := Lib.hid (by
        have e : writeE L i off n a = 67 := by rw [write_pre, if_pos he, if_neg hm]
        exact ⟨e, write_no (by rw [e]; decide)⟩)
      have hcs : off < 0 ∨ (0 ≤ off ∧ n < 1) ∨ (0 ≤ off ∧ 1 ≤ n ∧ 1024 < n) ∨ (0 ≤ off ∧ 1 ≤ n ∧ n ≤ 1024 ∧ 8192 - n < off) := by
        have : ¬ (0 ≤ off ∧ 1 ≤ n ∧ n ≤ 1024 ∧ off ≤ 8192 - n) := fun q => hm (decide_eq_true q)
        omega
      clear h hf hk hg hr hfile hm he hi
      rcases hcs with q1 | ⟨q1, q2⟩ | ⟨q1, q2, q3⟩ | ⟨q1, q2, q3, q4⟩
      all_goals
        go_enter Try.func10, Try.ntmps10
        go_wp2_with (go_at_call 32; refine HC.out.mono ?_; rintro e w2 ⟨rfl, hb2⟩; have HB2 := Lib.hid hb2; clear hb2)
        go_ret
        exact ⟨ret_int HE.out.1.symm, by rw [HE.out.2]; exact H.out.grow (bstep HB2.out (below_alloc _ _)), Only.of_below (bstep HB2.out (below_alloc _ _))⟩
  · have HC := Lib.hid (file_bad i _ hi rfl he w h)
    have HE : Hid (writeE L i off n a = fileE L i ∧ writeL L i off n a = L) := Lib.hid (by
      have e : writeE L i off n a = fileE L i := by rw [write_pre, if_neg he]
      exact ⟨e, write_no (by rw [e]; exact he)⟩)
    have he2 : (fileE L i == 0) = false := by rw [beq_eq_false_iff_ne]; exact he
    generalize fileE L i = fe at *
    clear h hi he
    go_enter Try.func10, Try.ntmps10
    go_wp2_with (go_at_call 32; refine HC.out.mono ?_; rintro e w2 ⟨rfl, hb2⟩; have HB2 := Lib.hid hb2; clear hb2)
    go_ret
    exact ⟨ret_int HE.out.1.symm, by rw [HE.out.2]; exact H.out.grow (bstep HB2.out (below_alloc _ _)), Only.of_below (bstep HB2.out (below_alloc _ _))⟩
end Go.Proofs.Ytappgelpigoknaa.InoW
