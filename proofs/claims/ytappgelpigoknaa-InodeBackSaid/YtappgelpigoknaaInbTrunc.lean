/- The table of inodes: Truncate, Parts, Opens. -/
import Derived.Test.YtappgelpigoknaaInbFile
namespace Go.Proofs.Ytappgelpigoknaa.InoW
set_option maxRecDepth 100000
open Go.RowKit InoP ExtW
variable {tb b : Nat} {L : List Ino} {next : Int}
theorem trunc_no {i s : Int} (h : truncE L i s ≠ 0) : truncL L i s = L := by
  unfold truncL
  cases hf : find L i with
  | none => rfl
  | some x => exact if_neg h
theorem trunc_pre (i s : Int) : truncE L i s = if fileE L i = 0 then (if s < 0 ∨ 8192 < s then 67 else 0) else fileE L i := by
  unfold truncE fileE
  cases find L i with
  | none => simp
  | some x => by_cases h : x.k = 1 <;> simp [h]
set_option maxHeartbeats 1600000 in
theorem trunc_any (i s : Int) (hi : iOk i) (w : World) (h : TIs w tb b L next) :
    Calls Try.prog 12 #[.pointer (some ⟨tb, 0, none⟩), .int .i64 i, .int .i64 s] w fun e w' => e = .returned (.int .i64 (truncE L i s)) ∧ TIs w' tb b (truncL L i s) next ∧ Only b w w' := by
  have H := Lib.hid h
  by_cases he : fileE L i = 0
  · obtain ⟨x, yi, yk, yl, yo, ys, oa, m, c, hf, hk, hg, hr, hfile⟩ := file_ok i he w h
    have HC := Lib.hid hfile
    have HR := Lib.hid hr
    by_cases hm : s < 0 ∨ 8192 < s
    · have HE : Hid (truncE L i s = 67 ∧ truncL L i s = L) := Lib.hid (by
        have e : truncE L i s = 67 := by rw [trunc_pre, if_pos he, if_pos hm]
        exact ⟨e, trunc_no (by rw [e]; decide)⟩)
      have hcs : s < 0 ∨ (0 ≤ s ∧ 8192 < s) := by omega
      clear h hf hk hg hr hfile hm he hi
      rcases hcs with q1 | ⟨q1, q2⟩
      all_goals
        go_enter Try.func12, Try.ntmps12
        go_wp2_with (go_at_call 32; refine HC.out.mono ?_; rintro e w2 ⟨rfl, hb2⟩; have HB2 := Lib.hid hb2; clear hb2)
        go_ret
        exact ⟨ret_int HE.out.1.symm, by rw [HE.out.2]; exact H.out.grow (bstep HB2.out (below_alloc _ _)), Only.of_below (bstep HB2.out (below_alloc _ _))⟩
    · obtain rfl : m = x.p.length := hr.n
      have hlen := hg.p.1
      have hd1 : decide (s < 0) = false := decide_eq_false (by omega)
      have hd2 : decide (8192 < s) = false := decide_eq_false (by omega)
      have HE : Hid (truncE L i s = 0 ∧ truncL L i s = upd L (truncX x s)) := Lib.hid (by
        have e : truncE L i s = 0 := by rw [trunc_pre, if_pos he, if_neg hm]
        exact ⟨e, by unfold truncL; rw [hf]; exact if_pos e⟩)
      have HP : Hid (∀ w', Below w.heap.size w w' → PtsAt w'.heap.size oa x.p w') := Lib.hid fun w' k => hr.pts.grow k
      have HPA := Lib.hid (cut_any oa c x.p s (by omega) (by omega))
      have HCS : Hid (cutS x.p s = (truncX x s).p) := Lib.hid (if_pos hg.p)
      have HX : Hid (IGood (truncX x s) ∧ find L (truncX x s).i = some x) := Lib.hid ⟨truncX_good hg hk (by omega), by rw [← hf]; exact congrArg (find L) (find_mem hf).2⟩
      have HLT := Lib.hid h.lt
      clear h hf hk hg hr hfile hm he hi hlen
      go_enter Try.func12, Try.ntmps12
      go_wp2_with (first
        | (go_at_call 32; refine HC.out.mono ?_; rintro e w2 ⟨rfl, hb2⟩; have HB2 := Lib.hid hb2; clear hb2)
        | (go_at_call 35; go_loud (refine (HPA.out _ (HP.out _ (bstep HB2.out (below_alloc w2 _)))).mono ?_; rintro e w4 ⟨v4, rfl, hr4, hb4⟩; have HB4 := Lib.hid (bstep (bstep HB2.out (below_alloc w2 _)) hb4); have HR4 := Lib.hid hr4; obtain ⟨oa4, cap4, rfl, _⟩ := hr4.form; have hbx : IBox w4 w2.heap.size ⟨yi, yk, yl, yo, ys, oa, x.p.length, c⟩ := new_kept hb4; obtain ⟨c0, c1, c2, c3, c4, c5⟩ := hbx.cells; have f4 := Lib.frozen_of_heap hbx 4; have f5 := Lib.frozen_of_heap hbx 5; clear hb4 hr4 hbx))
        | (go_at_call 31; go_loud (refine (keep_is (truncX x s) x false yi yk yl yo s oa4 _ cap4 HX.out.2 HX.out.1 _ (H.out.grow (two_set HB4.out (HB2.out.size) _ _)) (HR.out.setP HR4.out (by have := HB2.out.size; have := HLT.out; simp; omega) (by simp) (two_only _ _ _ _) (by rw [HCS.out]; rfl) rfl)).mono ?_; rintro e w5 ⟨rfl, h5, ho5⟩; have H5 := Lib.hid h5; have HO5 := Lib.hid ho5; clear h5 ho5)))
      go_ret
      exact ⟨ret_int HE.out.1.symm, by rw [HE.out.2]; exact H5.out, (Only.of_below (two_set HB4.out (HB2.out.size) _ _)).trans HO5.out⟩
  · have HC := Lib.hid (file_bad i _ hi rfl he w h)
    have HE : Hid (truncE L i s = fileE L i ∧ truncL L i s = L) := Lib.hid (by
      have e : truncE L i s = fileE L i := by rw [trunc_pre, if_neg he]
      exact ⟨e, trunc_no (by rw [e]; exact he)⟩)
    have he2 : (fileE L i == 0) = false := by rw [beq_eq_false_iff_ne]; exact he
    generalize fileE L i = fe at *
    clear h hi he
    go_enter Try.func12, Try.ntmps12
    go_wp2_with (go_at_call 32; refine HC.out.mono ?_; rintro e w2 ⟨rfl, hb2⟩; have HB2 := Lib.hid hb2; clear hb2)
    go_ret
    exact ⟨ret_int HE.out.1.symm, by rw [HE.out.2]; exact H.out.grow (bstep HB2.out (below_alloc _ _)), Only.of_below (bstep HB2.out (below_alloc _ _))⟩
set_option maxHeartbeats 800000 in
theorem clone_any (oa : Option Addr) (cap n : Nat) (l : List Pt) (hn0 : n = l.length) (hl : l.length ≤ 1000000) (hn : oa = none → n = 0 ∧ cap = 0) (w : World) (h : PtsAt w.heap.size oa l w) :
    Calls Try.prog 36 #[.slice oa n cap] w fun e w' => ∃ oa' cap', e = .returned (.slice oa' l.length cap') ∧ Row w.heap.size w' (.slice oa' l.length cap') l ∧ Below w.heap.size w w' := by
  subst hn0
  obtain ⟨i0, hi, hz0, hz1, hz2⟩ := info_parts partinfo
  have q37 : ∀ (w : World) (a : Option Addr) (n c n' c' : Nat), (binOp .eql 37 (.slice a n c) (.slice none n' c')).run Try.prog w = .ok (.bool a.isNone) w := fun w a n c n' c' => Lib.run_eql_slice_nil w _ _ a n c n' c' Try.underlying37
  have HP := Lib.hid h
  have HNI := Lib.hid hn
  cases oa with
  | none =>
    have hl0 : l.length = 0 := (hn rfl).1
    have HL0 := Lib.hid hl0
    clear h hn hl hl0
    go_enter Try.func36, Try.ntmps36
    go_wp2_with fail
    go_ret
    have hle : l = [] := List.eq_nil_of_length_eq_zero HL0.out
    exact ⟨none, 0, by rw [HL0.out]; rfl, by rw [hle]; exact Row.nil _ _, Below.refl _ _⟩
  | some a =>
    clear h hn
    go_enter Try.func36, Try.ntmps36
    go_wp2_with (at_builtin; go_loud (refine wpList_append_copy rfl _ _ 37 rfl 40 i0 (.agg #[.int .i64 0, .int .i64 0, .int .i64 0, .int .i64 0]) 4 32 Try.underlying37 hi hz0 hz1 hz2 rfl (by decide) (by rfl) (some a) l.length cap (cellsOf l) (by rfl) HNI.out (cells_len l) (pts_news HP.out) (cells_onecell l) (by unfold maxLen; omega) (by omega) ?_; intro oa2 cap2 w2 hown2 hb2; have HR2 := Lib.hid hown2; have HB2 := Lib.hid hb2; clear hown2 hb2))
    go_ret
    exact ⟨oa2, cap2, rfl, HR2.out, HB2.out⟩
/-- the parts that are told -/
def partsL (L : List Ino) (i : Int) : List Pt := ((find L i).map (·.p)).getD []
def opensI (L : List Ino) (i : Int) : Int := ((find L i).map (·.o)).getD 0
set_option maxHeartbeats 800000 in
theorem parts_any (i : Int) (hi : iOk i) (w : World) (h : TIs w tb b L next) :
    Calls Try.prog 13 #[.pointer (some ⟨tb, 0, none⟩), .int .i64 i] w fun e w' => ∃ oa' cap', e = .returned (.slice oa' (partsL L i).length cap') ∧ Row w.heap.size w' (.slice oa' (partsL L i).length cap') (partsL L i) ∧ Below w.heap.size w w' := by
  rcases h.all i with ⟨hf, hget⟩ | ⟨x, yi, yk, yl, yo, ys, oa, n, c, hf, hg, hr, hget⟩
  · have HC := Lib.hid (hget _ (Below.refl _ _) hi)
    have HE : Hid (partsL L i = []) := Lib.hid (by unfold partsL; rw [hf]; rfl)
    clear h hi hf hget
    go_enter Try.func13, Try.ntmps13
    go_wp2_with (first
      | (go_at_call 30; refine HC.out.mono ?_; rintro e w2 ⟨rfl, hb2⟩; have HB2 := Lib.hid hb2; clear hb2)
      | (go_at_call 36; go_loud (refine (clone_any none 0 0 [] rfl (by simp) (fun _ => ⟨rfl, rfl⟩) _ (fun i x hx => by simp at hx)).mono ?_; rintro e w3 ⟨oa3, cap3, rfl, hr3, hb3⟩; have HR3 := Lib.hid hr3; have HB3 := Lib.hid (bstep (bstep HB2.out (below_alloc w2 _)) hb3); have HS2 : Hid (w.heap.size ≤ (w2.alloc (.cells #[.int .i64 0, .int .i64 0, .int .i64 0, .int .i64 0, .int .i64 0, .slice none 0 0] 62)).heap.size) := Lib.hid (bstep HB2.out (below_alloc w2 _)).size; clear hr3 hb3)))
    go_ret
    exact ⟨oa3, cap3, by rw [HE.out]; rfl, by rw [HE.out]; exact HR3.out.mono HS2.out, HB3.out⟩
  · have HC := Lib.hid (hget _ (Below.refl _ _))
    have HE : Hid (partsL L i = x.p) := Lib.hid (by unfold partsL; rw [hf]; rfl)
    obtain rfl : n = x.p.length := hr.n
    have HL : Hid (x.p.length ≤ 64) := Lib.hid hg.p.1
    have HP : Hid (∀ w', Below w.heap.size w w' → PtsAt w'.heap.size oa x.p w') := Lib.hid fun w' k => hr.pts.grow k
    have HNI : Hid (oa = none → x.p.length = 0 ∧ c = 0) := Lib.hid hr.nil
    clear h hi hf hget hg hr
    go_enter Try.func13, Try.ntmps13
    go_wp2_with (first
      | (go_at_call 30; refine HC.out.mono ?_; rintro e w2 ⟨rfl, hb2⟩; have HB2 := Lib.hid hb2; clear hb2)
      | (go_at_call 36; go_loud (refine (clone_any oa c _ x.p rfl (by have := HL.out; omega) HNI.out _ (HP.out _ (bstep HB2.out (below_alloc w2 _)))).mono ?_; rintro e w3 ⟨oa3, cap3, rfl, hr3, hb3⟩; have HR3 := Lib.hid hr3; have HB3 := Lib.hid (bstep (bstep HB2.out (below_alloc w2 _)) hb3); have HS2 := Lib.hid (bstep HB2.out (below_alloc w2 (.cells #[.int .i64 yi, .int .i64 yk, .int .i64 yl, .int .i64 yo, .int .i64 ys, .slice oa x.p.length c] 62))); clear hr3 hb3)))
    go_ret
    exact ⟨oa3, cap3, by rw [HE.out]; rfl, by rw [HE.out]; exact HR3.out.mono HS2.out.size, HB3.out⟩
end Go.Proofs.Ytappgelpigoknaa.InoW
