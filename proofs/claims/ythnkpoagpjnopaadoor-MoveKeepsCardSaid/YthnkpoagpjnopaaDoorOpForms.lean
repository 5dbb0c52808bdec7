/- The forms of the kinds: the closures that op.forms makes. -/
import Derived.Test.YthnkpoagpjnopaaDoorOpKept
namespace Go.Proofs.YthnkpoagpjnopaaDoor.OpW
set_option maxRecDepth 100000
open Go.RowKit OpP
/-- of a size that is gone through -/
def Fit (r : Rec) : Prop := r.p.size ≤ 1000000 ∧ r.t.size ≤ 1000000 ∧ r.d.size ≤ 1000000 ∧ r.m.length ≤ 1000000
theorem path_is (p : ByteArray) (b : Bool) (hb : pathB p = b) (hs : p.size ≤ 1000000) (w : World) :
    Calls Tryd.prog 64 #[.string p] w fun e w' => e = .returned (.bool b) ∧ Below w.heap.size w w' := by
  rw [← hb]; exact PathW.good_any p (by omega) w
theorem rpath_is (p : ByteArray) (b : Bool) (hb : pathB p = b) (hs : p.size ≤ 1000000) (w : World) :
    Calls Tryd.prog 49 #[.string p] w fun e w' => e = .returned (.bool b) ∧ Below w.heap.size w w' := by
  rw [← hb]; exact PathW.rgood_any p hs w
theorem form_one {r : Rec} (h : r.k = 1 ∨ r.k = 2 ∨ r.k = 3 ∨ r.k = 5 ∨ r.k = 8) : formB r = pathB r.p := by
  unfold formB; rcases h with h | h | h | h | h <;> (rw [h]; rfl)
theorem form_both {r : Rec} (h : r.k = 4 ∨ r.k = 6) : formB r = (pathB r.p && pathB r.t) := by
  unfold formB; rcases h with h | h <;> (rw [h]; rfl)
theorem form_cut {r : Rec} (h : r.k = 7) : formB r = (pathB r.p && decide (0 ≤ r.sz ∧ r.sz ≤ 8192)) := by unfold formB; rw [h]; rfl
theorem form_close {r : Rec} (h : r.k = 9) : formB r = decide (0 ≤ r.h ∧ r.h ≤ 16383) := by unfold formB; rw [h]; rfl
theorem form_write {r : Rec} (h : r.k = 10) : formB r = decide (0 ≤ r.h ∧ r.h ≤ 16383 ∧ 0 ≤ r.o ∧ r.o ≤ 8192 ∧ 1 ≤ r.d.size ∧ r.d.size ≤ 1024) := by unfold formB; rw [h]; rfl
theorem form_tick {r : Rec} (h : r.k = 11 ∨ r.k = 12) : formB r = decide (0 ≤ r.tk ∧ r.tk ≤ 1099511627776) := by
  unfold formB; rcases h with h | h <;> (rw [h]; rfl)
theorem form_move {r : Rec} (h : r.k = 13) : formB r = (decide (1 ≤ r.i ∧ r.i ≤ 2147483647 ∧ 1 ≤ r.m.length ∧ r.m.length ≤ 16 ∧ r.d.size ≤ 1024) && r.m.all (mvB r.d.size)) := by unfold formB; rw [h]; rfl
theorem form_image {r : Rec} (h : r.k = 14) : formB r = decide (1 ≤ r.d.size ∧ r.d.size ≤ 1024 ∧ 1 ≤ r.sz ∧ r.sz ≤ 65536 ∧ 0 ≤ r.o ∧ r.o + r.d.size ≤ r.sz) := by unfold formB; rw [h]; rfl
def FormPost (r : Rec) (w : World) (e : Ending) (w' : World) : Prop := e = .returned (.bool (formB r)) ∧ Below w.heap.size w w'
theorem one_any (r : Rec) (hr : Fit r) (v : Value) (w : World) :
    Calls Tryd.prog 63 #[.agg #[.int .i64 r.cl, .int .i64 r.sq, .int .i64 r.k, .string r.p, .string r.t, .int .i64 r.sz, .int .i64 r.h, .int .i64 r.o, .string r.d, .int .i64 r.tk, .int .i64 r.i, v]] w fun e w' => e = .returned (.bool (pathB r.p)) ∧ Below w.heap.size w w' := by
  have h1 := hr.1
  have h0 := below_alloc w (.cells #[.int .i64 r.cl, .int .i64 r.sq, .int .i64 r.k, .string r.p, .string r.t, .int .i64 r.sz, .int .i64 r.h, .int .i64 r.o, .string r.d, .int .i64 r.tk, .int .i64 r.i, v] 34)
  have H0 := Lib.hid h0
  clear h0
  go_enter Tryd.func63, Tryd.ntmps63
  go_wp2_with (go_at_call 64; refine (path_is _ _ rfl h1 _).mono ?_; rintro e w1 ⟨rfl, hb1⟩; have HB1 := Lib.hid hb1; clear hb1)
  go_ret
  exact ⟨rfl, bstep H0.out HB1.out⟩
theorem one_k (r : Rec) (h : r.k = 1 ∨ r.k = 2 ∨ r.k = 3 ∨ r.k = 5 ∨ r.k = 8) (hr : Fit r) (v : Value) (w : World) : Calls Tryd.prog 63 #[.agg #[.int .i64 r.cl, .int .i64 r.sq, .int .i64 r.k, .string r.p, .string r.t, .int .i64 r.sz, .int .i64 r.h, .int .i64 r.o, .string r.d, .int .i64 r.tk, .int .i64 r.i, v]] w (FormPost r w) := by
  unfold FormPost; rw [form_one h]; exact one_any r hr v w
theorem both_k (r : Rec) (h : r.k = 4 ∨ r.k = 6) (hr : Fit r) (v : Value) (w : World) : Calls Tryd.prog 65 #[.agg #[.int .i64 r.cl, .int .i64 r.sq, .int .i64 r.k, .string r.p, .string r.t, .int .i64 r.sz, .int .i64 r.h, .int .i64 r.o, .string r.d, .int .i64 r.tk, .int .i64 r.i, v]] w (FormPost r w) := by
  have h1 := hr.1
  have h2 := hr.2.1
  have HF := Lib.hid (form_both h)
  have H0 := Lib.hid (below_alloc w (.cells #[.int .i64 r.cl, .int .i64 r.sq, .int .i64 r.k, .string r.p, .string r.t, .int .i64 r.sz, .int .i64 r.h, .int .i64 r.o, .string r.d, .int .i64 r.tk, .int .i64 r.i, v] 34))
  clear h
  cases ha : pathB r.p with
  | false =>
    have HA := Lib.hid ha
    clear ha
    go_enter Tryd.func65, Tryd.ntmps65
    go_wp2_with (go_at_call 64; refine (path_is _ false HA.out h1 _).mono ?_; rintro e w1 ⟨rfl, hb1⟩; have HB1 := Lib.hid hb1; clear hb1)
    go_ret
    exact ⟨ret_bool (by rw [HF.out, HA.out]; rfl), bstep H0.out HB1.out⟩
  | true =>
    have HA := Lib.hid ha
    clear ha
    go_enter Tryd.func65, Tryd.ntmps65
    go_wp2_with (first
      | (have hz := HB1.out; clear hz; go_at_call 64; refine (path_is _ _ rfl h2 _).mono ?_; rintro e w2 ⟨rfl, hb2⟩; have HB2 := Lib.hid hb2; clear hb2)
      | (go_at_call 64; refine (path_is _ true HA.out h1 _).mono ?_; rintro e w1 ⟨rfl, hb1⟩; have HB1 := Lib.hid hb1; have hbx : OBox w1 w.heap.size r v := (hb1.block _ (by simp)).trans (heap_alloc_new w _); obtain ⟨b0, b1, b2, b3, b4, b5, b6, b7, b8, b9, b10, b11⟩ := hbx.cells; clear hb1 hbx b0 b1 b2 b3 b5 b6 b7 b8 b9 b10 b11))
    go_ret
    exact ⟨ret_bool (by rw [HF.out, HA.out]; rfl), bstep (bstep H0.out HB1.out) HB2.out⟩
theorem tick_k (r : Rec) (h : r.k = 11 ∨ r.k = 12) (v : Value) (w : World) : Calls Tryd.prog 66 #[.agg #[.int .i64 r.cl, .int .i64 r.sq, .int .i64 r.k, .string r.p, .string r.t, .int .i64 r.sz, .int .i64 r.h, .int .i64 r.o, .string r.d, .int .i64 r.tk, .int .i64 r.i, v]] w (FormPost r w) := by
  have HF := Lib.hid (form_tick h)
  have H0 := Lib.hid (below_alloc w (.cells #[.int .i64 r.cl, .int .i64 r.sq, .int .i64 r.k, .string r.p, .string r.t, .int .i64 r.sz, .int .i64 r.h, .int .i64 r.o, .string r.d, .int .i64 r.tk, .int .i64 r.i, v] 34))
  clear h
  go_enter Tryd.func66, Tryd.ntmps66
  go_wp2_with fail
  all_goals go_ret
  all_goals refine ⟨ret_bool ?_, H0.out⟩
  all_goals rw [HF.out, Bool.eq_iff_iff]
  all_goals simp
  all_goals omega
theorem cut_k (r : Rec) (h : r.k = 7) (hr : Fit r) (v : Value) (b : Nat) (w : World) (hc : w.cell? ⟨b, 0, none⟩ = some (.func (.func 63) #[] #[])) :
    Calls Tryd.prog 67 #[.agg #[.int .i64 r.cl, .int .i64 r.sq, .int .i64 r.k, .string r.p, .string r.t, .int .i64 r.sz, .int .i64 r.h, .int .i64 r.o, .string r.d, .int .i64 r.tk, .int .i64 r.i, v], .pointer (some ⟨b, 0, none⟩)] w (FormPost r w) := by
  have HF := Lib.hid (form_cut h)
  have H0 := Lib.hid (below_alloc w (.cells #[.int .i64 r.cl, .int .i64 r.sq, .int .i64 r.k, .string r.p, .string r.t, .int .i64 r.sz, .int .i64 r.h, .int .i64 r.o, .string r.d, .int .i64 r.tk, .int .i64 r.i, v] 34))
  have HR := Lib.hid hr
  have hlt := World.block_lt_of_cell? _ _ hc
  clear h hr
  cases ha : pathB r.p with
  | false =>
    have HA := Lib.hid ha
    clear ha
    go_enter Tryd.func67, Tryd.ntmps67
    go_wp2_with (go_at_call 63; refine (one_any r HR.out v _).mono ?_; rintro e w1 ⟨he, hb1⟩; rw [HA.out] at he; subst he; have HB1 := Lib.hid hb1; clear hb1)
    go_ret
    exact ⟨ret_bool (by rw [HF.out, HA.out]; rfl), bstep H0.out HB1.out⟩
  | true =>
    have HA := Lib.hid ha
    clear ha
    go_enter Tryd.func67, Tryd.ntmps67
    go_wp2_with (first
      | (go_at_call 43; refine (within_any _ _ _ _).mono ?_; rintro e w2 ⟨rfl, rfl⟩)
      | (go_at_call 63; refine (one_any r HR.out v _).mono ?_; rintro e w1 ⟨he, hb1⟩; rw [HA.out] at he; subst he; have HB1 := Lib.hid hb1; have hbx : OBox w1 w.heap.size r v := (hb1.block _ (by simp)).trans (heap_alloc_new w _); obtain ⟨b0, b1, b2, b3, b4, b5, b6, b7, b8, b9, b10, b11⟩ := hbx.cells; clear hb1 hbx b0 b1 b2 b3 b4 b6 b7 b8 b9 b10 b11))
    go_ret
    exact ⟨ret_bool (by rw [HF.out, HA.out]; simp), bstep H0.out HB1.out⟩
theorem close_k (r : Rec) (h : r.k = 9) (v : Value) (w : World) : Calls Tryd.prog 68 #[.agg #[.int .i64 r.cl, .int .i64 r.sq, .int .i64 r.k, .string r.p, .string r.t, .int .i64 r.sz, .int .i64 r.h, .int .i64 r.o, .string r.d, .int .i64 r.tk, .int .i64 r.i, v]] w (FormPost r w) := by
  have HF := Lib.hid (form_close h)
  have H0 := Lib.hid (below_alloc w (.cells #[.int .i64 r.cl, .int .i64 r.sq, .int .i64 r.k, .string r.p, .string r.t, .int .i64 r.sz, .int .i64 r.h, .int .i64 r.o, .string r.d, .int .i64 r.tk, .int .i64 r.i, v] 34))
  clear h
  go_enter Tryd.func68, Tryd.ntmps68
  go_wp2_with (go_at_call 43; refine (within_any _ _ _ _).mono ?_; rintro e w2 ⟨rfl, rfl⟩)
  go_ret
  exact ⟨ret_bool (by rw [HF.out]; simp), H0.out⟩
theorem write_k (r : Rec) (h : r.k = 10) (hr : Fit r) (v : Value) (w : World) : Calls Tryd.prog 69 #[.agg #[.int .i64 r.cl, .int .i64 r.sq, .int .i64 r.k, .string r.p, .string r.t, .int .i64 r.sz, .int .i64 r.h, .int .i64 r.o, .string r.d, .int .i64 r.tk, .int .i64 r.i, v]] w (FormPost r w) := by
  have HF := Lib.hid (form_write h)
  have H0 := Lib.hid (below_alloc w (.cells #[.int .i64 r.cl, .int .i64 r.sq, .int .i64 r.k, .string r.p, .string r.t, .int .i64 r.sz, .int .i64 r.h, .int .i64 r.o, .string r.d, .int .i64 r.tk, .int .i64 r.i, v] 34))
  have h3 := hr.2.2.1
  clear h
  go_enter Tryd.func69, Tryd.ntmps69
  go_wp2_with (go_at_call 43; refine (within_any _ _ _ _).mono ?_; rintro e w2 ⟨rfl, rfl⟩)
  all_goals go_ret
  all_goals refine ⟨ret_bool ?_, H0.out⟩
  all_goals rw [HF.out, Bool.eq_iff_iff]
  all_goals simp
  all_goals omega
theorem image_k (r : Rec) (h : r.k = 14) (hr : Fit r) (v : Value) (w : World) : Calls Tryd.prog 73 #[.agg #[.int .i64 r.cl, .int .i64 r.sq, .int .i64 r.k, .string r.p, .string r.t, .int .i64 r.sz, .int .i64 r.h, .int .i64 r.o, .string r.d, .int .i64 r.tk, .int .i64 r.i, v]] w (FormPost r w) := by
  have HF := Lib.hid (form_image h)
  have H0 := Lib.hid (below_alloc w (.cells #[.int .i64 r.cl, .int .i64 r.sq, .int .i64 r.k, .string r.p, .string r.t, .int .i64 r.sz, .int .i64 r.h, .int .i64 r.o, .string r.d, .int .i64 r.tk, .int .i64 r.i, v] 34))
  have h3 := hr.2.2.1
  clear h
  go_enter Tryd.func73, Tryd.ntmps73
  go_wp2_with (go_at_call 43; refine (within_any _ _ _ _).mono ?_; rintro e w2 ⟨rfl, rfl⟩)
  all_goals go_ret
  all_goals refine ⟨ret_bool ?_, H0.out⟩
  all_goals rw [HF.out, Bool.eq_iff_iff]
  all_goals simp
  all_goals omega
end Go.Proofs.YthnkpoagpjnopaaDoor.OpW
