/- Several texts in one. -/
import Derived.Test.YtlffcilgmockmaaDoorOpWakes
import Derived.Test.YtlffcilgmockmaaDoorOpEnc
import Derived.Test.YtlffcilgmockmaaDoorRows
import Derived.Test.YtlffcilgmockmaaDoorOpKept
import Derived.ProofKit
import Derived.LaidMore
import Derived.OpenShut
import Derived.Stop.Joined
import Derived.Test.YtlffcilgmockmaaDoorOpen
/- OpDecodes: what the program and the reference read from any text. -/
namespace Go.Proofs.YtlffcilgmockmaaDoor.OpW
set_option maxRecDepth 100000
open Go.RowKit OpP PackW
/-- the record that is answered, and the error's number -/
def decO (S : List UInt8) : Rec × Int := match decR (decD limP S) with | some r => (r, 0) | none => (zr, 11)
theorem decO_fit (S : List UInt8) : Fit (decO S).1 := by
  unfold decO
  cases h : decR (decD limP S) with
  | none => exact ⟨by decide, by decide, by decide, by decide⟩
  | some r =>
    have h1 := dec_fit limP limP_b S
    unfold decR at h
    split at h
    · injection h with h; rw [← h]; exact h1
    · cases h
theorem post_is {x : Lim} (hx : x.Ok) (S : List UInt8) {w : World} {e : Ending} {w' : World} (h : DecPost (decD x S) w e w') (r : Rec) (y : Int) (hr : decO S = (r, y)) :
    ∃ (oa : Option Addr) (n c : Nat), e = .returned (.tuple #[.agg #[.int .i64 r.cl, .int .i64 r.sq, .int .i64 r.k, .string r.p, .string r.t, .int .i64 r.sz, .int .i64 r.h, .int .i64 r.o, .string r.d, .int .i64 r.tk, .int .i64 r.i, .slice oa n c], .int .i64 y]) ∧ n = r.m.length ∧ (oa = none → n = 0 ∧ c = 0) ∧ MvAt w' oa r.m ∧ Below w.heap.size w w' := by
  obtain ⟨r1, x1, oa, n, c, he, hn, hc, hm, hb, h⟩ := h
  have h2 : r1 = r ∧ x1 = y := by
    unfold decO at hr
    rw [dec_same limP x limP_ok hx] at hr
    rcases h with ⟨h1, h2⟩ | ⟨h1, h2, h3⟩
    · rw [h1] at hr
      injection hr with e1 e2
      exact ⟨e1, h2.trans e2⟩
    · rw [h1] at hr
      injection hr with e1 e2
      exact ⟨h3.trans e1, h2.trans e2⟩
  obtain ⟨rfl, rfl⟩ := h2
  exact ⟨oa, n, c, he, hn, hc, hm, hb⟩
theorem dec_is (s : ByteArray) (hs : s.size ≤ 100000) (r : Rec) (y : Int) (hr : decO s.data.toList = (r, y)) (w : World) (hf : Fl w) :
    Calls Tryd.prog 16 #[.string s] w fun e w' => ∃ (oa : Option Addr) (n c : Nat), e = .returned (.tuple #[.agg #[.int .i64 r.cl, .int .i64 r.sq, .int .i64 r.k, .string r.p, .string r.t, .int .i64 r.sz, .int .i64 r.h, .int .i64 r.o, .string r.d, .int .i64 r.tk, .int .i64 r.i, .slice oa n c], .int .i64 y]) ∧ n = r.m.length ∧ (oa = none → n = 0 ∧ c = 0) ∧ MvAt w' oa r.m ∧ Below w.heap.size w w' :=
  (dec_any s hs w hf).mono fun _ _ h => post_is limP_ok _ h r y hr
theorem rdec_is (s : ByteArray) (hs : s.size ≤ 100000) (r : Rec) (y : Int) (hr : decO s.data.toList = (r, y)) (w : World) :
    Calls Tryd.prog 17 #[.string s] w fun e w' => ∃ (oa : Option Addr) (n c : Nat), e = .returned (.tuple #[.agg #[.int .i64 r.cl, .int .i64 r.sq, .int .i64 r.k, .string r.p, .string r.t, .int .i64 r.sz, .int .i64 r.h, .int .i64 r.o, .string r.d, .int .i64 r.tk, .int .i64 r.i, .slice oa n c], .int .i64 y]) ∧ n = r.m.length ∧ (oa = none → n = 0 ∧ c = 0) ∧ MvAt w' oa r.m ∧ Below w.heap.size w w' :=
  (rdec_any s hs w).mono fun _ _ h => post_is limQ_ok _ h r y hr
set_option maxHeartbeats 1600000 in
theorem decodes_walk (s : ByteArray) (w : World) (hf : Fl w) : Calls Tryd.prog 4 #[.string s] w fun e w' => e = .returned (.bool true) ∧ Below w.heap.size w w' := by
  have HF := Lib.hid hf
  clear hf
  by_cases hs : s.size ≤ 20000
  · have hs1 : ¬ (20000 < (s.size : Int)) := by omega
    obtain ⟨r, y, hr⟩ : ∃ r y, decO s.data.toList = (r, y) := ⟨_, _, rfl⟩
    have HR := Lib.hid hr
    have hft := decO_fit s.data.toList
    rw [hr] at hft
    have HT := Lib.hid hft.2.2.2
    clear hr hft
    go_enter Tryd.func4, Tryd.ntmps4
    go_wp2_with fail
    go_at_call 16
    refine (dec_is s (by omega) r y HR.out _ HF.out).mono ?_
    rintro e w1 ⟨oa, n, c, rfl, hn, hc, hm, hb1⟩
    have HN := Lib.hid hn
    have HA := Lib.hid (below_alloc w1 (.cells #[.int .i64 r.cl, .int .i64 r.sq, .int .i64 r.k, .string r.p, .string r.t, .int .i64 r.sz, .int .i64 r.h, .int .i64 r.o, .string r.d, .int .i64 r.tk, .int .i64 r.i, .slice oa n c] 24))
    have HM := Lib.hid (hm.grow HA.out)
    have HB1 := Lib.hid (bstep hb1 HA.out)
    have HBX : Hid (OBox (w1.alloc (.cells #[.int .i64 r.cl, .int .i64 r.sq, .int .i64 r.k, .string r.p, .string r.t, .int .i64 r.sz, .int .i64 r.h, .int .i64 r.o, .string r.d, .int .i64 r.tk, .int .i64 r.i, .slice oa n c] 24)) w1.heap.size r (.slice oa n c)) := Lib.hid (heap_alloc_new w1 _)
    clear hn hc hm hb1
    go_wp2_with fail
    generalize w1.alloc (.cells #[.int .i64 r.cl, .int .i64 r.sq, .int .i64 r.k, .string r.p, .string r.t, .int .i64 r.sz, .int .i64 r.h, .int .i64 r.o, .string r.d, .int .i64 r.tk, .int .i64 r.i, .slice oa n c] 24) = v1 at HM HB1 HBX HA ⊢
    generalize w1.heap.size = b1 at HBX HA ⊢
    clear HA
    go_at_call 17
    refine (rdec_is s (by omega) r y HR.out _).mono ?_
    rintro e w2 ⟨ob, m, d, rfl, hn, hc, hm, hb2⟩
    have HNB := Lib.hid hn
    have HA := Lib.hid (below_alloc w2 (.cells #[.int .i64 r.cl, .int .i64 r.sq, .int .i64 r.k, .string r.p, .string r.t, .int .i64 r.sz, .int .i64 r.h, .int .i64 r.o, .string r.d, .int .i64 r.tk, .int .i64 r.i, .slice ob m d] 24))
    have HMB := Lib.hid (hm.grow HA.out)
    have HB2 := Lib.hid (bstep (bstep HB1.out hb2) HA.out)
    have HBY : Hid (OBox (w2.alloc (.cells #[.int .i64 r.cl, .int .i64 r.sq, .int .i64 r.k, .string r.p, .string r.t, .int .i64 r.sz, .int .i64 r.h, .int .i64 r.o, .string r.d, .int .i64 r.tk, .int .i64 r.i, .slice ob m d] 24)) w2.heap.size r (.slice ob m d)) := Lib.hid (heap_alloc_new w2 _)
    have HBX2 := Lib.hid ((HBX.out.keep hb2).keep HA.out)
    have HM2 := Lib.hid ((HM.out.grow hb2).grow HA.out)
    clear hn hc hm hb2
    obtain ⟨d0, d1, d2, d3, d4, d5, d6, d7, d8, d9, d10, d11⟩ := HBX2.out.cells
    obtain ⟨e0, e1, e2, e3, e4, e5, e6, e7, e8, e9, e10, e11⟩ := HBY.out.cells
    go_wp2_with fail
    clear d0 d1 d2 d3 d4 d5 d6 d7 d8 d9 d10 d11 e0 e1 e2 e3 e4 e5 e6 e7 e8 e9 e10 e11
    go_at_call 15
    refine (keep_is r r true ((sameB_iff _ _).2 rfl) oa ob n m c d HN.out HNB.out HT.out HT.out _ HM2.out HMB.out).mono ?_
    rintro e w3 ⟨rfl, hb3⟩
    have HB3 := Lib.hid (bstep HB2.out hb3)
    clear hb3
    go_wp2_with fail
    go_at_call 9
    refine (wakes_any _ (HF.out.keep HB3.out)).mono ?_
    rintro e w4 ⟨rfl, hb4⟩
    have HB4 := Lib.hid (bstep HB3.out hb4)
    clear hb4
    go_wp2_with fail
    go_ret
    exact ⟨rfl, HB4.out⟩
  · have hs1 : 20000 < (s.size : Int) := by omega
    go_enter Tryd.func4, Tryd.ntmps4
    go_wp2_with (go_at_call 9; refine (wakes_any _ HF.out).mono ?_; rintro e w1 ⟨rfl, hb1⟩; have HB1 := Lib.hid hb1; clear hb1)
    go_ret
    exact ⟨rfl, HB1.out⟩
end Go.Proofs.YtlffcilgmockmaaDoor.OpW

/- OpEncodes: the text of every record. -/
namespace Go.Proofs.YtlffcilgmockmaaDoor.OpW
set_option maxRecDepth 100000
set_option linter.unusedVariables false
open Go.RowKit OpP PackW
theorem small_fit {r : Rec} (h : Small r) : Fit r := by
  unfold Small at h
  unfold Fit
  omega
theorem good_is (r : Rec) (b : Bool) (hb : goodB r = b) (hr : Fit r) (oa : Option Addr) (n c : Nat) (hn : n = r.m.length) (w : World) (hf : Fl w) (hm : MvAt w oa r.m) :
    Calls Tryd.prog 13 #[.agg #[.int .i64 r.cl, .int .i64 r.sq, .int .i64 r.k, .string r.p, .string r.t, .int .i64 r.sz, .int .i64 r.h, .int .i64 r.o, .string r.d, .int .i64 r.tk, .int .i64 r.i, .slice oa n c]] w fun e w' => e = .returned (.bool b) ∧ Below w.heap.size w w' := by
  rw [← hb]; exact good_any r hr oa n c hn w hf hm
theorem rgood_is (r : Rec) (b : Bool) (hb : goodB r = b) (hr : Fit r) (oa : Option Addr) (n c : Nat) (hn : n = r.m.length) (w : World) (hm : MvAt w oa r.m) :
    Calls Tryd.prog 14 #[.agg #[.int .i64 r.cl, .int .i64 r.sq, .int .i64 r.k, .string r.p, .string r.t, .int .i64 r.sz, .int .i64 r.h, .int .i64 r.o, .string r.d, .int .i64 r.tk, .int .i64 r.i, .slice oa n c]] w fun e w' => e = .returned (.bool b) ∧ Below w.heap.size w w' := by
  rw [← hb]; exact rgood_any r hr oa n c hn w hm
set_option maxHeartbeats 3200000 in
theorem encodes_walk (r : Rec) (oa : Option Addr) (n c : Nat) (hn : n = r.m.length) (hc : oa = none → n = 0 ∧ c = 0) (w : World) (hf : Fl w) (hm : MvAt w oa r.m) :
    Calls Tryd.prog 3 #[.agg #[.int .i64 r.cl, .int .i64 r.sq, .int .i64 r.k, .string r.p, .string r.t, .int .i64 r.sz, .int .i64 r.h, .int .i64 r.o, .string r.d, .int .i64 r.tk, .int .i64 r.i, .slice oa n c]] w fun e w' => e = .returned (.bool true) ∧ Below w.heap.size w w' := by
  have HF := Lib.hid hf
  have HN := Lib.hid hn
  have HC := Lib.hid hc
  have H0 := Lib.hid (below_alloc w (.cells #[.int .i64 r.cl, .int .i64 r.sq, .int .i64 r.k, .string r.p, .string r.t, .int .i64 r.sz, .int .i64 r.h, .int .i64 r.o, .string r.d, .int .i64 r.tk, .int .i64 r.i, .slice oa n c] 24))
  have HM0 := Lib.hid (hm.grow H0.out)
  have HBX : Hid (OBox (w.alloc (.cells #[.int .i64 r.cl, .int .i64 r.sq, .int .i64 r.k, .string r.p, .string r.t, .int .i64 r.sz, .int .i64 r.h, .int .i64 r.o, .string r.d, .int .i64 r.tk, .int .i64 r.i, .slice oa n c] 24)) w.heap.size r (.slice oa n c)) := Lib.hid (heap_alloc_new w _)
  clear hf hn hc hm
  cases hl : largeB r with
  | true =>
    have HL := Lib.hid hl
    clear hl
    go_enter Tryd.func3, Tryd.ntmps3
    go_wp2_with (first
      | (go_at_call 8; refine (large_is r oa n c true HL.out HN.out _).mono ?_; rintro e w1 ⟨rfl, hb1⟩; have HB1 := Lib.hid (bstep H0.out hb1); clear hb1)
      | (go_at_call 9; refine (wakes_any _ (HF.out.keep HB1.out)).mono ?_; rintro e w2 ⟨rfl, hb2⟩; have HB2 := Lib.hid (bstep HB1.out hb2); clear hb2))
    go_ret
    exact ⟨rfl, HB2.out⟩
  | false =>
    have HL := Lib.hid hl
    have HR := Lib.hid (small_fit (large_not hl))
    clear hl
    go_enter Tryd.func3, Tryd.ntmps3
    go_wp2_with fail
    generalize w.alloc (.cells #[.int .i64 r.cl, .int .i64 r.sq, .int .i64 r.k, .string r.p, .string r.t, .int .i64 r.sz, .int .i64 r.h, .int .i64 r.o, .string r.d, .int .i64 r.tk, .int .i64 r.i, .slice oa n c] 24) = w0 at H0 HM0 HBX ⊢
    go_at_call 8
    refine (large_is r oa n c false HL.out HN.out _).mono ?_
    rintro e w1 ⟨rfl, hb1⟩
    have HB1 := Lib.hid (bstep H0.out hb1)
    have HBX1 := Lib.hid (HBX.out.keep hb1)
    have HM1 := Lib.hid (HM0.out.grow hb1)
    obtain ⟨d0, d1, d2, d3, d4, d5, d6, d7, d8, d9, d10, d11⟩ := HBX1.out.cells
    clear hb1 HM0 HBX
    go_wp2_with fail
    clear d0 d1 d2 d3 d4 d5 d6 d7 d8 d9 d10 d11
    go_at_call 10
    refine (copy_any r oa n c HN.out HC.out HR.out.2.2.2 _ HM1.out).mono ?_
    rintro e w2 ⟨ob, d, rfl, hc2, hm2, hb2⟩
    have HA := Lib.hid (below_alloc w2 (.cells #[.int .i64 r.cl, .int .i64 r.sq, .int .i64 r.k, .string r.p, .string r.t, .int .i64 r.sz, .int .i64 r.h, .int .i64 r.o, .string r.d, .int .i64 r.tk, .int .i64 r.i, .slice ob r.m.length d] 24))
    have HBY : Hid (OBox (w2.alloc (.cells #[.int .i64 r.cl, .int .i64 r.sq, .int .i64 r.k, .string r.p, .string r.t, .int .i64 r.sz, .int .i64 r.h, .int .i64 r.o, .string r.d, .int .i64 r.tk, .int .i64 r.i, .slice ob r.m.length d] 24)) w2.heap.size r (.slice ob r.m.length d)) := Lib.hid (heap_alloc_new w2 _)
    have HB2 := Lib.hid (bstep (bstep HB1.out hb2) HA.out)
    have HBX2 := Lib.hid ((HBX1.out.keep hb2).keep HA.out)
    have HM2 := Lib.hid ((HM1.out.grow hb2).grow HA.out)
    have HMY := Lib.hid (hm2.grow HA.out)
    obtain ⟨d0, d1, d2, d3, d4, d5, d6, d7, d8, d9, d10, d11⟩ := HBY.out.cells
    clear hc2 hm2 hb2 HBX1 HM1 HA
    go_wp2_with fail
    clear d0 d1 d2 d3 d4 d5 d6 d7 d8 d9 d10 d11
    generalize w2.alloc (.cells #[.int .i64 r.cl, .int .i64 r.sq, .int .i64 r.k, .string r.p, .string r.t, .int .i64 r.sz, .int .i64 r.h, .int .i64 r.o, .string r.d, .int .i64 r.tk, .int .i64 r.i, .slice ob r.m.length d] 24) = v2 at HBY HB2 HBX2 HM2 HMY ⊢
    generalize w2.heap.size = b2 at HBY ⊢
    go_at_call 11
    refine (enc_any r HR.out ob r.m.length d rfl _ (HF.out.keep HB2.out) HMY.out).mono ?_
    rintro e w3 ⟨rfl, hb3⟩
    have HB3 := Lib.hid (bstep HB2.out hb3)
    have HBX3 := Lib.hid (HBX2.out.keep hb3)
    have HBY3 := Lib.hid (HBY.out.keep hb3)
    have HM3 := Lib.hid (HM2.out.grow hb3)
    have HMY3 := Lib.hid (HMY.out.grow hb3)
    obtain ⟨d0, d1, d2, d3, d4, d5, d6, d7, d8, d9, d10, d11⟩ := HBX3.out.cells
    clear hb3 HBX2 HBY HM2 HMY
    go_wp2_with fail
    clear d0 d1 d2 d3 d4 d5 d6 d7 d8 d9 d10 d11
    go_at_call 12
    refine (renc_any r HR.out oa n c HN.out _ HM3.out).mono ?_
    rintro e w4 ⟨rfl, hb4⟩
    have HB4 := Lib.hid (bstep HB3.out hb4)
    have HBX4 := Lib.hid (HBX3.out.keep hb4)
    have HBY4 := Lib.hid (HBY3.out.keep hb4)
    have HM4 := Lib.hid (HM3.out.grow hb4)
    have HMY4 := Lib.hid (HMY3.out.grow hb4)
    clear hb4 HBX3 HBY3 HM3 HMY3 HB1 HB2 HB3
    have HS : Hid (sameB r r = true) := Lib.hid ((sameB_iff _ _).2 rfl)
    have HZ : Hid (r.m.length ≤ 1000000) := Lib.hid HR.out.2.2.2
    go_wp2_with fail
    obtain ⟨x0, x1, x2, x3, x4, x5, x6, x7, x8, x9, x10, x11⟩ := HBX4.out.cells
    obtain ⟨y0, y1, y2, y3, y4, y5, y6, y7, y8, y9, y10, y11⟩ := HBY4.out.cells
    obtain ⟨gb, hgb⟩ : ∃ b, goodB r = b := ⟨_, rfl⟩
    have HG := Lib.hid hgb
    clear hgb
    generalize encS r = es
    generalize encE r = ee
    refine held_below (by kernel_rfl) (by kernel_rfl) ?_
    repeat first
      | (refine held_skip ?_ ?_; (· first | rfl | (go_simp; done)); simp only [Act.put, List.setIfInBounds_toArray, List.set_cons_zero, List.set_cons_succ])
      | (refine held_val (v := ?_) ?_ ?_ ?_
         rotate_left
         · first | rfl | (go_simp; done)
         · intro wq hq
           have g0 := cell_step hq x0
           have g1 := cell_step hq x1
           have g2 := cell_step hq x2
           have g3 := cell_step hq x3
           have g4 := cell_step hq x4
           have g5 := cell_step hq x5
           have g6 := cell_step hq x6
           have g7 := cell_step hq x7
           have g8 := cell_step hq x8
           have g9 := cell_step hq x9
           have g10 := cell_step hq x10
           have g11 := cell_step hq x11
           have h0 := cell_step hq y0
           have h1 := cell_step hq y1
           have h2 := cell_step hq y2
           have h3 := cell_step hq y3
           have h4 := cell_step hq y4
           have h5 := cell_step hq y5
           have h6 := cell_step hq y6
           have h7 := cell_step hq y7
           have h8 := cell_step hq y8
           have h9 := cell_step hq y9
           have h10 := cell_step hq y10
           have h11 := cell_step hq y11
           go_simp
           with_reducible rfl
         simp only [Act.put, List.setIfInBounds_toArray, List.set_cons_zero, List.set_cons_succ])
      | (refine held_call (v := ?_) (f := ?_) (args := ?_) ?_ ?_ ?_ ?_
         rotate_left 3
         · first | rfl | (go_simp; done)
         · intro wq
           go_simp
           constructor
           · rfl
           · rfl
         · intro wq hq
           first
             | (go_at_call 13
                (have hq3 : Below w4.heap.size w4 wq := by first | exact hq | exact ((below_refl w4).drew).trans hq)
                refine (good_is r gb HG.out HR.out ob r.m.length d rfl _ (HF.out.keep (bstep HB4.out hq3)) (HMY4.out.grow hq3)).mono ?_
                rintro e w5 ⟨rfl, hb1⟩
                constructor
                · rfl
                · exact bstep hq hb1)
             | (go_at_call 14
                (have hq3 : Below w4.heap.size w4 wq := by first | exact hq | exact ((below_refl w4).drew).trans hq)
                refine (rgood_is r gb HG.out HR.out oa n c HN.out _ (HM4.out.grow hq3)).mono ?_
                rintro e w5 ⟨rfl, hb1⟩
                constructor
                · rfl
                · exact bstep hq hb1)
             | (go_at_call 15
                (have hq3 : Below w4.heap.size w4 wq := by first | exact hq | exact ((below_refl w4).drew).trans hq)
                refine (keep_is r r true HS.out ob oa r.m.length n d c rfl HN.out HZ.out HZ.out _ (HMY4.out.grow hq3) (HM4.out.grow hq3)).mono ?_
                rintro e w5 ⟨rfl, hb1⟩
                constructor
                · rfl
                · exact bstep hq hb1)
             | (go_at_call 9
                (have hq3 : Below w4.heap.size w4 wq := by first | exact hq | exact ((below_refl w4).drew).trans hq)
                refine (wakes_any _ (HF.out.keep (bstep HB4.out hq3))).mono ?_
                rintro e w5 ⟨rfl, hb1⟩
                constructor
                · rfl
                · exact bstep hq hb1)
         simp only [Act.put, List.setIfInBounds_toArray, List.set_cons_zero, List.set_cons_succ])
    refine held_nil ?_
    intro w2 hb2
    have hq3 : Below w4.heap.size w4 w2 := by first | exact hb2 | exact ((below_refl w4).drew).trans hb2
    have HB5 := Lib.hid (bstep HB4.out hq3)
    clear hq3 hb2
    clear x0 x1 x2 x3 x4 x5 x6 x7 x8 x9 x10 x11 y0 y1 y2 y3 y4 y5 y6 y7 y8 y9 y10 y11
    go_wp2_with fail
    go_ret
    exact ⟨by simp, HB5.out⟩
end Go.Proofs.YtlffcilgmockmaaDoor.OpW

/- OpSames: two records are the same just if their fields are. -/
namespace Go.Proofs.YtlffcilgmockmaaDoor.OpW
set_option maxRecDepth 100000
set_option linter.unusedVariables false
open Go.RowKit OpP PackW
theorem two_cells {v0 wq : World} {ba bb : Nat} {x y : Rec} {ox oy : Option Addr} {nx cx ny cy : Nat} (hx : OBox v0 ba x (.slice ox nx cx)) (hy : OBox v0 bb y (.slice oy ny cy)) (hq : Below v0.heap.size v0 wq) :
    ((wq.cell? ⟨ba, 0, none⟩ = some (.int .i64 x.cl) ∧ wq.cell? ⟨ba, 1, none⟩ = some (.int .i64 x.sq) ∧ wq.cell? ⟨ba, 2, none⟩ = some (.int .i64 x.k) ∧ wq.cell? ⟨ba, 3, none⟩ = some (.string x.p) ∧ wq.cell? ⟨ba, 4, none⟩ = some (.string x.t) ∧ wq.cell? ⟨ba, 5, none⟩ = some (.int .i64 x.sz) ∧ wq.cell? ⟨ba, 6, none⟩ = some (.int .i64 x.h) ∧ wq.cell? ⟨ba, 7, none⟩ = some (.int .i64 x.o) ∧ wq.cell? ⟨ba, 8, none⟩ = some (.string x.d) ∧ wq.cell? ⟨ba, 9, none⟩ = some (.int .i64 x.tk) ∧ wq.cell? ⟨ba, 10, none⟩ = some (.int .i64 x.i) ∧ wq.cell? ⟨ba, 11, none⟩ = some (.slice ox nx cx)) ∧ (wq.cell? ⟨bb, 0, none⟩ = some (.int .i64 y.cl) ∧ wq.cell? ⟨bb, 1, none⟩ = some (.int .i64 y.sq) ∧ wq.cell? ⟨bb, 2, none⟩ = some (.int .i64 y.k) ∧ wq.cell? ⟨bb, 3, none⟩ = some (.string y.p) ∧ wq.cell? ⟨bb, 4, none⟩ = some (.string y.t) ∧ wq.cell? ⟨bb, 5, none⟩ = some (.int .i64 y.sz) ∧ wq.cell? ⟨bb, 6, none⟩ = some (.int .i64 y.h) ∧ wq.cell? ⟨bb, 7, none⟩ = some (.int .i64 y.o) ∧ wq.cell? ⟨bb, 8, none⟩ = some (.string y.d) ∧ wq.cell? ⟨bb, 9, none⟩ = some (.int .i64 y.tk) ∧ wq.cell? ⟨bb, 10, none⟩ = some (.int .i64 y.i) ∧ wq.cell? ⟨bb, 11, none⟩ = some (.slice oy ny cy))) ∧ Below v0.heap.size v0 wq := ⟨⟨(hx.keep hq).cells, (hy.keep hq).cells⟩, hq⟩
theorem sm_same {x y : Rec} {b : Bool} {v0 W : World} {ox oy : Option Addr} {nx cx ny cy : Nat} (hb : sameB x y = b) (hx : nx = x.m.length) (hy : ny = y.m.length) (zx : x.m.length ≤ 1000000) (zy : y.m.length ≤ 1000000) (h1 : MvAt W ox x.m) (h2 : MvAt W oy y.m) (k : Below v0.heap.size v0 W) :
    Calls Tryd.prog 18 #[.agg #[.int .i64 x.cl, .int .i64 x.sq, .int .i64 x.k, .string x.p, .string x.t, .int .i64 x.sz, .int .i64 x.h, .int .i64 x.o, .string x.d, .int .i64 x.tk, .int .i64 x.i, .slice ox nx cx], .agg #[.int .i64 y.cl, .int .i64 y.sq, .int .i64 y.k, .string y.p, .string y.t, .int .i64 y.sz, .int .i64 y.h, .int .i64 y.o, .string y.d, .int .i64 y.tk, .int .i64 y.i, .slice oy ny cy]] W fun e w' => e = .returned (.bool b) ∧ Below v0.heap.size v0 w' :=
  (same_is x y b hb ox oy nx ny cx cy hx hy zx zy W h1 h2).mono fun _ _ h => ⟨h.1, bstep k h.2⟩
theorem sm_keep {x y : Rec} {b : Bool} {v0 W : World} {ox oy : Option Addr} {nx cx ny cy : Nat} (hb : sameB x y = b) (hx : nx = x.m.length) (hy : ny = y.m.length) (zx : x.m.length ≤ 1000000) (zy : y.m.length ≤ 1000000) (h1 : MvAt W ox x.m) (h2 : MvAt W oy y.m) (k : Below v0.heap.size v0 W) :
    Calls Tryd.prog 15 #[.agg #[.int .i64 x.cl, .int .i64 x.sq, .int .i64 x.k, .string x.p, .string x.t, .int .i64 x.sz, .int .i64 x.h, .int .i64 x.o, .string x.d, .int .i64 x.tk, .int .i64 x.i, .slice ox nx cx], .agg #[.int .i64 y.cl, .int .i64 y.sq, .int .i64 y.k, .string y.p, .string y.t, .int .i64 y.sz, .int .i64 y.h, .int .i64 y.o, .string y.d, .int .i64 y.tk, .int .i64 y.i, .slice oy ny cy]] W fun e w' => e = .returned (.bool b) ∧ Below v0.heap.size v0 w' :=
  (keep_is x y b hb ox oy nx ny cx cy hx hy zx zy W h1 h2).mono fun _ _ h => ⟨h.1, bstep k h.2⟩
theorem sm_copy {x : Rec} {v0 W : World} {ox : Option Addr} {nx cx : Nat} (hx : nx = x.m.length) (hc : ox = none → nx = 0 ∧ cx = 0) (zx : x.m.length ≤ 1000000) (h1 : MvAt W ox x.m) (k : Below v0.heap.size v0 W) :
    Calls Tryd.prog 10 #[.agg #[.int .i64 x.cl, .int .i64 x.sq, .int .i64 x.k, .string x.p, .string x.t, .int .i64 x.sz, .int .i64 x.h, .int .i64 x.o, .string x.d, .int .i64 x.tk, .int .i64 x.i, .slice ox nx cx]] W fun e w' => ∃ (oa : Option Addr) (c : Nat), e = .returned (.agg #[.int .i64 x.cl, .int .i64 x.sq, .int .i64 x.k, .string x.p, .string x.t, .int .i64 x.sz, .int .i64 x.h, .int .i64 x.o, .string x.d, .int .i64 x.tk, .int .i64 x.i, .slice oa x.m.length c]) ∧ MvAt w' oa x.m ∧ Below W.heap.size W w' ∧ Below v0.heap.size v0 w' :=
  (copy_any x ox nx cx hx hc zx W h1).mono fun _ _ h => by
    obtain ⟨oa, c, h1, h2, h3, h4⟩ := h
    exact ⟨oa, c, h1, h3, h4, bstep k h4⟩
theorem sm_wakes {v0 W : World} (hf : Fl v0) (k : Below v0.heap.size v0 W) : Calls Tryd.prog 9 #[] W fun e w' => e = .returned (.bool true) ∧ Below v0.heap.size v0 w' :=
  (wakes_any W (hf.keep k)).mono fun _ _ h => ⟨h.1, bstep k h.2⟩
set_option maxHeartbeats 6400000 in
theorem sames_walk (x y : Rec) (ox oy : Option Addr) (nx cx ny cy : Nat) (hx : nx = x.m.length) (hy : ny = y.m.length) (hcx : ox = none → nx = 0 ∧ cx = 0) (hcy : oy = none → ny = 0 ∧ cy = 0) (w : World) (hf : Fl w) (hmx : MvAt w ox x.m) (hmy : MvAt w oy y.m) :
    Calls Tryd.prog 6 #[.agg #[.int .i64 x.cl, .int .i64 x.sq, .int .i64 x.k, .string x.p, .string x.t, .int .i64 x.sz, .int .i64 x.h, .int .i64 x.o, .string x.d, .int .i64 x.tk, .int .i64 x.i, .slice ox nx cx], .agg #[.int .i64 y.cl, .int .i64 y.sq, .int .i64 y.k, .string y.p, .string y.t, .int .i64 y.sz, .int .i64 y.h, .int .i64 y.o, .string y.d, .int .i64 y.tk, .int .i64 y.i, .slice oy ny cy]] w fun e w' => e = .returned (.bool true) ∧ Below w.heap.size w w' := by
  have HF := Lib.hid hf
  have HX := Lib.hid hx
  have HY := Lib.hid hy
  have HCX := Lib.hid hcx
  have HA := Lib.hid (below_alloc w (.cells #[.int .i64 x.cl, .int .i64 x.sq, .int .i64 x.k, .string x.p, .string x.t, .int .i64 x.sz, .int .i64 x.h, .int .i64 x.o, .string x.d, .int .i64 x.tk, .int .i64 x.i, .slice ox nx cx] 24))
  have HA2 := Lib.hid (below_alloc (w.alloc (.cells #[.int .i64 x.cl, .int .i64 x.sq, .int .i64 x.k, .string x.p, .string x.t, .int .i64 x.sz, .int .i64 x.h, .int .i64 x.o, .string x.d, .int .i64 x.tk, .int .i64 x.i, .slice ox nx cx] 24)) (.cells #[.int .i64 y.cl, .int .i64 y.sq, .int .i64 y.k, .string y.p, .string y.t, .int .i64 y.sz, .int .i64 y.h, .int .i64 y.o, .string y.d, .int .i64 y.tk, .int .i64 y.i, .slice oy ny cy] 24))
  have H0 := Lib.hid (bstep HA.out HA2.out)
  have HMX := Lib.hid ((hmx.grow HA.out).grow HA2.out)
  have HMY := Lib.hid ((hmy.grow HA.out).grow HA2.out)
  have hbx : OBox (w.alloc (.cells #[.int .i64 x.cl, .int .i64 x.sq, .int .i64 x.k, .string x.p, .string x.t, .int .i64 x.sz, .int .i64 x.h, .int .i64 x.o, .string x.d, .int .i64 x.tk, .int .i64 x.i, .slice ox nx cx] 24)) w.heap.size x (.slice ox nx cx) := heap_alloc_new w _
  have HBX := Lib.hid (hbx.keep HA2.out)
  have HBY : Hid (OBox ((w.alloc (.cells #[.int .i64 x.cl, .int .i64 x.sq, .int .i64 x.k, .string x.p, .string x.t, .int .i64 x.sz, .int .i64 x.h, .int .i64 x.o, .string x.d, .int .i64 x.tk, .int .i64 x.i, .slice ox nx cx] 24)).alloc (.cells #[.int .i64 y.cl, .int .i64 y.sq, .int .i64 y.k, .string y.p, .string y.t, .int .i64 y.sz, .int .i64 y.h, .int .i64 y.o, .string y.d, .int .i64 y.tk, .int .i64 y.i, .slice oy ny cy] 24)) (w.heap.size + 1) y (.slice oy ny cy)) := Lib.hid (by have hh := heap_alloc_new (w.alloc (.cells #[.int .i64 x.cl, .int .i64 x.sq, .int .i64 x.k, .string x.p, .string x.t, .int .i64 x.sz, .int .i64 x.h, .int .i64 x.o, .string x.d, .int .i64 x.tk, .int .i64 x.i, .slice ox nx cx] 24)) (.cells #[.int .i64 y.cl, .int .i64 y.sq, .int .i64 y.k, .string y.p, .string y.t, .int .i64 y.sz, .int .i64 y.h, .int .i64 y.o, .string y.d, .int .i64 y.tk, .int .i64 y.i, .slice oy ny cy] 24); rw [alloc_size] at hh; exact hh)
  clear hf hx hy hcx hcy hmx hmy hbx HA HA2
  cases hl : largeB x with
  | true =>
    have HL := Lib.hid hl
    clear hl
    go_enter Tryd.func6, Tryd.ntmps6
    go_wp2_with (first
      | (go_at_call 8; refine (large_is x ox nx cx true HL.out HX.out _).mono ?_; rintro e w1 ⟨rfl, hb1⟩; have HB1 := Lib.hid (bstep H0.out hb1); clear hb1)
      | (go_at_call 9; refine (wakes_any _ (HF.out.keep HB1.out)).mono ?_; rintro e w2 ⟨rfl, hb2⟩; have HB2 := Lib.hid (bstep HB1.out hb2); clear hb2))
    go_ret
    exact ⟨rfl, HB2.out⟩
  | false =>
    have HL := Lib.hid hl
    have HR := Lib.hid (small_fit (large_not hl)).2.2.2
    clear hl
    go_enter Tryd.func6, Tryd.ntmps6
    go_wp2_with fail
    generalize ((w.alloc (.cells #[.int .i64 x.cl, .int .i64 x.sq, .int .i64 x.k, .string x.p, .string x.t, .int .i64 x.sz, .int .i64 x.h, .int .i64 x.o, .string x.d, .int .i64 x.tk, .int .i64 x.i, .slice ox nx cx] 24)).alloc (.cells #[.int .i64 y.cl, .int .i64 y.sq, .int .i64 y.k, .string y.p, .string y.t, .int .i64 y.sz, .int .i64 y.h, .int .i64 y.o, .string y.d, .int .i64 y.tk, .int .i64 y.i, .slice oy ny cy] 24)) = w0 at H0 HMX HMY HBX HBY ⊢
    generalize w.heap.size + 1 = bb at HBY ⊢
    obtain ⟨ba, hba⟩ : ∃ b, b = w.heap.size := ⟨_, rfl⟩
    have HBA := Lib.hid hba
    clear hba
    go_at_call 8
    refine (large_is x ox nx cx false HL.out HX.out _).mono ?_
    rintro e v1 ⟨rfl, hb1⟩
    have HB1 := Lib.hid (bstep H0.out hb1)
    have HBX1 := Lib.hid (HBX.out.keep hb1)
    have HBY1 := Lib.hid (HBY.out.keep hb1)
    have HMX1 := Lib.hid (HMX.out.grow hb1)
    have HMY1 := Lib.hid (HMY.out.grow hb1)
    obtain ⟨d0, d1, d2, d3, d4, d5, d6, d7, d8, d9, d10, d11⟩ := HBY1.out.cells
    clear hb1 HMX HMY HBX HBY
    go_wp2_with fail
    clear d0 d1 d2 d3 d4 d5 d6 d7 d8 d9 d10 d11
    cases hl : largeB y with
    | true =>
      have HLY := Lib.hid hl
      clear hl
      go_wp2_with (first
        | (go_at_call 8; refine (large_is y oy ny cy true HLY.out HY.out _).mono ?_; rintro e w1 ⟨rfl, hb1⟩; have HB2 := Lib.hid (bstep HB1.out hb1); clear hb1)
        | (go_at_call 9; refine (wakes_any _ (HF.out.keep HB2.out)).mono ?_; rintro e w2 ⟨rfl, hb2⟩; have HB3 := Lib.hid (bstep HB2.out hb2); clear hb2))
      go_ret
      exact ⟨rfl, HB3.out⟩
    | false =>
      have HLY := Lib.hid hl
      have HRY := Lib.hid (small_fit (large_not hl)).2.2.2
      clear hl
      go_at_call 8
      refine (large_is y oy ny cy false HLY.out HY.out _).mono ?_
      rintro e v0 ⟨rfl, hb1⟩
      have HB2 := Lib.hid (bstep HB1.out hb1)
      have HBX2 := Lib.hid (HBX1.out.keep hb1)
      have HBY2 := Lib.hid (HBY1.out.keep hb1)
      have HMX2 := Lib.hid (HMX1.out.grow hb1)
      have HMY2 := Lib.hid (HMY1.out.grow hb1)
      have HFV := Lib.hid (HF.out.keep HB2.out)
      clear hb1 HMX1 HMY1 HBX1 HBY1 HB1
      go_wp2_with fail
      obtain ⟨sb, hsb⟩ : ∃ b, sameB x y = b := ⟨_, rfl⟩
      have HSB := Lib.hid hsb
      have HSA : Hid (sameB x x = true) := Lib.hid ((sameB_iff _ _).2 rfl)
      clear hsb
      have hk0 : Below v0.heap.size v0 v0.drew := (Below.refl _ _).drew
      go_region_held3 (fun w' => ((w'.cell? ⟨w.heap.size, 0, none⟩ = some (.int .i64 x.cl) ∧ w'.cell? ⟨w.heap.size, 1, none⟩ = some (.int .i64 x.sq) ∧ w'.cell? ⟨w.heap.size, 2, none⟩ = some (.int .i64 x.k) ∧ w'.cell? ⟨w.heap.size, 3, none⟩ = some (.string x.p) ∧ w'.cell? ⟨w.heap.size, 4, none⟩ = some (.string x.t) ∧ w'.cell? ⟨w.heap.size, 5, none⟩ = some (.int .i64 x.sz) ∧ w'.cell? ⟨w.heap.size, 6, none⟩ = some (.int .i64 x.h) ∧ w'.cell? ⟨w.heap.size, 7, none⟩ = some (.int .i64 x.o) ∧ w'.cell? ⟨w.heap.size, 8, none⟩ = some (.string x.d) ∧ w'.cell? ⟨w.heap.size, 9, none⟩ = some (.int .i64 x.tk) ∧ w'.cell? ⟨w.heap.size, 10, none⟩ = some (.int .i64 x.i) ∧ w'.cell? ⟨w.heap.size, 11, none⟩ = some (.slice ox nx cx)) ∧ (w'.cell? ⟨bb, 0, none⟩ = some (.int .i64 y.cl) ∧ w'.cell? ⟨bb, 1, none⟩ = some (.int .i64 y.sq) ∧ w'.cell? ⟨bb, 2, none⟩ = some (.int .i64 y.k) ∧ w'.cell? ⟨bb, 3, none⟩ = some (.string y.p) ∧ w'.cell? ⟨bb, 4, none⟩ = some (.string y.t) ∧ w'.cell? ⟨bb, 5, none⟩ = some (.int .i64 y.sz) ∧ w'.cell? ⟨bb, 6, none⟩ = some (.int .i64 y.h) ∧ w'.cell? ⟨bb, 7, none⟩ = some (.int .i64 y.o) ∧ w'.cell? ⟨bb, 8, none⟩ = some (.string y.d) ∧ w'.cell? ⟨bb, 9, none⟩ = some (.int .i64 y.tk) ∧ w'.cell? ⟨bb, 10, none⟩ = some (.int .i64 y.i) ∧ w'.cell? ⟨bb, 11, none⟩ = some (.slice oy ny cy))) ∧ Below v0.heap.size v0 w')
        (first | exact two_cells HBX2.out HBY2.out (by assumption))
        (first
          | (have hz := hmc; clear hz; go_at_call 18; refine (sm_same HSA.out HX.out rfl HR.out HR.out (HMX2.out.grow (by assumption)) (by first | exact hmc | exact hmc.grow (by assumption)) (by assumption)).mono ?_; rintro e wd ⟨rfl, hkd⟩)
          | (go_at_call 18; refine (sm_same HSB.out HX.out HY.out HR.out HRY.out (HMX2.out.grow (by assumption)) (HMY2.out.grow (by assumption)) (by assumption)).mono ?_; rintro e wa ⟨rfl, hka⟩)
          | (go_at_call 15; refine (sm_keep HSB.out HX.out HY.out HR.out HRY.out (HMX2.out.grow (by assumption)) (HMY2.out.grow (by assumption)) (by assumption)).mono ?_; rintro e wb ⟨rfl, hkb⟩)
          | (go_at_call 10; refine (sm_copy HX.out HCX.out HR.out (HMX2.out.grow (by assumption)) (by assumption)).mono ?_; rintro e wc ⟨oc, cc, rfl, hmc, hkc0, hkc⟩)
          | (go_at_call 9; refine (sm_wakes HFV.out (by assumption)).mono ?_; rintro e we ⟨rfl, hke⟩))
      have HB3 := Lib.hid (bstep HB2.out hke)
      go_wp2_with fail
      go_ret
      exact ⟨rfl, HB3.out⟩
end Go.Proofs.YtlffcilgmockmaaDoor.OpW

/- OpBack: what was encoded is decoded as it was, what was decoded is encoded as it stood. -/
namespace Go.Proofs.YtlffcilgmockmaaDoor.OpW
set_option maxRecDepth 100000
set_option linter.unusedVariables false
open Go.RowKit OpP PackW
theorem decO_good {r : Rec} (h : goodB r = true) : decO (encS r).data.toList = (r, 0) ∧ (encS r).size ≤ 3000 ∧ encE r = 0 := by
  have hd := enc_done h
  have he : (encS r).data.toList = (fds r).flatMap fdB := by unfold encS; rw [h]; simp
  refine ⟨?_, ?_, ?_⟩
  · unfold decO
    rw [he, (dec_iff limP limP_ok _ r).2 ⟨h, rfl⟩]
  · have h1 : (encS r).size = (encS r).data.toList.length := by simp
    rw [h1, he, ← hd.2.2.1]
    exact hd.2.2.2.2
  · unfold encE; rw [h]; rfl
theorem decO_back (s : ByteArray) : (∃ r, decO s.data.toList = (r, 0) ∧ goodB r = true ∧ encS r = s) ∨ decO s.data.toList = (zr, 11) := by
  unfold decO
  cases h : decR (decD limP s.data.toList) with
  | none => exact .inr rfl
  | some r =>
    obtain ⟨h1, h2⟩ := (dec_iff limP limP_ok _ r).1 h
    refine .inl ⟨r, rfl, h1, ?_⟩
    unfold encS
    rw [h1, ← h2]
    rfl
set_option maxHeartbeats 6400000 in
theorem back_walk (r : Rec) (oa : Option Addr) (n c : Nat) (hn : n = r.m.length) (hc : oa = none → n = 0 ∧ c = 0) (s : ByteArray) (w : World) (hf : Fl w) (hm : MvAt w oa r.m) :
    Calls Tryd.prog 5 #[.agg #[.int .i64 r.cl, .int .i64 r.sq, .int .i64 r.k, .string r.p, .string r.t, .int .i64 r.sz, .int .i64 r.h, .int .i64 r.o, .string r.d, .int .i64 r.tk, .int .i64 r.i, .slice oa n c], .string s] w fun e w' => e = .returned (.bool true) ∧ Below w.heap.size w w' := by
  have HF := Lib.hid hf
  have HN := Lib.hid hn
  have HC := Lib.hid hc
  have H0 := Lib.hid (below_alloc w (.cells #[.int .i64 r.cl, .int .i64 r.sq, .int .i64 r.k, .string r.p, .string r.t, .int .i64 r.sz, .int .i64 r.h, .int .i64 r.o, .string r.d, .int .i64 r.tk, .int .i64 r.i, .slice oa n c] 24))
  have HM0 := Lib.hid (hm.grow H0.out)
  have HBX : Hid (OBox (w.alloc (.cells #[.int .i64 r.cl, .int .i64 r.sq, .int .i64 r.k, .string r.p, .string r.t, .int .i64 r.sz, .int .i64 r.h, .int .i64 r.o, .string r.d, .int .i64 r.tk, .int .i64 r.i, .slice oa n c] 24)) w.heap.size r (.slice oa n c)) := Lib.hid (heap_alloc_new w _)
  clear hf hn hc hm
  cases hl : largeB r with
  | true =>
    have HL := Lib.hid hl
    clear hl
    go_enter Tryd.func5, Tryd.ntmps5
    go_wp2_with (first
      | (go_at_call 8; refine (large_is r oa n c true HL.out HN.out _).mono ?_; rintro e w1 ⟨rfl, hb1⟩; have HB1 := Lib.hid (bstep H0.out hb1); clear hb1)
      | (go_at_call 9; refine (wakes_any _ (HF.out.keep HB1.out)).mono ?_; rintro e w2 ⟨rfl, hb2⟩; have HB2 := Lib.hid (bstep HB1.out hb2); clear hb2))
    go_ret
    exact ⟨rfl, HB2.out⟩
  | false =>
  have HL := Lib.hid hl
  have HR := Lib.hid (small_fit (large_not hl))
  clear hl
  by_cases hs : s.size ≤ 20000
  case neg =>
    have hs1 : 20000 < (s.size : Int) := by omega
    go_enter Tryd.func5, Tryd.ntmps5
    go_wp2_with (first
      | (go_at_call 8; refine (large_is r oa n c false HL.out HN.out _).mono ?_; rintro e w1 ⟨rfl, hb1⟩; have HB1 := Lib.hid (bstep H0.out hb1); clear hb1)
      | (go_at_call 9; refine (wakes_any _ (HF.out.keep HB1.out)).mono ?_; rintro e w2 ⟨rfl, hb2⟩; have HB2 := Lib.hid (bstep HB1.out hb2); clear hb2))
    go_ret
    exact ⟨rfl, HB2.out⟩
  have hs1 : ¬ (20000 < (s.size : Int)) := by omega
  have HSZ := Lib.hid hs
  clear hs
  go_enter Tryd.func5, Tryd.ntmps5
  go_wp2_with fail
  generalize w.alloc (.cells #[.int .i64 r.cl, .int .i64 r.sq, .int .i64 r.k, .string r.p, .string r.t, .int .i64 r.sz, .int .i64 r.h, .int .i64 r.o, .string r.d, .int .i64 r.tk, .int .i64 r.i, .slice oa n c] 24) = w0 at H0 HM0 HBX ⊢
  go_at_call 8
  refine (large_is r oa n c false HL.out HN.out _).mono ?_
  rintro e w1 ⟨rfl, hb1⟩
  have HB1 := Lib.hid (bstep H0.out hb1)
  have HBX1 := Lib.hid (HBX.out.keep hb1)
  have HM1 := Lib.hid (HM0.out.grow hb1)
  obtain ⟨d0, d1, d2, d3, d4, d5, d6, d7, d8, d9, d10, d11⟩ := HBX1.out.cells
  clear hb1 HM0 HBX
  go_wp2_with fail
  clear hs1 d0 d1 d2 d3 d4 d5 d6 d7 d8 d9 d10 d11
  go_at_call 10
  refine (copy_any r oa n c HN.out HC.out HR.out.2.2.2 _ HM1.out).mono ?_
  rintro e w2 ⟨ob, d, rfl, hc2, hm2, hb2⟩
  have HB2 := Lib.hid (bstep HB1.out hb2)
  have HBX2 := Lib.hid (HBX1.out.keep hb2)
  have HM2 := Lib.hid (HM1.out.grow hb2)
  have HMY := Lib.hid hm2
  clear hc2 hm2 hb2 HBX1 HM1
  go_wp2_with fail
  go_at_call 11
  refine (enc_any r HR.out ob r.m.length d rfl _ (HF.out.keep HB2.out) HMY.out).mono ?_
  rintro e w3 ⟨rfl, hb3⟩
  have HB3 := Lib.hid (bstep HB2.out hb3)
  have HBX3 := Lib.hid (HBX2.out.keep hb3)
  have HM3 := Lib.hid (HM2.out.grow hb3)
  clear hb3 HBX2 HM2 HMY HB1 HB2
  have HSR : Hid (sameB r r = true) := Lib.hid ((sameB_iff _ _).2 rfl)
  cases hg : goodB r with
  | true =>
    obtain ⟨hd1, hd2, hd3⟩ := decO_good hg
    rw [hd3]
    generalize encS r = es at hd1 hd2 ⊢
    have HD := Lib.hid hd1
    have HES := Lib.hid hd2
    clear hd1 hd2 hd3 hg
    go_wp2_with fail
    go_at_call 16
    refine (dec_is es (by have := HES.out; omega) r 0 HD.out _ (HF.out.keep HB3.out)).mono ?_
    rintro e w4 ⟨oc, m, q, rfl, hn, hc, hm, hb4⟩
    have HNC := Lib.hid hn
    have HA := Lib.hid (below_alloc w4 (.cells #[.int .i64 r.cl, .int .i64 r.sq, .int .i64 r.k, .string r.p, .string r.t, .int .i64 r.sz, .int .i64 r.h, .int .i64 r.o, .string r.d, .int .i64 r.tk, .int .i64 r.i, .slice oc m q] 24))
    have HBY : Hid (OBox (w4.alloc (.cells #[.int .i64 r.cl, .int .i64 r.sq, .int .i64 r.k, .string r.p, .string r.t, .int .i64 r.sz, .int .i64 r.h, .int .i64 r.o, .string r.d, .int .i64 r.tk, .int .i64 r.i, .slice oc m q] 24)) w4.heap.size r (.slice oc m q)) := Lib.hid (heap_alloc_new w4 _)
    have HB4 := Lib.hid (bstep (bstep HB3.out hb4) HA.out)
    have HBX4 := Lib.hid ((HBX3.out.keep hb4).keep HA.out)
    have HM4 := Lib.hid ((HM3.out.grow hb4).grow HA.out)
    have HMC := Lib.hid (hm.grow HA.out)
    obtain ⟨d0, d1, d2, d3, d4, d5, d6, d7, d8, d9, d10, d11⟩ := HBX4.out.cells
    obtain ⟨e0, e1, e2, e3, e4, e5, e6, e7, e8, e9, e10, e11⟩ := HBY.out.cells
    have hz1 : ¬ (4096 < (es.size : Int)) := by have := HES.out; omega
    clear hn hc hm hb4 HBX3 HM3 HA
    go_wp2_with fail
    clear d0 d1 d2 d3 d4 d5 d6 d7 d8 d9 d10 d11 e0 e1 e2 e3 e4 e5 e6 e7 e8 e9 e10 e11
    go_at_call 15
    refine (keep_is r r true HSR.out oa oc n m c q HN.out HNC.out HR.out.2.2.2 HR.out.2.2.2 _ HM4.out HMC.out).mono ?_
    rintro e w5 ⟨rfl, hb5⟩
    have HB := Lib.hid (bstep HB4.out hb5)
    clear hb5 HB4 HBX4 HM4 HMC HBY HB3
    go_wp2_with fail
    clear hz1
    rcases decO_back s with ⟨r', hd, hg, he⟩ | hd
    · have HD := Lib.hid hd
      have HG := Lib.hid hg
      have HE := Lib.hid he
      have HEE := Lib.hid (decO_good hg).2.2
      have HFR : Hid (Fit r') := Lib.hid (by have hh := decO_fit s.data.toList; rw [hd] at hh; exact hh)
      clear hd hg he
      go_at_call 16
      refine (dec_is s (by have := HSZ.out; omega) r' 0 HD.out _ (HF.out.keep HB.out)).mono ?_
      rintro e w6 ⟨oc, m, q, rfl, hn, hc, hm, hb6⟩
      have HNC := Lib.hid hn
      have HA := Lib.hid (below_alloc w6 (.cells #[.int .i64 r'.cl, .int .i64 r'.sq, .int .i64 r'.k, .string r'.p, .string r'.t, .int .i64 r'.sz, .int .i64 r'.h, .int .i64 r'.o, .string r'.d, .int .i64 r'.tk, .int .i64 r'.i, .slice oc m q] 24))
      have HBY : Hid (OBox (w6.alloc (.cells #[.int .i64 r'.cl, .int .i64 r'.sq, .int .i64 r'.k, .string r'.p, .string r'.t, .int .i64 r'.sz, .int .i64 r'.h, .int .i64 r'.o, .string r'.d, .int .i64 r'.tk, .int .i64 r'.i, .slice oc m q] 24)) w6.heap.size r' (.slice oc m q)) := Lib.hid (heap_alloc_new w6 _)
      have HB6 := Lib.hid (bstep (bstep HB.out hb6) HA.out)
      have HMC := Lib.hid (hm.grow HA.out)
      obtain ⟨d0, d1, d2, d3, d4, d5, d6, d7, d8, d9, d10, d11⟩ := HBY.out.cells
      clear hn hc hm hb6 HA
      go_wp2_with fail
      clear d0 d1 d2 d3 d4 d5 d6 d7 d8 d9 d10 d11
      generalize w6.alloc (.cells #[.int .i64 r'.cl, .int .i64 r'.sq, .int .i64 r'.k, .string r'.p, .string r'.t, .int .i64 r'.sz, .int .i64 r'.h, .int .i64 r'.o, .string r'.d, .int .i64 r'.tk, .int .i64 r'.i, .slice oc m q] 24) = v6 at HBY HB6 HMC ⊢
      generalize w6.heap.size = b6 at HBY ⊢
      go_at_call 11
      refine (enc_any r' HFR.out oc m q HNC.out _ (HF.out.keep HB6.out) HMC.out).mono ?_
      rintro e w7 ⟨rfl, hb7⟩
      rw [HE.out, HEE.out]
      have HB7 := Lib.hid (bstep HB6.out hb7)
      have HBY7 := Lib.hid (HBY.out.keep hb7)
      have HM7 := Lib.hid (HMC.out.grow hb7)
      obtain ⟨d0, d1, d2, d3, d4, d5, d6, d7, d8, d9, d10, d11⟩ := HBY7.out.cells
      clear hb7
      go_wp2_with fail
      clear d0 d1 d2 d3 d4 d5 d6 d7 d8 d9 d10 d11
      go_at_call 13
      refine (good_is r' true HG.out HFR.out oc m q HNC.out _ (HF.out.keep HB7.out) HM7.out).mono ?_
      rintro e w8 ⟨rfl, hb8⟩
      have HB8 := Lib.hid (bstep HB7.out hb8)
      clear hb8
      go_wp2_with fail
      go_at_call 9
      refine (wakes_any _ (HF.out.keep HB8.out)).mono ?_
      rintro e w9 ⟨rfl, hb9⟩
      have HB9 := Lib.hid (bstep HB8.out hb9)
      clear hb9
      go_wp2_with fail
      go_ret
      exact ⟨rfl, HB9.out⟩
    · have HD := Lib.hid hd
      clear hd
      go_at_call 16
      refine (dec_is s (by have := HSZ.out; omega) zr 11 HD.out _ (HF.out.keep HB.out)).mono ?_
      rintro e w6 ⟨oc, m, q, rfl, hn, hc, hm, hb6⟩
      have HA := Lib.hid (below_alloc w6 (.cells #[.int .i64 zr.cl, .int .i64 zr.sq, .int .i64 zr.k, .string zr.p, .string zr.t, .int .i64 zr.sz, .int .i64 zr.h, .int .i64 zr.o, .string zr.d, .int .i64 zr.tk, .int .i64 zr.i, .slice oc m q] 24))
      have HBY : Hid (OBox (w6.alloc (.cells #[.int .i64 zr.cl, .int .i64 zr.sq, .int .i64 zr.k, .string zr.p, .string zr.t, .int .i64 zr.sz, .int .i64 zr.h, .int .i64 zr.o, .string zr.d, .int .i64 zr.tk, .int .i64 zr.i, .slice oc m q] 24)) w6.heap.size zr (.slice oc m q)) := Lib.hid (heap_alloc_new w6 _)
      have HB6 := Lib.hid (bstep (bstep HB.out hb6) HA.out)
      have hk : (w6.alloc (.cells #[.int .i64 zr.cl, .int .i64 zr.sq, .int .i64 zr.k, .string zr.p, .string zr.t, .int .i64 zr.sz, .int .i64 zr.h, .int .i64 zr.o, .string zr.d, .int .i64 zr.tk, .int .i64 zr.i, .slice oc m q] 24)).cell? ⟨w6.heap.size, 2, none⟩ = some (.int .i64 0) := by {obtain ⟨_, _, h, _⟩ := HBY.out.cells; exact h}
      have hzk : (zr.k == 0) = true := rfl
      clear hn hc hm hb6 HA
      go_wp2_with (go_at_call 9; refine (wakes_any _ (HF.out.keep HB6.out)).mono ?_; rintro e w9 ⟨rfl, hb9⟩; have HB9 := Lib.hid (bstep HB6.out hb9); clear hb9)
      go_ret
      exact ⟨rfl, HB9.out⟩
  | false =>
    have hd3 : encE r = 11 := by unfold encE; rw [hg]; rfl
    rw [hd3]
    generalize encS r = es
    clear hd3 hg
    have HB := HB3
    clear HB3 HBX3 HM3
    go_wp2_with fail
    rcases decO_back s with ⟨r', hd, hg, he⟩ | hd
    · have HD := Lib.hid hd
      have HG := Lib.hid hg
      have HE := Lib.hid he
      have HEE := Lib.hid (decO_good hg).2.2
      have HFR : Hid (Fit r') := Lib.hid (by have hh := decO_fit s.data.toList; rw [hd] at hh; exact hh)
      clear hd hg he
      go_at_call 16
      refine (dec_is s (by have := HSZ.out; omega) r' 0 HD.out _ (HF.out.keep HB.out)).mono ?_
      rintro e w6 ⟨oc, m, q, rfl, hn, hc, hm, hb6⟩
      have HNC := Lib.hid hn
      have HA := Lib.hid (below_alloc w6 (.cells #[.int .i64 r'.cl, .int .i64 r'.sq, .int .i64 r'.k, .string r'.p, .string r'.t, .int .i64 r'.sz, .int .i64 r'.h, .int .i64 r'.o, .string r'.d, .int .i64 r'.tk, .int .i64 r'.i, .slice oc m q] 24))
      have HBY : Hid (OBox (w6.alloc (.cells #[.int .i64 r'.cl, .int .i64 r'.sq, .int .i64 r'.k, .string r'.p, .string r'.t, .int .i64 r'.sz, .int .i64 r'.h, .int .i64 r'.o, .string r'.d, .int .i64 r'.tk, .int .i64 r'.i, .slice oc m q] 24)) w6.heap.size r' (.slice oc m q)) := Lib.hid (heap_alloc_new w6 _)
      have HB6 := Lib.hid (bstep (bstep HB.out hb6) HA.out)
      have HMC := Lib.hid (hm.grow HA.out)
      obtain ⟨d0, d1, d2, d3, d4, d5, d6, d7, d8, d9, d10, d11⟩ := HBY.out.cells
      clear hn hc hm hb6 HA
      go_wp2_with fail
      clear d0 d1 d2 d3 d4 d5 d6 d7 d8 d9 d10 d11
      generalize w6.alloc (.cells #[.int .i64 r'.cl, .int .i64 r'.sq, .int .i64 r'.k, .string r'.p, .string r'.t, .int .i64 r'.sz, .int .i64 r'.h, .int .i64 r'.o, .string r'.d, .int .i64 r'.tk, .int .i64 r'.i, .slice oc m q] 24) = v6 at HBY HB6 HMC ⊢
      generalize w6.heap.size = b6 at HBY ⊢
      go_at_call 11
      refine (enc_any r' HFR.out oc m q HNC.out _ (HF.out.keep HB6.out) HMC.out).mono ?_
      rintro e w7 ⟨rfl, hb7⟩
      rw [HE.out, HEE.out]
      have HB7 := Lib.hid (bstep HB6.out hb7)
      have HBY7 := Lib.hid (HBY.out.keep hb7)
      have HM7 := Lib.hid (HMC.out.grow hb7)
      obtain ⟨d0, d1, d2, d3, d4, d5, d6, d7, d8, d9, d10, d11⟩ := HBY7.out.cells
      clear hb7
      go_wp2_with fail
      clear d0 d1 d2 d3 d4 d5 d6 d7 d8 d9 d10 d11
      go_at_call 13
      refine (good_is r' true HG.out HFR.out oc m q HNC.out _ (HF.out.keep HB7.out) HM7.out).mono ?_
      rintro e w8 ⟨rfl, hb8⟩
      have HB8 := Lib.hid (bstep HB7.out hb8)
      clear hb8
      go_wp2_with fail
      go_at_call 9
      refine (wakes_any _ (HF.out.keep HB8.out)).mono ?_
      rintro e w9 ⟨rfl, hb9⟩
      have HB9 := Lib.hid (bstep HB8.out hb9)
      clear hb9
      go_wp2_with fail
      go_ret
      exact ⟨rfl, HB9.out⟩
    · have HD := Lib.hid hd
      clear hd
      go_at_call 16
      refine (dec_is s (by have := HSZ.out; omega) zr 11 HD.out _ (HF.out.keep HB.out)).mono ?_
      rintro e w6 ⟨oc, m, q, rfl, hn, hc, hm, hb6⟩
      have HA := Lib.hid (below_alloc w6 (.cells #[.int .i64 zr.cl, .int .i64 zr.sq, .int .i64 zr.k, .string zr.p, .string zr.t, .int .i64 zr.sz, .int .i64 zr.h, .int .i64 zr.o, .string zr.d, .int .i64 zr.tk, .int .i64 zr.i, .slice oc m q] 24))
      have HBY : Hid (OBox (w6.alloc (.cells #[.int .i64 zr.cl, .int .i64 zr.sq, .int .i64 zr.k, .string zr.p, .string zr.t, .int .i64 zr.sz, .int .i64 zr.h, .int .i64 zr.o, .string zr.d, .int .i64 zr.tk, .int .i64 zr.i, .slice oc m q] 24)) w6.heap.size zr (.slice oc m q)) := Lib.hid (heap_alloc_new w6 _)
      have HB6 := Lib.hid (bstep (bstep HB.out hb6) HA.out)
      have hk : (w6.alloc (.cells #[.int .i64 zr.cl, .int .i64 zr.sq, .int .i64 zr.k, .string zr.p, .string zr.t, .int .i64 zr.sz, .int .i64 zr.h, .int .i64 zr.o, .string zr.d, .int .i64 zr.tk, .int .i64 zr.i, .slice oc m q] 24)).cell? ⟨w6.heap.size, 2, none⟩ = some (.int .i64 0) := by {obtain ⟨_, _, h, _⟩ := HBY.out.cells; exact h}
      have hzk : (zr.k == 0) = true := rfl
      clear hn hc hm hb6 HA
      go_wp2_with (go_at_call 9; refine (wakes_any _ (HF.out.keep HB6.out)).mono ?_; rintro e w9 ⟨rfl, hb9⟩; have HB9 := Lib.hid (bstep HB6.out hb9); clear hb9)
      go_ret
      exact ⟨rfl, HB9.out⟩
end Go.Proofs.YtlffcilgmockmaaDoor.OpW

/- OpOthers: what a changed field does. -/
namespace Go.Proofs.YtlffcilgmockmaaDoor.OpW
set_option maxRecDepth 100000
set_option linter.unusedVariables false
set_option linter.unusedSimpArgs false
open Go.RowKit OpP PackW
theorem good_nn {r : Rec} (h : goodB r = true) : (0 ≤ r.sz ∧ r.sz ≤ 1099511627776) ∧ (0 ≤ r.h ∧ r.h ≤ 1099511627776) ∧ (0 ≤ r.o ∧ r.o ≤ 1099511627776) ∧ (0 ≤ r.tk ∧ r.tk ≤ 1099511627776) ∧ (0 ≤ r.i ∧ r.i ≤ 1099511627776) := by
  obtain ⟨h1, h2, h3⟩ := good_parts h
  have hk := formB_kind h2
  have hh : 0 ≤ r.cl ∧ r.cl ≤ 7 ∧ 1 ≤ r.sq ∧ r.sq ≤ 2147483647 := by simpa [headB] using h1
  have zsz := congrArg Rec.sz h3
  have zh := congrArg Rec.h h3
  have zo := congrArg Rec.o h3
  have ztk := congrArg Rec.tk h3
  have zi := congrArg Rec.i h3
  have zm := congrArg Rec.m h3
  clear h1 h3 h
  rcases kinds r.k hk with e | e | e | e | e | e | e | e | e | e | e | e | e | e
  · rw [form_one (r := r) (by simp [e])] at h2
    rw [only_is1 r e] at zsz zh zo ztk zi zm
    (try simp only [Bool.and_eq_true, decide_eq_true_eq] at h2)
    dsimp only at zsz zh zo ztk zi zm
    exact ⟨⟨by omega, by omega⟩, ⟨by omega, by omega⟩, ⟨by omega, by omega⟩, ⟨by omega, by omega⟩, ⟨by omega, by omega⟩⟩
  · rw [form_one (r := r) (by simp [e])] at h2
    rw [only_is2 r e] at zsz zh zo ztk zi zm
    (try simp only [Bool.and_eq_true, decide_eq_true_eq] at h2)
    dsimp only at zsz zh zo ztk zi zm
    exact ⟨⟨by omega, by omega⟩, ⟨by omega, by omega⟩, ⟨by omega, by omega⟩, ⟨by omega, by omega⟩, ⟨by omega, by omega⟩⟩
  · rw [form_one (r := r) (by simp [e])] at h2
    rw [only_is3 r e] at zsz zh zo ztk zi zm
    (try simp only [Bool.and_eq_true, decide_eq_true_eq] at h2)
    dsimp only at zsz zh zo ztk zi zm
    exact ⟨⟨by omega, by omega⟩, ⟨by omega, by omega⟩, ⟨by omega, by omega⟩, ⟨by omega, by omega⟩, ⟨by omega, by omega⟩⟩
  · rw [form_both (r := r) (by simp [e])] at h2
    rw [only_is4 r e] at zsz zh zo ztk zi zm
    (try simp only [Bool.and_eq_true, decide_eq_true_eq] at h2)
    dsimp only at zsz zh zo ztk zi zm
    exact ⟨⟨by omega, by omega⟩, ⟨by omega, by omega⟩, ⟨by omega, by omega⟩, ⟨by omega, by omega⟩, ⟨by omega, by omega⟩⟩
  · rw [form_one (r := r) (by simp [e])] at h2
    rw [only_is5 r e] at zsz zh zo ztk zi zm
    (try simp only [Bool.and_eq_true, decide_eq_true_eq] at h2)
    dsimp only at zsz zh zo ztk zi zm
    exact ⟨⟨by omega, by omega⟩, ⟨by omega, by omega⟩, ⟨by omega, by omega⟩, ⟨by omega, by omega⟩, ⟨by omega, by omega⟩⟩
  · rw [form_both (r := r) (by simp [e])] at h2
    rw [only_is6 r e] at zsz zh zo ztk zi zm
    (try simp only [Bool.and_eq_true, decide_eq_true_eq] at h2)
    dsimp only at zsz zh zo ztk zi zm
    exact ⟨⟨by omega, by omega⟩, ⟨by omega, by omega⟩, ⟨by omega, by omega⟩, ⟨by omega, by omega⟩, ⟨by omega, by omega⟩⟩
  · rw [form_cut e] at h2
    rw [only_is7 r e] at zsz zh zo ztk zi zm
    (try simp only [Bool.and_eq_true, decide_eq_true_eq] at h2)
    dsimp only at zsz zh zo ztk zi zm
    exact ⟨⟨by omega, by omega⟩, ⟨by omega, by omega⟩, ⟨by omega, by omega⟩, ⟨by omega, by omega⟩, ⟨by omega, by omega⟩⟩
  · rw [form_one (r := r) (by simp [e])] at h2
    rw [only_is8 r e] at zsz zh zo ztk zi zm
    (try simp only [Bool.and_eq_true, decide_eq_true_eq] at h2)
    dsimp only at zsz zh zo ztk zi zm
    exact ⟨⟨by omega, by omega⟩, ⟨by omega, by omega⟩, ⟨by omega, by omega⟩, ⟨by omega, by omega⟩, ⟨by omega, by omega⟩⟩
  · rw [form_close e] at h2
    rw [only_is9 r e] at zsz zh zo ztk zi zm
    (try simp only [Bool.and_eq_true, decide_eq_true_eq] at h2)
    dsimp only at zsz zh zo ztk zi zm
    exact ⟨⟨by omega, by omega⟩, ⟨by omega, by omega⟩, ⟨by omega, by omega⟩, ⟨by omega, by omega⟩, ⟨by omega, by omega⟩⟩
  · rw [form_write e] at h2
    rw [only_is10 r e] at zsz zh zo ztk zi zm
    (try simp only [Bool.and_eq_true, decide_eq_true_eq] at h2)
    dsimp only at zsz zh zo ztk zi zm
    exact ⟨⟨by omega, by omega⟩, ⟨by omega, by omega⟩, ⟨by omega, by omega⟩, ⟨by omega, by omega⟩, ⟨by omega, by omega⟩⟩
  · rw [form_tick (r := r) (by simp [e])] at h2
    rw [only_is11 r e] at zsz zh zo ztk zi zm
    (try simp only [Bool.and_eq_true, decide_eq_true_eq] at h2)
    dsimp only at zsz zh zo ztk zi zm
    exact ⟨⟨by omega, by omega⟩, ⟨by omega, by omega⟩, ⟨by omega, by omega⟩, ⟨by omega, by omega⟩, ⟨by omega, by omega⟩⟩
  · rw [form_tick (r := r) (by simp [e])] at h2
    rw [only_is12 r e] at zsz zh zo ztk zi zm
    (try simp only [Bool.and_eq_true, decide_eq_true_eq] at h2)
    dsimp only at zsz zh zo ztk zi zm
    exact ⟨⟨by omega, by omega⟩, ⟨by omega, by omega⟩, ⟨by omega, by omega⟩, ⟨by omega, by omega⟩, ⟨by omega, by omega⟩⟩
  · rw [form_move e] at h2
    rw [only_is13 r e] at zsz zh zo ztk zi zm
    (try simp only [Bool.and_eq_true, decide_eq_true_eq] at h2)
    dsimp only at zsz zh zo ztk zi zm
    exact ⟨⟨by omega, by omega⟩, ⟨by omega, by omega⟩, ⟨by omega, by omega⟩, ⟨by omega, by omega⟩, ⟨by omega, by omega⟩⟩
  · rw [form_image e] at h2
    rw [only_is14 r e] at zsz zh zo ztk zi zm
    (try simp only [Bool.and_eq_true, decide_eq_true_eq] at h2)
    dsimp only at zsz zh zo ztk zi zm
    exact ⟨⟨by omega, by omega⟩, ⟨by omega, by omega⟩, ⟨by omega, by omega⟩, ⟨by omega, by omega⟩, ⟨by omega, by omega⟩⟩
theorem only_chg_p {r : Rec} (hg : goodB r = true) (v : ByteArray) : only ⟨r.cl, r.sq, r.k, v, r.t, r.sz, r.h, r.o, r.d, r.tk, r.i, r.m⟩ = ⟨r.cl, r.sq, r.k, v, r.t, r.sz, r.h, r.o, r.d, r.tk, r.i, r.m⟩ ∨ only ⟨r.cl, r.sq, r.k, v, r.t, r.sz, r.h, r.o, r.d, r.tk, r.i, r.m⟩ = r := by
  obtain ⟨h1, h2, h3⟩ := good_parts hg
  have hk := formB_kind h2
  clear h1 h2 hg
  obtain ⟨zcl, zsq, zk, zp, zt, zsz, zh, zo, zd, ztk, zi, zm⟩ := r
  dsimp only at hk ⊢
  rcases kinds _ hk with e | e | e | e | e | e | e | e | e | e | e | e | e | e
  · rw [only_is1 _ e] at h3
    simp only [Rec.mk.injEq, true_and, and_true] at h3
    first
      | (left; rw [only_is1 _ e]; simp [h3]; done)
      | (right; rw [only_is1 _ e]; simp [h3]; done)
  · rw [only_is2 _ e] at h3
    simp only [Rec.mk.injEq, true_and, and_true] at h3
    first
      | (left; rw [only_is2 _ e]; simp [h3]; done)
      | (right; rw [only_is2 _ e]; simp [h3]; done)
  · rw [only_is3 _ e] at h3
    simp only [Rec.mk.injEq, true_and, and_true] at h3
    first
      | (left; rw [only_is3 _ e]; simp [h3]; done)
      | (right; rw [only_is3 _ e]; simp [h3]; done)
  · rw [only_is4 _ e] at h3
    simp only [Rec.mk.injEq, true_and, and_true] at h3
    first
      | (left; rw [only_is4 _ e]; simp [h3]; done)
      | (right; rw [only_is4 _ e]; simp [h3]; done)
  · rw [only_is5 _ e] at h3
    simp only [Rec.mk.injEq, true_and, and_true] at h3
    first
      | (left; rw [only_is5 _ e]; simp [h3]; done)
      | (right; rw [only_is5 _ e]; simp [h3]; done)
  · rw [only_is6 _ e] at h3
    simp only [Rec.mk.injEq, true_and, and_true] at h3
    first
      | (left; rw [only_is6 _ e]; simp [h3]; done)
      | (right; rw [only_is6 _ e]; simp [h3]; done)
  · rw [only_is7 _ e] at h3
    simp only [Rec.mk.injEq, true_and, and_true] at h3
    first
      | (left; rw [only_is7 _ e]; simp [h3]; done)
      | (right; rw [only_is7 _ e]; simp [h3]; done)
  · rw [only_is8 _ e] at h3
    simp only [Rec.mk.injEq, true_and, and_true] at h3
    first
      | (left; rw [only_is8 _ e]; simp [h3]; done)
      | (right; rw [only_is8 _ e]; simp [h3]; done)
  · rw [only_is9 _ e] at h3
    simp only [Rec.mk.injEq, true_and, and_true] at h3
    first
      | (left; rw [only_is9 _ e]; simp [h3]; done)
      | (right; rw [only_is9 _ e]; simp [h3]; done)
  · rw [only_is10 _ e] at h3
    simp only [Rec.mk.injEq, true_and, and_true] at h3
    first
      | (left; rw [only_is10 _ e]; simp [h3]; done)
      | (right; rw [only_is10 _ e]; simp [h3]; done)
  · rw [only_is11 _ e] at h3
    simp only [Rec.mk.injEq, true_and, and_true] at h3
    first
      | (left; rw [only_is11 _ e]; simp [h3]; done)
      | (right; rw [only_is11 _ e]; simp [h3]; done)
  · rw [only_is12 _ e] at h3
    simp only [Rec.mk.injEq, true_and, and_true] at h3
    first
      | (left; rw [only_is12 _ e]; simp [h3]; done)
      | (right; rw [only_is12 _ e]; simp [h3]; done)
  · rw [only_is13 _ e] at h3
    simp only [Rec.mk.injEq, true_and, and_true] at h3
    first
      | (left; rw [only_is13 _ e]; simp [h3]; done)
      | (right; rw [only_is13 _ e]; simp [h3]; done)
  · rw [only_is14 _ e] at h3
    simp only [Rec.mk.injEq, true_and, and_true] at h3
    first
      | (left; rw [only_is14 _ e]; simp [h3]; done)
      | (right; rw [only_is14 _ e]; simp [h3]; done)
theorem only_chg_t {r : Rec} (hg : goodB r = true) (v : ByteArray) : only ⟨r.cl, r.sq, r.k, r.p, v, r.sz, r.h, r.o, r.d, r.tk, r.i, r.m⟩ = ⟨r.cl, r.sq, r.k, r.p, v, r.sz, r.h, r.o, r.d, r.tk, r.i, r.m⟩ ∨ only ⟨r.cl, r.sq, r.k, r.p, v, r.sz, r.h, r.o, r.d, r.tk, r.i, r.m⟩ = r := by
  obtain ⟨h1, h2, h3⟩ := good_parts hg
  have hk := formB_kind h2
  clear h1 h2 hg
  obtain ⟨zcl, zsq, zk, zp, zt, zsz, zh, zo, zd, ztk, zi, zm⟩ := r
  dsimp only at hk ⊢
  rcases kinds _ hk with e | e | e | e | e | e | e | e | e | e | e | e | e | e
  · rw [only_is1 _ e] at h3
    simp only [Rec.mk.injEq, true_and, and_true] at h3
    first
      | (left; rw [only_is1 _ e]; simp [h3]; done)
      | (right; rw [only_is1 _ e]; simp [h3]; done)
  · rw [only_is2 _ e] at h3
    simp only [Rec.mk.injEq, true_and, and_true] at h3
    first
      | (left; rw [only_is2 _ e]; simp [h3]; done)
      | (right; rw [only_is2 _ e]; simp [h3]; done)
  · rw [only_is3 _ e] at h3
    simp only [Rec.mk.injEq, true_and, and_true] at h3
    first
      | (left; rw [only_is3 _ e]; simp [h3]; done)
      | (right; rw [only_is3 _ e]; simp [h3]; done)
  · rw [only_is4 _ e] at h3
    simp only [Rec.mk.injEq, true_and, and_true] at h3
    first
      | (left; rw [only_is4 _ e]; simp [h3]; done)
      | (right; rw [only_is4 _ e]; simp [h3]; done)
  · rw [only_is5 _ e] at h3
    simp only [Rec.mk.injEq, true_and, and_true] at h3
    first
      | (left; rw [only_is5 _ e]; simp [h3]; done)
      | (right; rw [only_is5 _ e]; simp [h3]; done)
  · rw [only_is6 _ e] at h3
    simp only [Rec.mk.injEq, true_and, and_true] at h3
    first
      | (left; rw [only_is6 _ e]; simp [h3]; done)
      | (right; rw [only_is6 _ e]; simp [h3]; done)
  · rw [only_is7 _ e] at h3
    simp only [Rec.mk.injEq, true_and, and_true] at h3
    first
      | (left; rw [only_is7 _ e]; simp [h3]; done)
      | (right; rw [only_is7 _ e]; simp [h3]; done)
  · rw [only_is8 _ e] at h3
    simp only [Rec.mk.injEq, true_and, and_true] at h3
    first
      | (left; rw [only_is8 _ e]; simp [h3]; done)
      | (right; rw [only_is8 _ e]; simp [h3]; done)
  · rw [only_is9 _ e] at h3
    simp only [Rec.mk.injEq, true_and, and_true] at h3
    first
      | (left; rw [only_is9 _ e]; simp [h3]; done)
      | (right; rw [only_is9 _ e]; simp [h3]; done)
  · rw [only_is10 _ e] at h3
    simp only [Rec.mk.injEq, true_and, and_true] at h3
    first
      | (left; rw [only_is10 _ e]; simp [h3]; done)
      | (right; rw [only_is10 _ e]; simp [h3]; done)
  · rw [only_is11 _ e] at h3
    simp only [Rec.mk.injEq, true_and, and_true] at h3
    first
      | (left; rw [only_is11 _ e]; simp [h3]; done)
      | (right; rw [only_is11 _ e]; simp [h3]; done)
  · rw [only_is12 _ e] at h3
    simp only [Rec.mk.injEq, true_and, and_true] at h3
    first
      | (left; rw [only_is12 _ e]; simp [h3]; done)
      | (right; rw [only_is12 _ e]; simp [h3]; done)
  · rw [only_is13 _ e] at h3
    simp only [Rec.mk.injEq, true_and, and_true] at h3
    first
      | (left; rw [only_is13 _ e]; simp [h3]; done)
      | (right; rw [only_is13 _ e]; simp [h3]; done)
  · rw [only_is14 _ e] at h3
    simp only [Rec.mk.injEq, true_and, and_true] at h3
    first
      | (left; rw [only_is14 _ e]; simp [h3]; done)
      | (right; rw [only_is14 _ e]; simp [h3]; done)
theorem only_chg_sz {r : Rec} (hg : goodB r = true) (v : Int) : only ⟨r.cl, r.sq, r.k, r.p, r.t, v, r.h, r.o, r.d, r.tk, r.i, r.m⟩ = ⟨r.cl, r.sq, r.k, r.p, r.t, v, r.h, r.o, r.d, r.tk, r.i, r.m⟩ ∨ only ⟨r.cl, r.sq, r.k, r.p, r.t, v, r.h, r.o, r.d, r.tk, r.i, r.m⟩ = r := by
  obtain ⟨h1, h2, h3⟩ := good_parts hg
  have hk := formB_kind h2
  clear h1 h2 hg
  obtain ⟨zcl, zsq, zk, zp, zt, zsz, zh, zo, zd, ztk, zi, zm⟩ := r
  dsimp only at hk ⊢
  rcases kinds _ hk with e | e | e | e | e | e | e | e | e | e | e | e | e | e
  · rw [only_is1 _ e] at h3
    simp only [Rec.mk.injEq, true_and, and_true] at h3
    first
      | (left; rw [only_is1 _ e]; simp [h3]; done)
      | (right; rw [only_is1 _ e]; simp [h3]; done)
  · rw [only_is2 _ e] at h3
    simp only [Rec.mk.injEq, true_and, and_true] at h3
    first
      | (left; rw [only_is2 _ e]; simp [h3]; done)
      | (right; rw [only_is2 _ e]; simp [h3]; done)
  · rw [only_is3 _ e] at h3
    simp only [Rec.mk.injEq, true_and, and_true] at h3
    first
      | (left; rw [only_is3 _ e]; simp [h3]; done)
      | (right; rw [only_is3 _ e]; simp [h3]; done)
  · rw [only_is4 _ e] at h3
    simp only [Rec.mk.injEq, true_and, and_true] at h3
    first
      | (left; rw [only_is4 _ e]; simp [h3]; done)
      | (right; rw [only_is4 _ e]; simp [h3]; done)
  · rw [only_is5 _ e] at h3
    simp only [Rec.mk.injEq, true_and, and_true] at h3
    first
      | (left; rw [only_is5 _ e]; simp [h3]; done)
      | (right; rw [only_is5 _ e]; simp [h3]; done)
  · rw [only_is6 _ e] at h3
    simp only [Rec.mk.injEq, true_and, and_true] at h3
    first
      | (left; rw [only_is6 _ e]; simp [h3]; done)
      | (right; rw [only_is6 _ e]; simp [h3]; done)
  · rw [only_is7 _ e] at h3
    simp only [Rec.mk.injEq, true_and, and_true] at h3
    first
      | (left; rw [only_is7 _ e]; simp [h3]; done)
      | (right; rw [only_is7 _ e]; simp [h3]; done)
  · rw [only_is8 _ e] at h3
    simp only [Rec.mk.injEq, true_and, and_true] at h3
    first
      | (left; rw [only_is8 _ e]; simp [h3]; done)
      | (right; rw [only_is8 _ e]; simp [h3]; done)
  · rw [only_is9 _ e] at h3
    simp only [Rec.mk.injEq, true_and, and_true] at h3
    first
      | (left; rw [only_is9 _ e]; simp [h3]; done)
      | (right; rw [only_is9 _ e]; simp [h3]; done)
  · rw [only_is10 _ e] at h3
    simp only [Rec.mk.injEq, true_and, and_true] at h3
    first
      | (left; rw [only_is10 _ e]; simp [h3]; done)
      | (right; rw [only_is10 _ e]; simp [h3]; done)
  · rw [only_is11 _ e] at h3
    simp only [Rec.mk.injEq, true_and, and_true] at h3
    first
      | (left; rw [only_is11 _ e]; simp [h3]; done)
      | (right; rw [only_is11 _ e]; simp [h3]; done)
  · rw [only_is12 _ e] at h3
    simp only [Rec.mk.injEq, true_and, and_true] at h3
    first
      | (left; rw [only_is12 _ e]; simp [h3]; done)
      | (right; rw [only_is12 _ e]; simp [h3]; done)
  · rw [only_is13 _ e] at h3
    simp only [Rec.mk.injEq, true_and, and_true] at h3
    first
      | (left; rw [only_is13 _ e]; simp [h3]; done)
      | (right; rw [only_is13 _ e]; simp [h3]; done)
  · rw [only_is14 _ e] at h3
    simp only [Rec.mk.injEq, true_and, and_true] at h3
    first
      | (left; rw [only_is14 _ e]; simp [h3]; done)
      | (right; rw [only_is14 _ e]; simp [h3]; done)
theorem only_chg_h {r : Rec} (hg : goodB r = true) (v : Int) : only ⟨r.cl, r.sq, r.k, r.p, r.t, r.sz, v, r.o, r.d, r.tk, r.i, r.m⟩ = ⟨r.cl, r.sq, r.k, r.p, r.t, r.sz, v, r.o, r.d, r.tk, r.i, r.m⟩ ∨ only ⟨r.cl, r.sq, r.k, r.p, r.t, r.sz, v, r.o, r.d, r.tk, r.i, r.m⟩ = r := by
  obtain ⟨h1, h2, h3⟩ := good_parts hg
  have hk := formB_kind h2
  clear h1 h2 hg
  obtain ⟨zcl, zsq, zk, zp, zt, zsz, zh, zo, zd, ztk, zi, zm⟩ := r
  dsimp only at hk ⊢
  rcases kinds _ hk with e | e | e | e | e | e | e | e | e | e | e | e | e | e
  · rw [only_is1 _ e] at h3
    simp only [Rec.mk.injEq, true_and, and_true] at h3
    first
      | (left; rw [only_is1 _ e]; simp [h3]; done)
      | (right; rw [only_is1 _ e]; simp [h3]; done)
  · rw [only_is2 _ e] at h3
    simp only [Rec.mk.injEq, true_and, and_true] at h3
    first
      | (left; rw [only_is2 _ e]; simp [h3]; done)
      | (right; rw [only_is2 _ e]; simp [h3]; done)
  · rw [only_is3 _ e] at h3
    simp only [Rec.mk.injEq, true_and, and_true] at h3
    first
      | (left; rw [only_is3 _ e]; simp [h3]; done)
      | (right; rw [only_is3 _ e]; simp [h3]; done)
  · rw [only_is4 _ e] at h3
    simp only [Rec.mk.injEq, true_and, and_true] at h3
    first
      | (left; rw [only_is4 _ e]; simp [h3]; done)
      | (right; rw [only_is4 _ e]; simp [h3]; done)
  · rw [only_is5 _ e] at h3
    simp only [Rec.mk.injEq, true_and, and_true] at h3
    first
      | (left; rw [only_is5 _ e]; simp [h3]; done)
      | (right; rw [only_is5 _ e]; simp [h3]; done)
  · rw [only_is6 _ e] at h3
    simp only [Rec.mk.injEq, true_and, and_true] at h3
    first
      | (left; rw [only_is6 _ e]; simp [h3]; done)
      | (right; rw [only_is6 _ e]; simp [h3]; done)
  · rw [only_is7 _ e] at h3
    simp only [Rec.mk.injEq, true_and, and_true] at h3
    first
      | (left; rw [only_is7 _ e]; simp [h3]; done)
      | (right; rw [only_is7 _ e]; simp [h3]; done)
  · rw [only_is8 _ e] at h3
    simp only [Rec.mk.injEq, true_and, and_true] at h3
    first
      | (left; rw [only_is8 _ e]; simp [h3]; done)
      | (right; rw [only_is8 _ e]; simp [h3]; done)
  · rw [only_is9 _ e] at h3
    simp only [Rec.mk.injEq, true_and, and_true] at h3
    first
      | (left; rw [only_is9 _ e]; simp [h3]; done)
      | (right; rw [only_is9 _ e]; simp [h3]; done)
  · rw [only_is10 _ e] at h3
    simp only [Rec.mk.injEq, true_and, and_true] at h3
    first
      | (left; rw [only_is10 _ e]; simp [h3]; done)
      | (right; rw [only_is10 _ e]; simp [h3]; done)
  · rw [only_is11 _ e] at h3
    simp only [Rec.mk.injEq, true_and, and_true] at h3
    first
      | (left; rw [only_is11 _ e]; simp [h3]; done)
      | (right; rw [only_is11 _ e]; simp [h3]; done)
  · rw [only_is12 _ e] at h3
    simp only [Rec.mk.injEq, true_and, and_true] at h3
    first
      | (left; rw [only_is12 _ e]; simp [h3]; done)
      | (right; rw [only_is12 _ e]; simp [h3]; done)
  · rw [only_is13 _ e] at h3
    simp only [Rec.mk.injEq, true_and, and_true] at h3
    first
      | (left; rw [only_is13 _ e]; simp [h3]; done)
      | (right; rw [only_is13 _ e]; simp [h3]; done)
  · rw [only_is14 _ e] at h3
    simp only [Rec.mk.injEq, true_and, and_true] at h3
    first
      | (left; rw [only_is14 _ e]; simp [h3]; done)
      | (right; rw [only_is14 _ e]; simp [h3]; done)
theorem only_chg_tk {r : Rec} (hg : goodB r = true) (v : Int) : only ⟨r.cl, r.sq, r.k, r.p, r.t, r.sz, r.h, r.o, r.d, v, r.i, r.m⟩ = ⟨r.cl, r.sq, r.k, r.p, r.t, r.sz, r.h, r.o, r.d, v, r.i, r.m⟩ ∨ only ⟨r.cl, r.sq, r.k, r.p, r.t, r.sz, r.h, r.o, r.d, v, r.i, r.m⟩ = r := by
  obtain ⟨h1, h2, h3⟩ := good_parts hg
  have hk := formB_kind h2
  clear h1 h2 hg
  obtain ⟨zcl, zsq, zk, zp, zt, zsz, zh, zo, zd, ztk, zi, zm⟩ := r
  dsimp only at hk ⊢
  rcases kinds _ hk with e | e | e | e | e | e | e | e | e | e | e | e | e | e
  · rw [only_is1 _ e] at h3
    simp only [Rec.mk.injEq, true_and, and_true] at h3
    first
      | (left; rw [only_is1 _ e]; simp [h3]; done)
      | (right; rw [only_is1 _ e]; simp [h3]; done)
  · rw [only_is2 _ e] at h3
    simp only [Rec.mk.injEq, true_and, and_true] at h3
    first
      | (left; rw [only_is2 _ e]; simp [h3]; done)
      | (right; rw [only_is2 _ e]; simp [h3]; done)
  · rw [only_is3 _ e] at h3
    simp only [Rec.mk.injEq, true_and, and_true] at h3
    first
      | (left; rw [only_is3 _ e]; simp [h3]; done)
      | (right; rw [only_is3 _ e]; simp [h3]; done)
  · rw [only_is4 _ e] at h3
    simp only [Rec.mk.injEq, true_and, and_true] at h3
    first
      | (left; rw [only_is4 _ e]; simp [h3]; done)
      | (right; rw [only_is4 _ e]; simp [h3]; done)
  · rw [only_is5 _ e] at h3
    simp only [Rec.mk.injEq, true_and, and_true] at h3
    first
      | (left; rw [only_is5 _ e]; simp [h3]; done)
      | (right; rw [only_is5 _ e]; simp [h3]; done)
  · rw [only_is6 _ e] at h3
    simp only [Rec.mk.injEq, true_and, and_true] at h3
    first
      | (left; rw [only_is6 _ e]; simp [h3]; done)
      | (right; rw [only_is6 _ e]; simp [h3]; done)
  · rw [only_is7 _ e] at h3
    simp only [Rec.mk.injEq, true_and, and_true] at h3
    first
      | (left; rw [only_is7 _ e]; simp [h3]; done)
      | (right; rw [only_is7 _ e]; simp [h3]; done)
  · rw [only_is8 _ e] at h3
    simp only [Rec.mk.injEq, true_and, and_true] at h3
    first
      | (left; rw [only_is8 _ e]; simp [h3]; done)
      | (right; rw [only_is8 _ e]; simp [h3]; done)
  · rw [only_is9 _ e] at h3
    simp only [Rec.mk.injEq, true_and, and_true] at h3
    first
      | (left; rw [only_is9 _ e]; simp [h3]; done)
      | (right; rw [only_is9 _ e]; simp [h3]; done)
  · rw [only_is10 _ e] at h3
    simp only [Rec.mk.injEq, true_and, and_true] at h3
    first
      | (left; rw [only_is10 _ e]; simp [h3]; done)
      | (right; rw [only_is10 _ e]; simp [h3]; done)
  · rw [only_is11 _ e] at h3
    simp only [Rec.mk.injEq, true_and, and_true] at h3
    first
      | (left; rw [only_is11 _ e]; simp [h3]; done)
      | (right; rw [only_is11 _ e]; simp [h3]; done)
  · rw [only_is12 _ e] at h3
    simp only [Rec.mk.injEq, true_and, and_true] at h3
    first
      | (left; rw [only_is12 _ e]; simp [h3]; done)
      | (right; rw [only_is12 _ e]; simp [h3]; done)
  · rw [only_is13 _ e] at h3
    simp only [Rec.mk.injEq, true_and, and_true] at h3
    first
      | (left; rw [only_is13 _ e]; simp [h3]; done)
      | (right; rw [only_is13 _ e]; simp [h3]; done)
  · rw [only_is14 _ e] at h3
    simp only [Rec.mk.injEq, true_and, and_true] at h3
    first
      | (left; rw [only_is14 _ e]; simp [h3]; done)
      | (right; rw [only_is14 _ e]; simp [h3]; done)
theorem only_chg_i {r : Rec} (hg : goodB r = true) (v : Int) : only ⟨r.cl, r.sq, r.k, r.p, r.t, r.sz, r.h, r.o, r.d, r.tk, v, r.m⟩ = ⟨r.cl, r.sq, r.k, r.p, r.t, r.sz, r.h, r.o, r.d, r.tk, v, r.m⟩ ∨ only ⟨r.cl, r.sq, r.k, r.p, r.t, r.sz, r.h, r.o, r.d, r.tk, v, r.m⟩ = r := by
  obtain ⟨h1, h2, h3⟩ := good_parts hg
  have hk := formB_kind h2
  clear h1 h2 hg
  obtain ⟨zcl, zsq, zk, zp, zt, zsz, zh, zo, zd, ztk, zi, zm⟩ := r
  dsimp only at hk ⊢
  rcases kinds _ hk with e | e | e | e | e | e | e | e | e | e | e | e | e | e
  · rw [only_is1 _ e] at h3
    simp only [Rec.mk.injEq, true_and, and_true] at h3
    first
      | (left; rw [only_is1 _ e]; simp [h3]; done)
      | (right; rw [only_is1 _ e]; simp [h3]; done)
  · rw [only_is2 _ e] at h3
    simp only [Rec.mk.injEq, true_and, and_true] at h3
    first
      | (left; rw [only_is2 _ e]; simp [h3]; done)
      | (right; rw [only_is2 _ e]; simp [h3]; done)
  · rw [only_is3 _ e] at h3
    simp only [Rec.mk.injEq, true_and, and_true] at h3
    first
      | (left; rw [only_is3 _ e]; simp [h3]; done)
      | (right; rw [only_is3 _ e]; simp [h3]; done)
  · rw [only_is4 _ e] at h3
    simp only [Rec.mk.injEq, true_and, and_true] at h3
    first
      | (left; rw [only_is4 _ e]; simp [h3]; done)
      | (right; rw [only_is4 _ e]; simp [h3]; done)
  · rw [only_is5 _ e] at h3
    simp only [Rec.mk.injEq, true_and, and_true] at h3
    first
      | (left; rw [only_is5 _ e]; simp [h3]; done)
      | (right; rw [only_is5 _ e]; simp [h3]; done)
  · rw [only_is6 _ e] at h3
    simp only [Rec.mk.injEq, true_and, and_true] at h3
    first
      | (left; rw [only_is6 _ e]; simp [h3]; done)
      | (right; rw [only_is6 _ e]; simp [h3]; done)
  · rw [only_is7 _ e] at h3
    simp only [Rec.mk.injEq, true_and, and_true] at h3
    first
      | (left; rw [only_is7 _ e]; simp [h3]; done)
      | (right; rw [only_is7 _ e]; simp [h3]; done)
  · rw [only_is8 _ e] at h3
    simp only [Rec.mk.injEq, true_and, and_true] at h3
    first
      | (left; rw [only_is8 _ e]; simp [h3]; done)
      | (right; rw [only_is8 _ e]; simp [h3]; done)
  · rw [only_is9 _ e] at h3
    simp only [Rec.mk.injEq, true_and, and_true] at h3
    first
      | (left; rw [only_is9 _ e]; simp [h3]; done)
      | (right; rw [only_is9 _ e]; simp [h3]; done)
  · rw [only_is10 _ e] at h3
    simp only [Rec.mk.injEq, true_and, and_true] at h3
    first
      | (left; rw [only_is10 _ e]; simp [h3]; done)
      | (right; rw [only_is10 _ e]; simp [h3]; done)
  · rw [only_is11 _ e] at h3
    simp only [Rec.mk.injEq, true_and, and_true] at h3
    first
      | (left; rw [only_is11 _ e]; simp [h3]; done)
      | (right; rw [only_is11 _ e]; simp [h3]; done)
  · rw [only_is12 _ e] at h3
    simp only [Rec.mk.injEq, true_and, and_true] at h3
    first
      | (left; rw [only_is12 _ e]; simp [h3]; done)
      | (right; rw [only_is12 _ e]; simp [h3]; done)
  · rw [only_is13 _ e] at h3
    simp only [Rec.mk.injEq, true_and, and_true] at h3
    first
      | (left; rw [only_is13 _ e]; simp [h3]; done)
      | (right; rw [only_is13 _ e]; simp [h3]; done)
  · rw [only_is14 _ e] at h3
    simp only [Rec.mk.injEq, true_and, and_true] at h3
    first
      | (left; rw [only_is14 _ e]; simp [h3]; done)
      | (right; rw [only_is14 _ e]; simp [h3]; done)
theorem only_chg_o {r : Rec} (hg : goodB r = true) (v : Int) : only ⟨r.cl, r.sq, r.k, r.p, r.t, r.sz, r.h, v, r.d, r.tk, r.i, r.m⟩ = ⟨r.cl, r.sq, r.k, r.p, r.t, r.sz, r.h, v, r.d, r.tk, r.i, r.m⟩ ∨ only ⟨r.cl, r.sq, r.k, r.p, r.t, r.sz, r.h, v, r.d, r.tk, r.i, r.m⟩ = r := by
  obtain ⟨h1, h2, h3⟩ := good_parts hg
  have hk := formB_kind h2
  clear h1 h2 hg
  obtain ⟨zcl, zsq, zk, zp, zt, zsz, zh, zo, zd, ztk, zi, zm⟩ := r
  dsimp only at hk ⊢
  rcases kinds _ hk with e | e | e | e | e | e | e | e | e | e | e | e | e | e
  · rw [only_is1 _ e] at h3
    simp only [Rec.mk.injEq, true_and, and_true] at h3
    first
      | (left; rw [only_is1 _ e]; simp [h3]; done)
      | (right; rw [only_is1 _ e]; simp [h3]; done)
  · rw [only_is2 _ e] at h3
    simp only [Rec.mk.injEq, true_and, and_true] at h3
    first
      | (left; rw [only_is2 _ e]; simp [h3]; done)
      | (right; rw [only_is2 _ e]; simp [h3]; done)
  · rw [only_is3 _ e] at h3
    simp only [Rec.mk.injEq, true_and, and_true] at h3
    first
      | (left; rw [only_is3 _ e]; simp [h3]; done)
      | (right; rw [only_is3 _ e]; simp [h3]; done)
  · rw [only_is4 _ e] at h3
    simp only [Rec.mk.injEq, true_and, and_true] at h3
    first
      | (left; rw [only_is4 _ e]; simp [h3]; done)
      | (right; rw [only_is4 _ e]; simp [h3]; done)
  · rw [only_is5 _ e] at h3
    simp only [Rec.mk.injEq, true_and, and_true] at h3
    first
      | (left; rw [only_is5 _ e]; simp [h3]; done)
      | (right; rw [only_is5 _ e]; simp [h3]; done)
  · rw [only_is6 _ e] at h3
    simp only [Rec.mk.injEq, true_and, and_true] at h3
    first
      | (left; rw [only_is6 _ e]; simp [h3]; done)
      | (right; rw [only_is6 _ e]; simp [h3]; done)
  · rw [only_is7 _ e] at h3
    simp only [Rec.mk.injEq, true_and, and_true] at h3
    first
      | (left; rw [only_is7 _ e]; simp [h3]; done)
      | (right; rw [only_is7 _ e]; simp [h3]; done)
  · rw [only_is8 _ e] at h3
    simp only [Rec.mk.injEq, true_and, and_true] at h3
    first
      | (left; rw [only_is8 _ e]; simp [h3]; done)
      | (right; rw [only_is8 _ e]; simp [h3]; done)
  · rw [only_is9 _ e] at h3
    simp only [Rec.mk.injEq, true_and, and_true] at h3
    first
      | (left; rw [only_is9 _ e]; simp [h3]; done)
      | (right; rw [only_is9 _ e]; simp [h3]; done)
  · rw [only_is10 _ e] at h3
    simp only [Rec.mk.injEq, true_and, and_true] at h3
    first
      | (left; rw [only_is10 _ e]; simp [h3]; done)
      | (right; rw [only_is10 _ e]; simp [h3]; done)
  · rw [only_is11 _ e] at h3
    simp only [Rec.mk.injEq, true_and, and_true] at h3
    first
      | (left; rw [only_is11 _ e]; simp [h3]; done)
      | (right; rw [only_is11 _ e]; simp [h3]; done)
  · rw [only_is12 _ e] at h3
    simp only [Rec.mk.injEq, true_and, and_true] at h3
    first
      | (left; rw [only_is12 _ e]; simp [h3]; done)
      | (right; rw [only_is12 _ e]; simp [h3]; done)
  · rw [only_is13 _ e] at h3
    simp only [Rec.mk.injEq, true_and, and_true] at h3
    first
      | (left; rw [only_is13 _ e]; simp [h3]; done)
      | (right; rw [only_is13 _ e]; simp [h3]; done)
  · rw [only_is14 _ e] at h3
    simp only [Rec.mk.injEq, true_and, and_true] at h3
    first
      | (left; rw [only_is14 _ e]; simp [h3]; done)
      | (right; rw [only_is14 _ e]; simp [h3]; done)
/-- what follows for the texts -/
theorem chg_yes {x : Rec} (h : only x = x) : sameB (only x) x = true := (sameB_iff _ _).2 h
theorem chg_no {x r : Rec} (hg : goodB r = true) (h : only x = r) (hn : r ≠ x) : sameB r x = false ∧ goodB x = false := by
  constructor
  · cases hs : sameB r x with
    | false => rfl
    | true => exact absurd ((sameB_iff _ _).1 hs) hn
  · unfold goodB
    rw [h]
    cases hs : sameB x r with
    | false => simp
    | true => exact absurd ((sameB_iff _ _).1 hs).symm hn
theorem enc_not {x : Rec} (h : goodB x = false) : encS x = ⟨#[]⟩ ∧ encE x = 11 := ⟨by unfold encS; rw [h]; rfl, by unfold encE; rw [h]; rfl⟩
theorem enc_yes {x : Rec} (h : goodB x = true) : encE x = 0 := by unfold encE; rw [h]; rfl
end Go.Proofs.YtlffcilgmockmaaDoor.OpW

/- OpOthers: a record with a field that its kind does not have has no form. -/
namespace Go.Proofs.YtlffcilgmockmaaDoor.OpW
set_option maxRecDepth 100000
set_option linter.unusedVariables false
open Go.RowKit OpP PackW
set_option maxHeartbeats 6400000 in
theorem others_0 (r : Rec) (oa : Option Addr) (n c : Nat) (hn : n = r.m.length) (hc : oa = none → n = 0 ∧ c = 0) (z : Int) (hz : 0 ≤ z ∧ z ≤ 255) (hw : z % 7 = 0) (w : World) (hf : Fl w) (hm : MvAt w oa r.m) :
    Calls Tryd.prog 7 #[.agg #[.int .i64 r.cl, .int .i64 r.sq, .int .i64 r.k, .string r.p, .string r.t, .int .i64 r.sz, .int .i64 r.h, .int .i64 r.o, .string r.d, .int .i64 r.tk, .int .i64 r.i, .slice oa n c], .int .u8 z] w fun e w' => e = .returned (.bool true) ∧ Below w.heap.size w w' := by
  have HF := Lib.hid hf
  have HN := Lib.hid hn
  have HC := Lib.hid hc
  have H0 := Lib.hid (below_alloc w (.cells #[.int .i64 r.cl, .int .i64 r.sq, .int .i64 r.k, .string r.p, .string r.t, .int .i64 r.sz, .int .i64 r.h, .int .i64 r.o, .string r.d, .int .i64 r.tk, .int .i64 r.i, .slice oa n c] 24))
  have HM0 := Lib.hid (hm.grow H0.out)
  have HBX : Hid (OBox (w.alloc (.cells #[.int .i64 r.cl, .int .i64 r.sq, .int .i64 r.k, .string r.p, .string r.t, .int .i64 r.sz, .int .i64 r.h, .int .i64 r.o, .string r.d, .int .i64 r.tk, .int .i64 r.i, .slice oa n c] 24)) w.heap.size r (.slice oa n c)) := Lib.hid (heap_alloc_new w _)
  clear hf hn hc hm
  have q0 : (z % 7 == 0) = true := by rw [hw]; rfl
  have q1 : (z % 7 == 1) = false := by rw [hw]; rfl
  have q2 : (z % 7 == 2) = false := by rw [hw]; rfl
  have q3 : (z % 7 == 3) = false := by rw [hw]; rfl
  have q4 : (z % 7 == 4) = false := by rw [hw]; rfl
  have q5 : (z % 7 == 5) = false := by rw [hw]; rfl
  have q6 : (z % 7 == 6) = false := by rw [hw]; rfl
  cases hl : largeB r with
  | true =>
    have HL := Lib.hid hl
    clear hl
    go_enter Tryd.func7, Tryd.ntmps7
    go_wp2_with (first
      | (go_at_call 8; refine (large_is r oa n c true HL.out HN.out _).mono ?_; rintro e w1 ⟨rfl, hb1⟩; have HB1 := Lib.hid (bstep H0.out hb1); clear hb1)
      | (go_at_call 9; refine (wakes_any _ (HF.out.keep HB1.out)).mono ?_; rintro e w2 ⟨rfl, hb2⟩; have HB2 := Lib.hid (bstep HB1.out hb2); clear hb2))
    go_ret
    exact ⟨rfl, HB2.out⟩
  | false =>
  have HL := Lib.hid hl
  have HR := Lib.hid (small_fit (large_not hl))
  have HSM := Lib.hid (large_not hl)
  clear hl
  go_enter Tryd.func7, Tryd.ntmps7
  go_wp2_with fail
  generalize w.alloc (.cells #[.int .i64 r.cl, .int .i64 r.sq, .int .i64 r.k, .string r.p, .string r.t, .int .i64 r.sz, .int .i64 r.h, .int .i64 r.o, .string r.d, .int .i64 r.tk, .int .i64 r.i, .slice oa n c] 24) = w0 at H0 HM0 HBX ⊢
  go_at_call 8
  refine (large_is r oa n c false HL.out HN.out _).mono ?_
  rintro e w1 ⟨rfl, hb1⟩
  have HB1 := Lib.hid (bstep H0.out hb1)
  have HBX1 := Lib.hid (HBX.out.keep hb1)
  have HM1 := Lib.hid (HM0.out.grow hb1)
  obtain ⟨d0, d1, d2, d3, d4, d5, d6, d7, d8, d9, d10, d11⟩ := HBX1.out.cells
  clear hb1 HM0 HBX
  go_wp2_with fail
  clear d0 d1 d2 d3 d4 d5 d6 d7 d8 d9 d10 d11
  cases hg : goodB r with
  | false =>
    have HG := Lib.hid hg
    clear hg
    go_at_call 14
    refine (rgood_is r false HG.out HR.out oa n c HN.out _ HM1.out).mono ?_
    rintro e w2 ⟨rfl, hb2⟩
    have HB2 := Lib.hid (bstep HB1.out hb2)
    clear hb2
    go_wp2_with (go_at_call 9; refine (wakes_any _ (HF.out.keep HB2.out)).mono ?_; rintro e w3 ⟨rfl, hb3⟩; have HB3 := Lib.hid (bstep HB2.out hb3); clear hb3)
    go_ret
    exact ⟨rfl, HB3.out⟩
  | true =>
  have HG := Lib.hid hg
  have hnn := good_nn hg
  have hsm := HSM.out
  unfold Small at hsm
  have hlong : ¬ (9223372036854775807 < r.p.size + 2) := by omega
  clear hnn hsm
  clear hg
  go_at_call 14
  refine (rgood_is r true HG.out HR.out oa n c HN.out _ HM1.out).mono ?_
  rintro e w2 ⟨rfl, hb2⟩
  have HB2 := Lib.hid (bstep HB1.out hb2)
  have HBX2 := Lib.hid (HBX1.out.keep hb2)
  have HM2 := Lib.hid (HM1.out.grow hb2)
  obtain ⟨d0, d1, d2, d3, d4, d5, d6, d7, d8, d9, d10, d11⟩ := HBX2.out.cells
  clear hb2 HBX1 HM1 HB1
  go_wp2_with fail
  clear d0 d1 d2 d3 d4 d5 d6 d7 d8 d9 d10 d11
  go_at_call 10
  refine (copy_any r oa n c HN.out HC.out HR.out.2.2.2 _ HM2.out).mono ?_
  rintro e w3 ⟨ob, d, rfl, hc3, hm3, hb3⟩
  have HK3 := Lib.hid (bstep HB2.out hb3)
  have HM3 := Lib.hid hm3
  clear hc3 hm3 hb3 HBX2 HM2 HB2
  go_wp2_with fail
  obtain ⟨x, hx⟩ : ∃ x : Rec, x = ⟨r.cl, r.sq, r.k, (r.p ++ ⟨#[47, 97]⟩), r.t, r.sz, r.h, r.o, r.d, r.tk, r.i, r.m⟩ := ⟨_, rfl⟩
  have hbx : Below w3.heap.size w3 (w3.alloc (.cells #[.int .i64 r.cl, .int .i64 r.sq, .int .i64 r.k, .string (r.p ++ ⟨#[47, 97]⟩), .string r.t, .int .i64 r.sz, .int .i64 r.h, .int .i64 r.o, .string r.d, .int .i64 r.tk, .int .i64 r.i, .slice ob r.m.length d] 24)) := below_alloc w3 _
  have hbz : OBox (w3.alloc (.cells #[.int .i64 r.cl, .int .i64 r.sq, .int .i64 r.k, .string (r.p ++ ⟨#[47, 97]⟩), .string r.t, .int .i64 r.sz, .int .i64 r.h, .int .i64 r.o, .string r.d, .int .i64 r.tk, .int .i64 r.i, .slice ob r.m.length d] 24)) w3.heap.size x (.slice ob r.m.length d) := by rw [hx]; exact heap_alloc_new w3 _
  have hmx : MvAt (w3.alloc (.cells #[.int .i64 r.cl, .int .i64 r.sq, .int .i64 r.k, .string (r.p ++ ⟨#[47, 97]⟩), .string r.t, .int .i64 r.sz, .int .i64 r.h, .int .i64 r.o, .string r.d, .int .i64 r.tk, .int .i64 r.i, .slice ob r.m.length d] 24)) ob x.m := by rw [hx]; exact HM3.out.grow hbx
  have hb3 : Below w.heap.size w (w3.alloc (.cells #[.int .i64 r.cl, .int .i64 r.sq, .int .i64 r.k, .string (r.p ++ ⟨#[47, 97]⟩), .string r.t, .int .i64 r.sz, .int .i64 r.h, .int .i64 r.o, .string r.d, .int .i64 r.tk, .int .i64 r.i, .slice ob r.m.length d] 24)) := bstep HK3.out hbx
  clear hbx HM3 HK3
  generalize (w3.alloc (.cells #[.int .i64 r.cl, .int .i64 r.sq, .int .i64 r.k, .string (r.p ++ ⟨#[47, 97]⟩), .string r.t, .int .i64 r.sz, .int .i64 r.h, .int .i64 r.o, .string r.d, .int .i64 r.tk, .int .i64 r.i, .slice ob r.m.length d] 24)) = v3 at hbz hmx hb3 ⊢
  generalize w3.heap.size = b3 at hbz ⊢
  have hC : only x = x ∨ only x = r := by rw [hx]; exact only_chg_p HG.out _
  have hne : r ≠ x := by rw [hx]; intro h; have h1 := congrArg (fun y => (Rec.p y).size) h; dsimp only at h1; rw [ByteArray.size_append, show (⟨#[47, 97]⟩ : ByteArray).size = 2 from rfl] at h1; omega
  have HFX : Hid (Fit x) := Lib.hid (by rw [hx]; have := HR.out; have := HSM.out; unfold Fit Small at *; refine ⟨?_, ?_, ?_, ?_⟩ <;> dsimp only <;> (try rw [show ∀ a b : ByteArray, (a ++ b).size = a.size + b.size from fun a b => by simp [ByteArray.size_append]]) <;> (try (have : (⟨#[47, 97]⟩ : ByteArray).size = 2 := rfl)) <;> omega)
  have Ecl : r.cl = x.cl := by rw [hx]
  have Esq : r.sq = x.sq := by rw [hx]
  have Ek : r.k = x.k := by rw [hx]
  have Ep : r.p ++ ⟨#[47, 97]⟩ = x.p := by rw [hx]
  have Et : r.t = x.t := by rw [hx]
  have Esz : r.sz = x.sz := by rw [hx]
  have Eh : r.h = x.h := by rw [hx]
  have Eo : r.o = x.o := by rw [hx]
  have Ed : r.d = x.d := by rw [hx]
  have Etk : r.tk = x.tk := by rw [hx]
  have Ei : r.i = x.i := by rw [hx]
  have Em : r.m = x.m := by rw [hx]
  clear hx
  simp only [Ecl, Esq, Ek, Ep, Et, Esz, Eh, Eo, Ed, Etk, Ei, Em] at hbz ⊢
  have HBZ := Lib.hid hbz
  have HMX := Lib.hid hmx
  have HV3 := Lib.hid hb3
  have HXN := Lib.hid hne
  clear Ecl Esq Ek Ep Et Esz Eh Eo Ed Etk Ei Em hbz hmx hb3 hne hlong
  go_at_call 19
  refine (only_any x ob x.m.length d _).mono ?_
  rintro e w4 ⟨rfl, hb4⟩
  have hlen := only_len x x.m.length rfl
  have hmy := only_mv x ob w4 (HMX.out.grow hb4)
  have HBZ4 := Lib.hid (HBZ.out.keep hb4)
  have HB4 := Lib.hid (bstep HV3.out hb4)
  have HMX4 := Lib.hid (HMX.out.grow hb4)
  clear hb4 HBZ HV3 HMX
  generalize onlyA x ob = oy at hmy ⊢
  generalize onlyN x x.m.length = ny at hlen ⊢
  generalize onlyN x d = cy
  rcases hC with hA | hB
  · rw [hA] at hlen hmy ⊢
    have HLY := Lib.hid hlen
    have hal := below_alloc w4 (.cells #[.int .i64 x.cl, .int .i64 x.sq, .int .i64 x.k, .string x.p, .string x.t, .int .i64 x.sz, .int .i64 x.h, .int .i64 x.o, .string x.d, .int .i64 x.tk, .int .i64 x.i, .slice oy ny cy] 24)
    have HBY5 : Hid (OBox (w4.alloc (.cells #[.int .i64 x.cl, .int .i64 x.sq, .int .i64 x.k, .string x.p, .string x.t, .int .i64 x.sz, .int .i64 x.h, .int .i64 x.o, .string x.d, .int .i64 x.tk, .int .i64 x.i, .slice oy ny cy] 24)) w4.heap.size x (.slice oy ny cy)) := Lib.hid (heap_alloc_new w4 _)
    have HBZ5 := Lib.hid (HBZ4.out.keep hal)
    have HB5 := Lib.hid (bstep HB4.out hal)
    have HMX5 := Lib.hid (HMX4.out.grow hal)
    have HMY5 := Lib.hid (hmy.grow hal)
    clear hal HBZ4 HB4 HMX4
    clear hlen hmy hA
    have HSX : Hid (sameB x x = true) := Lib.hid ((sameB_iff _ _).2 rfl)
    have HZX : Hid (x.m.length ≤ 1000000) := Lib.hid HFX.out.2.2.2
    obtain ⟨d0, d1, d2, d3, d4, d5, d6, d7, d8, d9, d10, d11⟩ := HBZ5.out.cells
    go_wp2_with fail
    clear d0 d1 d2 d3 d4 d5 d6 d7 d8 d9 d10 d11
    generalize w4.alloc (.cells #[.int .i64 x.cl, .int .i64 x.sq, .int .i64 x.k, .string x.p, .string x.t, .int .i64 x.sz, .int .i64 x.h, .int .i64 x.o, .string x.d, .int .i64 x.tk, .int .i64 x.i, .slice oy ny cy] 24) = v5 at HBZ5 HBY5 HB5 HMX5 HMY5 ⊢
    generalize w4.heap.size = b5 at HBY5 ⊢
    go_at_call 11
    refine (enc_any x HFX.out ob x.m.length d rfl _ (HF.out.keep HB5.out) HMX5.out).mono ?_
    rintro e w6 ⟨rfl, hb6⟩
    have HB6 := Lib.hid (bstep HB5.out hb6)
    have HBZ6 := Lib.hid (HBZ5.out.keep hb6)
    have HBY6 := Lib.hid (HBY5.out.keep hb6)
    have HMX6 := Lib.hid (HMX5.out.grow hb6)
    have HMY6 := Lib.hid (HMY5.out.grow hb6)
    clear hb6 HB5 HBZ5 HBY5 HMX5 HMY5
    cases hgb : goodB x with
    | true =>
      have hee : encE x = 0 := by unfold encE; rw [hgb]; rfl
      rw [hee]
      have HGB := Lib.hid hgb
      clear hee hgb
      obtain ⟨d0, d1, d2, d3, d4, d5, d6, d7, d8, d9, d10, d11⟩ := HBZ6.out.cells
      obtain ⟨e0, e1, e2, e3, e4, e5, e6, e7, e8, e9, e10, e11⟩ := HBY6.out.cells
      go_wp2_with fail
      clear d0 d1 d2 d3 d4 d5 d6 d7 d8 d9 d10 d11 e0 e1 e2 e3 e4 e5 e6 e7 e8 e9 e10 e11
      go_at_call 15
      refine (keep_is x x true HSX.out oy ob ny x.m.length cy d HLY.out rfl HZX.out HZX.out _ HMY6.out HMX6.out).mono ?_
      rintro e w7 ⟨rfl, hb7⟩
      have HB7 := Lib.hid (bstep HB6.out hb7)
      have HBZ7 := Lib.hid (HBZ6.out.keep hb7)
      have HMX7 := Lib.hid (HMX6.out.grow hb7)
      clear hb7
      obtain ⟨d0, d1, d2, d3, d4, d5, d6, d7, d8, d9, d10, d11⟩ := HBZ7.out.cells
      go_wp2_with (first
        | (go_at_call 14; refine (rgood_is x true HGB.out HFX.out ob x.m.length d rfl _ HMX7.out).mono ?_; rintro e w8 ⟨rfl, hb8⟩; have HB8 := Lib.hid (bstep HB7.out hb8); clear hb8 d0 d1 d2 d3 d4 d5 d6 d7 d8 d9 d10 d11)
        | (go_at_call 9; refine (wakes_any _ (HF.out.keep HB8.out)).mono ?_; rintro e w9 ⟨rfl, hb9⟩; have HB9 := Lib.hid (bstep HB8.out hb9); clear hb9))
      go_ret
      exact ⟨rfl, HB9.out⟩
    | false =>
      have hee : encE x = 11 := by unfold encE; rw [hgb]; rfl
      rw [hee]
      have HGB := Lib.hid hgb
      clear hee hgb
      obtain ⟨d0, d1, d2, d3, d4, d5, d6, d7, d8, d9, d10, d11⟩ := HBZ6.out.cells
      obtain ⟨e0, e1, e2, e3, e4, e5, e6, e7, e8, e9, e10, e11⟩ := HBY6.out.cells
      go_wp2_with fail
      clear d0 d1 d2 d3 d4 d5 d6 d7 d8 d9 d10 d11 e0 e1 e2 e3 e4 e5 e6 e7 e8 e9 e10 e11
      go_at_call 15
      refine (keep_is x x true HSX.out oy ob ny x.m.length cy d HLY.out rfl HZX.out HZX.out _ HMY6.out HMX6.out).mono ?_
      rintro e w7 ⟨rfl, hb7⟩
      have HB7 := Lib.hid (bstep HB6.out hb7)
      have HBZ7 := Lib.hid (HBZ6.out.keep hb7)
      have HMX7 := Lib.hid (HMX6.out.grow hb7)
      clear hb7
      obtain ⟨d0, d1, d2, d3, d4, d5, d6, d7, d8, d9, d10, d11⟩ := HBZ7.out.cells
      go_wp2_with (first
        | (go_at_call 14; refine (rgood_is x false HGB.out HFX.out ob x.m.length d rfl _ HMX7.out).mono ?_; rintro e w8 ⟨rfl, hb8⟩; have HB8 := Lib.hid (bstep HB7.out hb8); clear hb8 d0 d1 d2 d3 d4 d5 d6 d7 d8 d9 d10 d11)
        | (go_at_call 9; refine (wakes_any _ (HF.out.keep HB8.out)).mono ?_; rintro e w9 ⟨rfl, hb9⟩; have HB9 := Lib.hid (bstep HB8.out hb9); clear hb9))
      go_ret
      exact ⟨rfl, HB9.out⟩
  · obtain ⟨hs1, hg1⟩ := chg_no HG.out hB HXN.out
    rw [hB] at hlen hmy ⊢
    have HLY := Lib.hid hlen
    have HSX := Lib.hid hs1
    have HEN := Lib.hid (enc_not hg1)
    have hal := below_alloc w4 (.cells #[.int .i64 r.cl, .int .i64 r.sq, .int .i64 r.k, .string r.p, .string r.t, .int .i64 r.sz, .int .i64 r.h, .int .i64 r.o, .string r.d, .int .i64 r.tk, .int .i64 r.i, .slice oy ny cy] 24)
    have HBY5 : Hid (OBox (w4.alloc (.cells #[.int .i64 r.cl, .int .i64 r.sq, .int .i64 r.k, .string r.p, .string r.t, .int .i64 r.sz, .int .i64 r.h, .int .i64 r.o, .string r.d, .int .i64 r.tk, .int .i64 r.i, .slice oy ny cy] 24)) w4.heap.size r (.slice oy ny cy)) := Lib.hid (heap_alloc_new w4 _)
    have HBZ5 := Lib.hid (HBZ4.out.keep hal)
    have HB5 := Lib.hid (bstep HB4.out hal)
    have HMX5 := Lib.hid (HMX4.out.grow hal)
    have HMY5 := Lib.hid (hmy.grow hal)
    clear hal HBZ4 HB4 HMX4
    clear hlen hmy hB hs1 hg1
    obtain ⟨d0, d1, d2, d3, d4, d5, d6, d7, d8, d9, d10, d11⟩ := HBZ5.out.cells
    go_wp2_with fail
    clear d0 d1 d2 d3 d4 d5 d6 d7 d8 d9 d10 d11
    generalize w4.alloc (.cells #[.int .i64 r.cl, .int .i64 r.sq, .int .i64 r.k, .string r.p, .string r.t, .int .i64 r.sz, .int .i64 r.h, .int .i64 r.o, .string r.d, .int .i64 r.tk, .int .i64 r.i, .slice oy ny cy] 24) = v5 at HBZ5 HBY5 HB5 HMX5 HMY5 ⊢
    generalize w4.heap.size = b5 at HBY5 ⊢
    go_at_call 11
    refine (enc_any x HFX.out ob x.m.length d rfl _ (HF.out.keep HB5.out) HMX5.out).mono ?_
    rintro e w6 ⟨rfl, hb6⟩
    have HB6 := Lib.hid (bstep HB5.out hb6)
    have HBZ6 := Lib.hid (HBZ5.out.keep hb6)
    have HBY6 := Lib.hid (HBY5.out.keep hb6)
    have HMX6 := Lib.hid (HMX5.out.grow hb6)
    have HMY6 := Lib.hid (HMY5.out.grow hb6)
    clear hb6 HB5 HBZ5 HBY5 HMX5 HMY5
    rw [HEN.out.1, HEN.out.2]
    obtain ⟨d0, d1, d2, d3, d4, d5, d6, d7, d8, d9, d10, d11⟩ := HBZ6.out.cells
    obtain ⟨e0, e1, e2, e3, e4, e5, e6, e7, e8, e9, e10, e11⟩ := HBY6.out.cells
    go_wp2_with fail
    clear d0 d1 d2 d3 d4 d5 d6 d7 d8 d9 d10 d11 e0 e1 e2 e3 e4 e5 e6 e7 e8 e9 e10 e11
    go_at_call 15
    refine (keep_is r x false HSX.out oy ob ny x.m.length cy d HLY.out rfl HR.out.2.2.2 HFX.out.2.2.2 _ HMY6.out HMX6.out).mono ?_
    rintro e w7 ⟨rfl, hb7⟩
    have HB7 := Lib.hid (bstep HB6.out hb7)
    have HBY7 := Lib.hid (HBY6.out.keep hb7)
    have HMY7 := Lib.hid (HMY6.out.grow hb7)
    clear hb7
    obtain ⟨d0, d1, d2, d3, d4, d5, d6, d7, d8, d9, d10, d11⟩ := HBY7.out.cells
    go_wp2_with (first
      | (go_at_call 13; refine (good_is r true HG.out HR.out oy ny cy HLY.out _ (HF.out.keep HB7.out) HMY7.out).mono ?_; rintro e w8 ⟨rfl, hb8⟩; have HB8 := Lib.hid (bstep HB7.out hb8); clear hb8 d0 d1 d2 d3 d4 d5 d6 d7 d8 d9 d10 d11)
      | (go_at_call 9; refine (wakes_any _ (HF.out.keep HB8.out)).mono ?_; rintro e w9 ⟨rfl, hb9⟩; have HB9 := Lib.hid (bstep HB8.out hb9); clear hb9))
    go_ret
    exact ⟨rfl, HB9.out⟩
set_option maxHeartbeats 6400000 in
theorem others_1 (r : Rec) (oa : Option Addr) (n c : Nat) (hn : n = r.m.length) (hc : oa = none → n = 0 ∧ c = 0) (z : Int) (hz : 0 ≤ z ∧ z ≤ 255) (hw : z % 7 = 1) (w : World) (hf : Fl w) (hm : MvAt w oa r.m) :
    Calls Tryd.prog 7 #[.agg #[.int .i64 r.cl, .int .i64 r.sq, .int .i64 r.k, .string r.p, .string r.t, .int .i64 r.sz, .int .i64 r.h, .int .i64 r.o, .string r.d, .int .i64 r.tk, .int .i64 r.i, .slice oa n c], .int .u8 z] w fun e w' => e = .returned (.bool true) ∧ Below w.heap.size w w' := by
  have HF := Lib.hid hf
  have HN := Lib.hid hn
  have HC := Lib.hid hc
  have H0 := Lib.hid (below_alloc w (.cells #[.int .i64 r.cl, .int .i64 r.sq, .int .i64 r.k, .string r.p, .string r.t, .int .i64 r.sz, .int .i64 r.h, .int .i64 r.o, .string r.d, .int .i64 r.tk, .int .i64 r.i, .slice oa n c] 24))
  have HM0 := Lib.hid (hm.grow H0.out)
  have HBX : Hid (OBox (w.alloc (.cells #[.int .i64 r.cl, .int .i64 r.sq, .int .i64 r.k, .string r.p, .string r.t, .int .i64 r.sz, .int .i64 r.h, .int .i64 r.o, .string r.d, .int .i64 r.tk, .int .i64 r.i, .slice oa n c] 24)) w.heap.size r (.slice oa n c)) := Lib.hid (heap_alloc_new w _)
  clear hf hn hc hm
  have q0 : (z % 7 == 0) = false := by rw [hw]; rfl
  have q1 : (z % 7 == 1) = true := by rw [hw]; rfl
  have q2 : (z % 7 == 2) = false := by rw [hw]; rfl
  have q3 : (z % 7 == 3) = false := by rw [hw]; rfl
  have q4 : (z % 7 == 4) = false := by rw [hw]; rfl
  have q5 : (z % 7 == 5) = false := by rw [hw]; rfl
  have q6 : (z % 7 == 6) = false := by rw [hw]; rfl
  cases hl : largeB r with
  | true =>
    have HL := Lib.hid hl
    clear hl
    go_enter Tryd.func7, Tryd.ntmps7
    go_wp2_with (first
      | (go_at_call 8; refine (large_is r oa n c true HL.out HN.out _).mono ?_; rintro e w1 ⟨rfl, hb1⟩; have HB1 := Lib.hid (bstep H0.out hb1); clear hb1)
      | (go_at_call 9; refine (wakes_any _ (HF.out.keep HB1.out)).mono ?_; rintro e w2 ⟨rfl, hb2⟩; have HB2 := Lib.hid (bstep HB1.out hb2); clear hb2))
    go_ret
    exact ⟨rfl, HB2.out⟩
  | false =>
  have HL := Lib.hid hl
  have HR := Lib.hid (small_fit (large_not hl))
  have HSM := Lib.hid (large_not hl)
  clear hl
  go_enter Tryd.func7, Tryd.ntmps7
  go_wp2_with fail
  generalize w.alloc (.cells #[.int .i64 r.cl, .int .i64 r.sq, .int .i64 r.k, .string r.p, .string r.t, .int .i64 r.sz, .int .i64 r.h, .int .i64 r.o, .string r.d, .int .i64 r.tk, .int .i64 r.i, .slice oa n c] 24) = w0 at H0 HM0 HBX ⊢
  go_at_call 8
  refine (large_is r oa n c false HL.out HN.out _).mono ?_
  rintro e w1 ⟨rfl, hb1⟩
  have HB1 := Lib.hid (bstep H0.out hb1)
  have HBX1 := Lib.hid (HBX.out.keep hb1)
  have HM1 := Lib.hid (HM0.out.grow hb1)
  obtain ⟨d0, d1, d2, d3, d4, d5, d6, d7, d8, d9, d10, d11⟩ := HBX1.out.cells
  clear hb1 HM0 HBX
  go_wp2_with fail
  clear d0 d1 d2 d3 d4 d5 d6 d7 d8 d9 d10 d11
  cases hg : goodB r with
  | false =>
    have HG := Lib.hid hg
    clear hg
    go_at_call 14
    refine (rgood_is r false HG.out HR.out oa n c HN.out _ HM1.out).mono ?_
    rintro e w2 ⟨rfl, hb2⟩
    have HB2 := Lib.hid (bstep HB1.out hb2)
    clear hb2
    go_wp2_with (go_at_call 9; refine (wakes_any _ (HF.out.keep HB2.out)).mono ?_; rintro e w3 ⟨rfl, hb3⟩; have HB3 := Lib.hid (bstep HB2.out hb3); clear hb3)
    go_ret
    exact ⟨rfl, HB3.out⟩
  | true =>
  have HG := Lib.hid hg
  have hnn := good_nn hg
  have hsm := HSM.out
  unfold Small at hsm
  have hlong : ¬ (9223372036854775807 < r.t.size + 2) := by omega
  clear hnn hsm
  clear hg
  go_at_call 14
  refine (rgood_is r true HG.out HR.out oa n c HN.out _ HM1.out).mono ?_
  rintro e w2 ⟨rfl, hb2⟩
  have HB2 := Lib.hid (bstep HB1.out hb2)
  have HBX2 := Lib.hid (HBX1.out.keep hb2)
  have HM2 := Lib.hid (HM1.out.grow hb2)
  obtain ⟨d0, d1, d2, d3, d4, d5, d6, d7, d8, d9, d10, d11⟩ := HBX2.out.cells
  clear hb2 HBX1 HM1 HB1
  go_wp2_with fail
  clear d0 d1 d2 d3 d4 d5 d6 d7 d8 d9 d10 d11
  go_at_call 10
  refine (copy_any r oa n c HN.out HC.out HR.out.2.2.2 _ HM2.out).mono ?_
  rintro e w3 ⟨ob, d, rfl, hc3, hm3, hb3⟩
  have HK3 := Lib.hid (bstep HB2.out hb3)
  have HM3 := Lib.hid hm3
  clear hc3 hm3 hb3 HBX2 HM2 HB2
  go_wp2_with fail
  obtain ⟨x, hx⟩ : ∃ x : Rec, x = ⟨r.cl, r.sq, r.k, r.p, (r.t ++ ⟨#[47, 97]⟩), r.sz, r.h, r.o, r.d, r.tk, r.i, r.m⟩ := ⟨_, rfl⟩
  have hbx : Below w3.heap.size w3 (w3.alloc (.cells #[.int .i64 r.cl, .int .i64 r.sq, .int .i64 r.k, .string r.p, .string (r.t ++ ⟨#[47, 97]⟩), .int .i64 r.sz, .int .i64 r.h, .int .i64 r.o, .string r.d, .int .i64 r.tk, .int .i64 r.i, .slice ob r.m.length d] 24)) := below_alloc w3 _
  have hbz : OBox (w3.alloc (.cells #[.int .i64 r.cl, .int .i64 r.sq, .int .i64 r.k, .string r.p, .string (r.t ++ ⟨#[47, 97]⟩), .int .i64 r.sz, .int .i64 r.h, .int .i64 r.o, .string r.d, .int .i64 r.tk, .int .i64 r.i, .slice ob r.m.length d] 24)) w3.heap.size x (.slice ob r.m.length d) := by rw [hx]; exact heap_alloc_new w3 _
  have hmx : MvAt (w3.alloc (.cells #[.int .i64 r.cl, .int .i64 r.sq, .int .i64 r.k, .string r.p, .string (r.t ++ ⟨#[47, 97]⟩), .int .i64 r.sz, .int .i64 r.h, .int .i64 r.o, .string r.d, .int .i64 r.tk, .int .i64 r.i, .slice ob r.m.length d] 24)) ob x.m := by rw [hx]; exact HM3.out.grow hbx
  have hb3 : Below w.heap.size w (w3.alloc (.cells #[.int .i64 r.cl, .int .i64 r.sq, .int .i64 r.k, .string r.p, .string (r.t ++ ⟨#[47, 97]⟩), .int .i64 r.sz, .int .i64 r.h, .int .i64 r.o, .string r.d, .int .i64 r.tk, .int .i64 r.i, .slice ob r.m.length d] 24)) := bstep HK3.out hbx
  clear hbx HM3 HK3
  generalize (w3.alloc (.cells #[.int .i64 r.cl, .int .i64 r.sq, .int .i64 r.k, .string r.p, .string (r.t ++ ⟨#[47, 97]⟩), .int .i64 r.sz, .int .i64 r.h, .int .i64 r.o, .string r.d, .int .i64 r.tk, .int .i64 r.i, .slice ob r.m.length d] 24)) = v3 at hbz hmx hb3 ⊢
  generalize w3.heap.size = b3 at hbz ⊢
  have hC : only x = x ∨ only x = r := by rw [hx]; exact only_chg_t HG.out _
  have hne : r ≠ x := by rw [hx]; intro h; have h1 := congrArg (fun y => (Rec.t y).size) h; dsimp only at h1; rw [ByteArray.size_append, show (⟨#[47, 97]⟩ : ByteArray).size = 2 from rfl] at h1; omega
  have HFX : Hid (Fit x) := Lib.hid (by rw [hx]; have := HR.out; have := HSM.out; unfold Fit Small at *; refine ⟨?_, ?_, ?_, ?_⟩ <;> dsimp only <;> (try rw [show ∀ a b : ByteArray, (a ++ b).size = a.size + b.size from fun a b => by simp [ByteArray.size_append]]) <;> (try (have : (⟨#[47, 97]⟩ : ByteArray).size = 2 := rfl)) <;> omega)
  have Ecl : r.cl = x.cl := by rw [hx]
  have Esq : r.sq = x.sq := by rw [hx]
  have Ek : r.k = x.k := by rw [hx]
  have Ep : r.p = x.p := by rw [hx]
  have Et : r.t ++ ⟨#[47, 97]⟩ = x.t := by rw [hx]
  have Esz : r.sz = x.sz := by rw [hx]
  have Eh : r.h = x.h := by rw [hx]
  have Eo : r.o = x.o := by rw [hx]
  have Ed : r.d = x.d := by rw [hx]
  have Etk : r.tk = x.tk := by rw [hx]
  have Ei : r.i = x.i := by rw [hx]
  have Em : r.m = x.m := by rw [hx]
  clear hx
  simp only [Ecl, Esq, Ek, Ep, Et, Esz, Eh, Eo, Ed, Etk, Ei, Em] at hbz ⊢
  have HBZ := Lib.hid hbz
  have HMX := Lib.hid hmx
  have HV3 := Lib.hid hb3
  have HXN := Lib.hid hne
  clear Ecl Esq Ek Ep Et Esz Eh Eo Ed Etk Ei Em hbz hmx hb3 hne hlong
  go_at_call 19
  refine (only_any x ob x.m.length d _).mono ?_
  rintro e w4 ⟨rfl, hb4⟩
  have hlen := only_len x x.m.length rfl
  have hmy := only_mv x ob w4 (HMX.out.grow hb4)
  have HBZ4 := Lib.hid (HBZ.out.keep hb4)
  have HB4 := Lib.hid (bstep HV3.out hb4)
  have HMX4 := Lib.hid (HMX.out.grow hb4)
  clear hb4 HBZ HV3 HMX
  generalize onlyA x ob = oy at hmy ⊢
  generalize onlyN x x.m.length = ny at hlen ⊢
  generalize onlyN x d = cy
  rcases hC with hA | hB
  · rw [hA] at hlen hmy ⊢
    have HLY := Lib.hid hlen
    have hal := below_alloc w4 (.cells #[.int .i64 x.cl, .int .i64 x.sq, .int .i64 x.k, .string x.p, .string x.t, .int .i64 x.sz, .int .i64 x.h, .int .i64 x.o, .string x.d, .int .i64 x.tk, .int .i64 x.i, .slice oy ny cy] 24)
    have HBY5 : Hid (OBox (w4.alloc (.cells #[.int .i64 x.cl, .int .i64 x.sq, .int .i64 x.k, .string x.p, .string x.t, .int .i64 x.sz, .int .i64 x.h, .int .i64 x.o, .string x.d, .int .i64 x.tk, .int .i64 x.i, .slice oy ny cy] 24)) w4.heap.size x (.slice oy ny cy)) := Lib.hid (heap_alloc_new w4 _)
    have HBZ5 := Lib.hid (HBZ4.out.keep hal)
    have HB5 := Lib.hid (bstep HB4.out hal)
    have HMX5 := Lib.hid (HMX4.out.grow hal)
    have HMY5 := Lib.hid (hmy.grow hal)
    clear hal HBZ4 HB4 HMX4
    clear hlen hmy hA
    have HSX : Hid (sameB x x = true) := Lib.hid ((sameB_iff _ _).2 rfl)
    have HZX : Hid (x.m.length ≤ 1000000) := Lib.hid HFX.out.2.2.2
    obtain ⟨d0, d1, d2, d3, d4, d5, d6, d7, d8, d9, d10, d11⟩ := HBZ5.out.cells
    go_wp2_with fail
    clear d0 d1 d2 d3 d4 d5 d6 d7 d8 d9 d10 d11
    generalize w4.alloc (.cells #[.int .i64 x.cl, .int .i64 x.sq, .int .i64 x.k, .string x.p, .string x.t, .int .i64 x.sz, .int .i64 x.h, .int .i64 x.o, .string x.d, .int .i64 x.tk, .int .i64 x.i, .slice oy ny cy] 24) = v5 at HBZ5 HBY5 HB5 HMX5 HMY5 ⊢
    generalize w4.heap.size = b5 at HBY5 ⊢
    go_at_call 11
    refine (enc_any x HFX.out ob x.m.length d rfl _ (HF.out.keep HB5.out) HMX5.out).mono ?_
    rintro e w6 ⟨rfl, hb6⟩
    have HB6 := Lib.hid (bstep HB5.out hb6)
    have HBZ6 := Lib.hid (HBZ5.out.keep hb6)
    have HBY6 := Lib.hid (HBY5.out.keep hb6)
    have HMX6 := Lib.hid (HMX5.out.grow hb6)
    have HMY6 := Lib.hid (HMY5.out.grow hb6)
    clear hb6 HB5 HBZ5 HBY5 HMX5 HMY5
    cases hgb : goodB x with
    | true =>
      have hee : encE x = 0 := by unfold encE; rw [hgb]; rfl
      rw [hee]
      have HGB := Lib.hid hgb
      clear hee hgb
      obtain ⟨d0, d1, d2, d3, d4, d5, d6, d7, d8, d9, d10, d11⟩ := HBZ6.out.cells
      obtain ⟨e0, e1, e2, e3, e4, e5, e6, e7, e8, e9, e10, e11⟩ := HBY6.out.cells
      go_wp2_with fail
      clear d0 d1 d2 d3 d4 d5 d6 d7 d8 d9 d10 d11 e0 e1 e2 e3 e4 e5 e6 e7 e8 e9 e10 e11
      go_at_call 15
      refine (keep_is x x true HSX.out oy ob ny x.m.length cy d HLY.out rfl HZX.out HZX.out _ HMY6.out HMX6.out).mono ?_
      rintro e w7 ⟨rfl, hb7⟩
      have HB7 := Lib.hid (bstep HB6.out hb7)
      have HBZ7 := Lib.hid (HBZ6.out.keep hb7)
      have HMX7 := Lib.hid (HMX6.out.grow hb7)
      clear hb7
      obtain ⟨d0, d1, d2, d3, d4, d5, d6, d7, d8, d9, d10, d11⟩ := HBZ7.out.cells
      go_wp2_with (first
        | (go_at_call 14; refine (rgood_is x true HGB.out HFX.out ob x.m.length d rfl _ HMX7.out).mono ?_; rintro e w8 ⟨rfl, hb8⟩; have HB8 := Lib.hid (bstep HB7.out hb8); clear hb8 d0 d1 d2 d3 d4 d5 d6 d7 d8 d9 d10 d11)
        | (go_at_call 9; refine (wakes_any _ (HF.out.keep HB8.out)).mono ?_; rintro e w9 ⟨rfl, hb9⟩; have HB9 := Lib.hid (bstep HB8.out hb9); clear hb9))
      go_ret
      exact ⟨rfl, HB9.out⟩
    | false =>
      have hee : encE x = 11 := by unfold encE; rw [hgb]; rfl
      rw [hee]
      have HGB := Lib.hid hgb
      clear hee hgb
      obtain ⟨d0, d1, d2, d3, d4, d5, d6, d7, d8, d9, d10, d11⟩ := HBZ6.out.cells
      obtain ⟨e0, e1, e2, e3, e4, e5, e6, e7, e8, e9, e10, e11⟩ := HBY6.out.cells
      go_wp2_with fail
      clear d0 d1 d2 d3 d4 d5 d6 d7 d8 d9 d10 d11 e0 e1 e2 e3 e4 e5 e6 e7 e8 e9 e10 e11
      go_at_call 15
      refine (keep_is x x true HSX.out oy ob ny x.m.length cy d HLY.out rfl HZX.out HZX.out _ HMY6.out HMX6.out).mono ?_
      rintro e w7 ⟨rfl, hb7⟩
      have HB7 := Lib.hid (bstep HB6.out hb7)
      have HBZ7 := Lib.hid (HBZ6.out.keep hb7)
      have HMX7 := Lib.hid (HMX6.out.grow hb7)
      clear hb7
      obtain ⟨d0, d1, d2, d3, d4, d5, d6, d7, d8, d9, d10, d11⟩ := HBZ7.out.cells
      go_wp2_with (first
        | (go_at_call 14; refine (rgood_is x false HGB.out HFX.out ob x.m.length d rfl _ HMX7.out).mono ?_; rintro e w8 ⟨rfl, hb8⟩; have HB8 := Lib.hid (bstep HB7.out hb8); clear hb8 d0 d1 d2 d3 d4 d5 d6 d7 d8 d9 d10 d11)
        | (go_at_call 9; refine (wakes_any _ (HF.out.keep HB8.out)).mono ?_; rintro e w9 ⟨rfl, hb9⟩; have HB9 := Lib.hid (bstep HB8.out hb9); clear hb9))
      go_ret
      exact ⟨rfl, HB9.out⟩
  · obtain ⟨hs1, hg1⟩ := chg_no HG.out hB HXN.out
    rw [hB] at hlen hmy ⊢
    have HLY := Lib.hid hlen
    have HSX := Lib.hid hs1
    have HEN := Lib.hid (enc_not hg1)
    have hal := below_alloc w4 (.cells #[.int .i64 r.cl, .int .i64 r.sq, .int .i64 r.k, .string r.p, .string r.t, .int .i64 r.sz, .int .i64 r.h, .int .i64 r.o, .string r.d, .int .i64 r.tk, .int .i64 r.i, .slice oy ny cy] 24)
    have HBY5 : Hid (OBox (w4.alloc (.cells #[.int .i64 r.cl, .int .i64 r.sq, .int .i64 r.k, .string r.p, .string r.t, .int .i64 r.sz, .int .i64 r.h, .int .i64 r.o, .string r.d, .int .i64 r.tk, .int .i64 r.i, .slice oy ny cy] 24)) w4.heap.size r (.slice oy ny cy)) := Lib.hid (heap_alloc_new w4 _)
    have HBZ5 := Lib.hid (HBZ4.out.keep hal)
    have HB5 := Lib.hid (bstep HB4.out hal)
    have HMX5 := Lib.hid (HMX4.out.grow hal)
    have HMY5 := Lib.hid (hmy.grow hal)
    clear hal HBZ4 HB4 HMX4
    clear hlen hmy hB hs1 hg1
    obtain ⟨d0, d1, d2, d3, d4, d5, d6, d7, d8, d9, d10, d11⟩ := HBZ5.out.cells
    go_wp2_with fail
    clear d0 d1 d2 d3 d4 d5 d6 d7 d8 d9 d10 d11
    generalize w4.alloc (.cells #[.int .i64 r.cl, .int .i64 r.sq, .int .i64 r.k, .string r.p, .string r.t, .int .i64 r.sz, .int .i64 r.h, .int .i64 r.o, .string r.d, .int .i64 r.tk, .int .i64 r.i, .slice oy ny cy] 24) = v5 at HBZ5 HBY5 HB5 HMX5 HMY5 ⊢
    generalize w4.heap.size = b5 at HBY5 ⊢
    go_at_call 11
    refine (enc_any x HFX.out ob x.m.length d rfl _ (HF.out.keep HB5.out) HMX5.out).mono ?_
    rintro e w6 ⟨rfl, hb6⟩
    have HB6 := Lib.hid (bstep HB5.out hb6)
    have HBZ6 := Lib.hid (HBZ5.out.keep hb6)
    have HBY6 := Lib.hid (HBY5.out.keep hb6)
    have HMX6 := Lib.hid (HMX5.out.grow hb6)
    have HMY6 := Lib.hid (HMY5.out.grow hb6)
    clear hb6 HB5 HBZ5 HBY5 HMX5 HMY5
    rw [HEN.out.1, HEN.out.2]
    obtain ⟨d0, d1, d2, d3, d4, d5, d6, d7, d8, d9, d10, d11⟩ := HBZ6.out.cells
    obtain ⟨e0, e1, e2, e3, e4, e5, e6, e7, e8, e9, e10, e11⟩ := HBY6.out.cells
    go_wp2_with fail
    clear d0 d1 d2 d3 d4 d5 d6 d7 d8 d9 d10 d11 e0 e1 e2 e3 e4 e5 e6 e7 e8 e9 e10 e11
    go_at_call 15
    refine (keep_is r x false HSX.out oy ob ny x.m.length cy d HLY.out rfl HR.out.2.2.2 HFX.out.2.2.2 _ HMY6.out HMX6.out).mono ?_
    rintro e w7 ⟨rfl, hb7⟩
    have HB7 := Lib.hid (bstep HB6.out hb7)
    have HBY7 := Lib.hid (HBY6.out.keep hb7)
    have HMY7 := Lib.hid (HMY6.out.grow hb7)
    clear hb7
    obtain ⟨d0, d1, d2, d3, d4, d5, d6, d7, d8, d9, d10, d11⟩ := HBY7.out.cells
    go_wp2_with (first
      | (go_at_call 13; refine (good_is r true HG.out HR.out oy ny cy HLY.out _ (HF.out.keep HB7.out) HMY7.out).mono ?_; rintro e w8 ⟨rfl, hb8⟩; have HB8 := Lib.hid (bstep HB7.out hb8); clear hb8 d0 d1 d2 d3 d4 d5 d6 d7 d8 d9 d10 d11)
      | (go_at_call 9; refine (wakes_any _ (HF.out.keep HB8.out)).mono ?_; rintro e w9 ⟨rfl, hb9⟩; have HB9 := Lib.hid (bstep HB8.out hb9); clear hb9))
    go_ret
    exact ⟨rfl, HB9.out⟩
set_option maxHeartbeats 6400000 in
theorem others_2 (r : Rec) (oa : Option Addr) (n c : Nat) (hn : n = r.m.length) (hc : oa = none → n = 0 ∧ c = 0) (z : Int) (hz : 0 ≤ z ∧ z ≤ 255) (hw : z % 7 = 2) (w : World) (hf : Fl w) (hm : MvAt w oa r.m) :
    Calls Tryd.prog 7 #[.agg #[.int .i64 r.cl, .int .i64 r.sq, .int .i64 r.k, .string r.p, .string r.t, .int .i64 r.sz, .int .i64 r.h, .int .i64 r.o, .string r.d, .int .i64 r.tk, .int .i64 r.i, .slice oa n c], .int .u8 z] w fun e w' => e = .returned (.bool true) ∧ Below w.heap.size w w' := by
  have HF := Lib.hid hf
  have HN := Lib.hid hn
  have HC := Lib.hid hc
  have H0 := Lib.hid (below_alloc w (.cells #[.int .i64 r.cl, .int .i64 r.sq, .int .i64 r.k, .string r.p, .string r.t, .int .i64 r.sz, .int .i64 r.h, .int .i64 r.o, .string r.d, .int .i64 r.tk, .int .i64 r.i, .slice oa n c] 24))
  have HM0 := Lib.hid (hm.grow H0.out)
  have HBX : Hid (OBox (w.alloc (.cells #[.int .i64 r.cl, .int .i64 r.sq, .int .i64 r.k, .string r.p, .string r.t, .int .i64 r.sz, .int .i64 r.h, .int .i64 r.o, .string r.d, .int .i64 r.tk, .int .i64 r.i, .slice oa n c] 24)) w.heap.size r (.slice oa n c)) := Lib.hid (heap_alloc_new w _)
  clear hf hn hc hm
  have q0 : (z % 7 == 0) = false := by rw [hw]; rfl
  have q1 : (z % 7 == 1) = false := by rw [hw]; rfl
  have q2 : (z % 7 == 2) = true := by rw [hw]; rfl
  have q3 : (z % 7 == 3) = false := by rw [hw]; rfl
  have q4 : (z % 7 == 4) = false := by rw [hw]; rfl
  have q5 : (z % 7 == 5) = false := by rw [hw]; rfl
  have q6 : (z % 7 == 6) = false := by rw [hw]; rfl
  cases hl : largeB r with
  | true =>
    have HL := Lib.hid hl
    clear hl
    go_enter Tryd.func7, Tryd.ntmps7
    go_wp2_with (first
      | (go_at_call 8; refine (large_is r oa n c true HL.out HN.out _).mono ?_; rintro e w1 ⟨rfl, hb1⟩; have HB1 := Lib.hid (bstep H0.out hb1); clear hb1)
      | (go_at_call 9; refine (wakes_any _ (HF.out.keep HB1.out)).mono ?_; rintro e w2 ⟨rfl, hb2⟩; have HB2 := Lib.hid (bstep HB1.out hb2); clear hb2))
    go_ret
    exact ⟨rfl, HB2.out⟩
  | false =>
  have HL := Lib.hid hl
  have HR := Lib.hid (small_fit (large_not hl))
  have HSM := Lib.hid (large_not hl)
  clear hl
  go_enter Tryd.func7, Tryd.ntmps7
  go_wp2_with fail
  generalize w.alloc (.cells #[.int .i64 r.cl, .int .i64 r.sq, .int .i64 r.k, .string r.p, .string r.t, .int .i64 r.sz, .int .i64 r.h, .int .i64 r.o, .string r.d, .int .i64 r.tk, .int .i64 r.i, .slice oa n c] 24) = w0 at H0 HM0 HBX ⊢
  go_at_call 8
  refine (large_is r oa n c false HL.out HN.out _).mono ?_
  rintro e w1 ⟨rfl, hb1⟩
  have HB1 := Lib.hid (bstep H0.out hb1)
  have HBX1 := Lib.hid (HBX.out.keep hb1)
  have HM1 := Lib.hid (HM0.out.grow hb1)
  obtain ⟨d0, d1, d2, d3, d4, d5, d6, d7, d8, d9, d10, d11⟩ := HBX1.out.cells
  clear hb1 HM0 HBX
  go_wp2_with fail
  clear d0 d1 d2 d3 d4 d5 d6 d7 d8 d9 d10 d11
  cases hg : goodB r with
  | false =>
    have HG := Lib.hid hg
    clear hg
    go_at_call 14
    refine (rgood_is r false HG.out HR.out oa n c HN.out _ HM1.out).mono ?_
    rintro e w2 ⟨rfl, hb2⟩
    have HB2 := Lib.hid (bstep HB1.out hb2)
    clear hb2
    go_wp2_with (go_at_call 9; refine (wakes_any _ (HF.out.keep HB2.out)).mono ?_; rintro e w3 ⟨rfl, hb3⟩; have HB3 := Lib.hid (bstep HB2.out hb3); clear hb3)
    go_ret
    exact ⟨rfl, HB3.out⟩
  | true =>
  have HG := Lib.hid hg
  have hnn := good_nn hg
  have hsm := HSM.out
  unfold Small at hsm
  have hw64 : wrap64 (r.sz + 1) = r.sz + 1 := IntWalk.wrap64_in _ (by have := hnn.1; omega)
  clear hnn hsm
  clear hg
  go_at_call 14
  refine (rgood_is r true HG.out HR.out oa n c HN.out _ HM1.out).mono ?_
  rintro e w2 ⟨rfl, hb2⟩
  have HB2 := Lib.hid (bstep HB1.out hb2)
  have HBX2 := Lib.hid (HBX1.out.keep hb2)
  have HM2 := Lib.hid (HM1.out.grow hb2)
  obtain ⟨d0, d1, d2, d3, d4, d5, d6, d7, d8, d9, d10, d11⟩ := HBX2.out.cells
  clear hb2 HBX1 HM1 HB1
  go_wp2_with fail
  clear d0 d1 d2 d3 d4 d5 d6 d7 d8 d9 d10 d11
  go_at_call 10
  refine (copy_any r oa n c HN.out HC.out HR.out.2.2.2 _ HM2.out).mono ?_
  rintro e w3 ⟨ob, d, rfl, hc3, hm3, hb3⟩
  have HK3 := Lib.hid (bstep HB2.out hb3)
  have HM3 := Lib.hid hm3
  clear hc3 hm3 hb3 HBX2 HM2 HB2
  go_wp2_with fail
  obtain ⟨x, hx⟩ : ∃ x : Rec, x = ⟨r.cl, r.sq, r.k, r.p, r.t, (r.sz + 1), r.h, r.o, r.d, r.tk, r.i, r.m⟩ := ⟨_, rfl⟩
  have hbx : Below w3.heap.size w3 (w3.alloc (.cells #[.int .i64 r.cl, .int .i64 r.sq, .int .i64 r.k, .string r.p, .string r.t, .int .i64 (r.sz + 1), .int .i64 r.h, .int .i64 r.o, .string r.d, .int .i64 r.tk, .int .i64 r.i, .slice ob r.m.length d] 24)) := below_alloc w3 _
  have hbz : OBox (w3.alloc (.cells #[.int .i64 r.cl, .int .i64 r.sq, .int .i64 r.k, .string r.p, .string r.t, .int .i64 (r.sz + 1), .int .i64 r.h, .int .i64 r.o, .string r.d, .int .i64 r.tk, .int .i64 r.i, .slice ob r.m.length d] 24)) w3.heap.size x (.slice ob r.m.length d) := by rw [hx]; exact heap_alloc_new w3 _
  have hmx : MvAt (w3.alloc (.cells #[.int .i64 r.cl, .int .i64 r.sq, .int .i64 r.k, .string r.p, .string r.t, .int .i64 (r.sz + 1), .int .i64 r.h, .int .i64 r.o, .string r.d, .int .i64 r.tk, .int .i64 r.i, .slice ob r.m.length d] 24)) ob x.m := by rw [hx]; exact HM3.out.grow hbx
  have hb3 : Below w.heap.size w (w3.alloc (.cells #[.int .i64 r.cl, .int .i64 r.sq, .int .i64 r.k, .string r.p, .string r.t, .int .i64 (r.sz + 1), .int .i64 r.h, .int .i64 r.o, .string r.d, .int .i64 r.tk, .int .i64 r.i, .slice ob r.m.length d] 24)) := bstep HK3.out hbx
  clear hbx HM3 HK3
  generalize (w3.alloc (.cells #[.int .i64 r.cl, .int .i64 r.sq, .int .i64 r.k, .string r.p, .string r.t, .int .i64 (r.sz + 1), .int .i64 r.h, .int .i64 r.o, .string r.d, .int .i64 r.tk, .int .i64 r.i, .slice ob r.m.length d] 24)) = v3 at hbz hmx hb3 ⊢
  generalize w3.heap.size = b3 at hbz ⊢
  have hC : only x = x ∨ only x = r := by rw [hx]; exact only_chg_sz HG.out _
  have hne : r ≠ x := by rw [hx]; intro h; have h1 := congrArg Rec.sz h; dsimp only at h1; omega
  have HFX : Hid (Fit x) := Lib.hid (by rw [hx]; have := HR.out; have := HSM.out; unfold Fit Small at *; refine ⟨?_, ?_, ?_, ?_⟩ <;> dsimp only <;> (try rw [show ∀ a b : ByteArray, (a ++ b).size = a.size + b.size from fun a b => by simp [ByteArray.size_append]]) <;> (try (have : (⟨#[47, 97]⟩ : ByteArray).size = 2 := rfl)) <;> omega)
  have Ecl : r.cl = x.cl := by rw [hx]
  have Esq : r.sq = x.sq := by rw [hx]
  have Ek : r.k = x.k := by rw [hx]
  have Ep : r.p = x.p := by rw [hx]
  have Et : r.t = x.t := by rw [hx]
  have Esz : r.sz + 1 = x.sz := by rw [hx]
  have Eh : r.h = x.h := by rw [hx]
  have Eo : r.o = x.o := by rw [hx]
  have Ed : r.d = x.d := by rw [hx]
  have Etk : r.tk = x.tk := by rw [hx]
  have Ei : r.i = x.i := by rw [hx]
  have Em : r.m = x.m := by rw [hx]
  clear hx
  simp only [Ecl, Esq, Ek, Ep, Et, Esz, Eh, Eo, Ed, Etk, Ei, Em] at hbz ⊢
  have HBZ := Lib.hid hbz
  have HMX := Lib.hid hmx
  have HV3 := Lib.hid hb3
  have HXN := Lib.hid hne
  clear Ecl Esq Ek Ep Et Esz Eh Eo Ed Etk Ei Em hbz hmx hb3 hne hw64
  go_at_call 19
  refine (only_any x ob x.m.length d _).mono ?_
  rintro e w4 ⟨rfl, hb4⟩
  have hlen := only_len x x.m.length rfl
  have hmy := only_mv x ob w4 (HMX.out.grow hb4)
  have HBZ4 := Lib.hid (HBZ.out.keep hb4)
  have HB4 := Lib.hid (bstep HV3.out hb4)
  have HMX4 := Lib.hid (HMX.out.grow hb4)
  clear hb4 HBZ HV3 HMX
  generalize onlyA x ob = oy at hmy ⊢
  generalize onlyN x x.m.length = ny at hlen ⊢
  generalize onlyN x d = cy
  rcases hC with hA | hB
  · rw [hA] at hlen hmy ⊢
    have HLY := Lib.hid hlen
    have hal := below_alloc w4 (.cells #[.int .i64 x.cl, .int .i64 x.sq, .int .i64 x.k, .string x.p, .string x.t, .int .i64 x.sz, .int .i64 x.h, .int .i64 x.o, .string x.d, .int .i64 x.tk, .int .i64 x.i, .slice oy ny cy] 24)
    have HBY5 : Hid (OBox (w4.alloc (.cells #[.int .i64 x.cl, .int .i64 x.sq, .int .i64 x.k, .string x.p, .string x.t, .int .i64 x.sz, .int .i64 x.h, .int .i64 x.o, .string x.d, .int .i64 x.tk, .int .i64 x.i, .slice oy ny cy] 24)) w4.heap.size x (.slice oy ny cy)) := Lib.hid (heap_alloc_new w4 _)
    have HBZ5 := Lib.hid (HBZ4.out.keep hal)
    have HB5 := Lib.hid (bstep HB4.out hal)
    have HMX5 := Lib.hid (HMX4.out.grow hal)
    have HMY5 := Lib.hid (hmy.grow hal)
    clear hal HBZ4 HB4 HMX4
    clear hlen hmy hA
    have HSX : Hid (sameB x x = true) := Lib.hid ((sameB_iff _ _).2 rfl)
    have HZX : Hid (x.m.length ≤ 1000000) := Lib.hid HFX.out.2.2.2
    obtain ⟨d0, d1, d2, d3, d4, d5, d6, d7, d8, d9, d10, d11⟩ := HBZ5.out.cells
    go_wp2_with fail
    clear d0 d1 d2 d3 d4 d5 d6 d7 d8 d9 d10 d11
    generalize w4.alloc (.cells #[.int .i64 x.cl, .int .i64 x.sq, .int .i64 x.k, .string x.p, .string x.t, .int .i64 x.sz, .int .i64 x.h, .int .i64 x.o, .string x.d, .int .i64 x.tk, .int .i64 x.i, .slice oy ny cy] 24) = v5 at HBZ5 HBY5 HB5 HMX5 HMY5 ⊢
    generalize w4.heap.size = b5 at HBY5 ⊢
    go_at_call 11
    refine (enc_any x HFX.out ob x.m.length d rfl _ (HF.out.keep HB5.out) HMX5.out).mono ?_
    rintro e w6 ⟨rfl, hb6⟩
    have HB6 := Lib.hid (bstep HB5.out hb6)
    have HBZ6 := Lib.hid (HBZ5.out.keep hb6)
    have HBY6 := Lib.hid (HBY5.out.keep hb6)
    have HMX6 := Lib.hid (HMX5.out.grow hb6)
    have HMY6 := Lib.hid (HMY5.out.grow hb6)
    clear hb6 HB5 HBZ5 HBY5 HMX5 HMY5
    cases hgb : goodB x with
    | true =>
      have hee : encE x = 0 := by unfold encE; rw [hgb]; rfl
      rw [hee]
      have HGB := Lib.hid hgb
      clear hee hgb
      obtain ⟨d0, d1, d2, d3, d4, d5, d6, d7, d8, d9, d10, d11⟩ := HBZ6.out.cells
      obtain ⟨e0, e1, e2, e3, e4, e5, e6, e7, e8, e9, e10, e11⟩ := HBY6.out.cells
      go_wp2_with fail
      clear d0 d1 d2 d3 d4 d5 d6 d7 d8 d9 d10 d11 e0 e1 e2 e3 e4 e5 e6 e7 e8 e9 e10 e11
      go_at_call 15
      refine (keep_is x x true HSX.out oy ob ny x.m.length cy d HLY.out rfl HZX.out HZX.out _ HMY6.out HMX6.out).mono ?_
      rintro e w7 ⟨rfl, hb7⟩
      have HB7 := Lib.hid (bstep HB6.out hb7)
      have HBZ7 := Lib.hid (HBZ6.out.keep hb7)
      have HMX7 := Lib.hid (HMX6.out.grow hb7)
      clear hb7
      obtain ⟨d0, d1, d2, d3, d4, d5, d6, d7, d8, d9, d10, d11⟩ := HBZ7.out.cells
      go_wp2_with (first
        | (go_at_call 14; refine (rgood_is x true HGB.out HFX.out ob x.m.length d rfl _ HMX7.out).mono ?_; rintro e w8 ⟨rfl, hb8⟩; have HB8 := Lib.hid (bstep HB7.out hb8); clear hb8 d0 d1 d2 d3 d4 d5 d6 d7 d8 d9 d10 d11)
        | (go_at_call 9; refine (wakes_any _ (HF.out.keep HB8.out)).mono ?_; rintro e w9 ⟨rfl, hb9⟩; have HB9 := Lib.hid (bstep HB8.out hb9); clear hb9))
      go_ret
      exact ⟨rfl, HB9.out⟩
    | false =>
      have hee : encE x = 11 := by unfold encE; rw [hgb]; rfl
      rw [hee]
      have HGB := Lib.hid hgb
      clear hee hgb
      obtain ⟨d0, d1, d2, d3, d4, d5, d6, d7, d8, d9, d10, d11⟩ := HBZ6.out.cells
      obtain ⟨e0, e1, e2, e3, e4, e5, e6, e7, e8, e9, e10, e11⟩ := HBY6.out.cells
      go_wp2_with fail
      clear d0 d1 d2 d3 d4 d5 d6 d7 d8 d9 d10 d11 e0 e1 e2 e3 e4 e5 e6 e7 e8 e9 e10 e11
      go_at_call 15
      refine (keep_is x x true HSX.out oy ob ny x.m.length cy d HLY.out rfl HZX.out HZX.out _ HMY6.out HMX6.out).mono ?_
      rintro e w7 ⟨rfl, hb7⟩
      have HB7 := Lib.hid (bstep HB6.out hb7)
      have HBZ7 := Lib.hid (HBZ6.out.keep hb7)
      have HMX7 := Lib.hid (HMX6.out.grow hb7)
      clear hb7
      obtain ⟨d0, d1, d2, d3, d4, d5, d6, d7, d8, d9, d10, d11⟩ := HBZ7.out.cells
      go_wp2_with (first
        | (go_at_call 14; refine (rgood_is x false HGB.out HFX.out ob x.m.length d rfl _ HMX7.out).mono ?_; rintro e w8 ⟨rfl, hb8⟩; have HB8 := Lib.hid (bstep HB7.out hb8); clear hb8 d0 d1 d2 d3 d4 d5 d6 d7 d8 d9 d10 d11)
        | (go_at_call 9; refine (wakes_any _ (HF.out.keep HB8.out)).mono ?_; rintro e w9 ⟨rfl, hb9⟩; have HB9 := Lib.hid (bstep HB8.out hb9); clear hb9))
      go_ret
      exact ⟨rfl, HB9.out⟩
  · obtain ⟨hs1, hg1⟩ := chg_no HG.out hB HXN.out
    rw [hB] at hlen hmy ⊢
    have HLY := Lib.hid hlen
    have HSX := Lib.hid hs1
    have HEN := Lib.hid (enc_not hg1)
    have hal := below_alloc w4 (.cells #[.int .i64 r.cl, .int .i64 r.sq, .int .i64 r.k, .string r.p, .string r.t, .int .i64 r.sz, .int .i64 r.h, .int .i64 r.o, .string r.d, .int .i64 r.tk, .int .i64 r.i, .slice oy ny cy] 24)
    have HBY5 : Hid (OBox (w4.alloc (.cells #[.int .i64 r.cl, .int .i64 r.sq, .int .i64 r.k, .string r.p, .string r.t, .int .i64 r.sz, .int .i64 r.h, .int .i64 r.o, .string r.d, .int .i64 r.tk, .int .i64 r.i, .slice oy ny cy] 24)) w4.heap.size r (.slice oy ny cy)) := Lib.hid (heap_alloc_new w4 _)
    have HBZ5 := Lib.hid (HBZ4.out.keep hal)
    have HB5 := Lib.hid (bstep HB4.out hal)
    have HMX5 := Lib.hid (HMX4.out.grow hal)
    have HMY5 := Lib.hid (hmy.grow hal)
    clear hal HBZ4 HB4 HMX4
    clear hlen hmy hB hs1 hg1
    obtain ⟨d0, d1, d2, d3, d4, d5, d6, d7, d8, d9, d10, d11⟩ := HBZ5.out.cells
    go_wp2_with fail
    clear d0 d1 d2 d3 d4 d5 d6 d7 d8 d9 d10 d11
    generalize w4.alloc (.cells #[.int .i64 r.cl, .int .i64 r.sq, .int .i64 r.k, .string r.p, .string r.t, .int .i64 r.sz, .int .i64 r.h, .int .i64 r.o, .string r.d, .int .i64 r.tk, .int .i64 r.i, .slice oy ny cy] 24) = v5 at HBZ5 HBY5 HB5 HMX5 HMY5 ⊢
    generalize w4.heap.size = b5 at HBY5 ⊢
    go_at_call 11
    refine (enc_any x HFX.out ob x.m.length d rfl _ (HF.out.keep HB5.out) HMX5.out).mono ?_
    rintro e w6 ⟨rfl, hb6⟩
    have HB6 := Lib.hid (bstep HB5.out hb6)
    have HBZ6 := Lib.hid (HBZ5.out.keep hb6)
    have HBY6 := Lib.hid (HBY5.out.keep hb6)
    have HMX6 := Lib.hid (HMX5.out.grow hb6)
    have HMY6 := Lib.hid (HMY5.out.grow hb6)
    clear hb6 HB5 HBZ5 HBY5 HMX5 HMY5
    rw [HEN.out.1, HEN.out.2]
    obtain ⟨d0, d1, d2, d3, d4, d5, d6, d7, d8, d9, d10, d11⟩ := HBZ6.out.cells
    obtain ⟨e0, e1, e2, e3, e4, e5, e6, e7, e8, e9, e10, e11⟩ := HBY6.out.cells
    go_wp2_with fail
    clear d0 d1 d2 d3 d4 d5 d6 d7 d8 d9 d10 d11 e0 e1 e2 e3 e4 e5 e6 e7 e8 e9 e10 e11
    go_at_call 15
    refine (keep_is r x false HSX.out oy ob ny x.m.length cy d HLY.out rfl HR.out.2.2.2 HFX.out.2.2.2 _ HMY6.out HMX6.out).mono ?_
    rintro e w7 ⟨rfl, hb7⟩
    have HB7 := Lib.hid (bstep HB6.out hb7)
    have HBY7 := Lib.hid (HBY6.out.keep hb7)
    have HMY7 := Lib.hid (HMY6.out.grow hb7)
    clear hb7
    obtain ⟨d0, d1, d2, d3, d4, d5, d6, d7, d8, d9, d10, d11⟩ := HBY7.out.cells
    go_wp2_with (first
      | (go_at_call 13; refine (good_is r true HG.out HR.out oy ny cy HLY.out _ (HF.out.keep HB7.out) HMY7.out).mono ?_; rintro e w8 ⟨rfl, hb8⟩; have HB8 := Lib.hid (bstep HB7.out hb8); clear hb8 d0 d1 d2 d3 d4 d5 d6 d7 d8 d9 d10 d11)
      | (go_at_call 9; refine (wakes_any _ (HF.out.keep HB8.out)).mono ?_; rintro e w9 ⟨rfl, hb9⟩; have HB9 := Lib.hid (bstep HB8.out hb9); clear hb9))
    go_ret
    exact ⟨rfl, HB9.out⟩
set_option maxHeartbeats 6400000 in
theorem others_3 (r : Rec) (oa : Option Addr) (n c : Nat) (hn : n = r.m.length) (hc : oa = none → n = 0 ∧ c = 0) (z : Int) (hz : 0 ≤ z ∧ z ≤ 255) (hw : z % 7 = 3) (w : World) (hf : Fl w) (hm : MvAt w oa r.m) :
    Calls Tryd.prog 7 #[.agg #[.int .i64 r.cl, .int .i64 r.sq, .int .i64 r.k, .string r.p, .string r.t, .int .i64 r.sz, .int .i64 r.h, .int .i64 r.o, .string r.d, .int .i64 r.tk, .int .i64 r.i, .slice oa n c], .int .u8 z] w fun e w' => e = .returned (.bool true) ∧ Below w.heap.size w w' := by
  have HF := Lib.hid hf
  have HN := Lib.hid hn
  have HC := Lib.hid hc
  have H0 := Lib.hid (below_alloc w (.cells #[.int .i64 r.cl, .int .i64 r.sq, .int .i64 r.k, .string r.p, .string r.t, .int .i64 r.sz, .int .i64 r.h, .int .i64 r.o, .string r.d, .int .i64 r.tk, .int .i64 r.i, .slice oa n c] 24))
  have HM0 := Lib.hid (hm.grow H0.out)
  have HBX : Hid (OBox (w.alloc (.cells #[.int .i64 r.cl, .int .i64 r.sq, .int .i64 r.k, .string r.p, .string r.t, .int .i64 r.sz, .int .i64 r.h, .int .i64 r.o, .string r.d, .int .i64 r.tk, .int .i64 r.i, .slice oa n c] 24)) w.heap.size r (.slice oa n c)) := Lib.hid (heap_alloc_new w _)
  clear hf hn hc hm
  have q0 : (z % 7 == 0) = false := by rw [hw]; rfl
  have q1 : (z % 7 == 1) = false := by rw [hw]; rfl
  have q2 : (z % 7 == 2) = false := by rw [hw]; rfl
  have q3 : (z % 7 == 3) = true := by rw [hw]; rfl
  have q4 : (z % 7 == 4) = false := by rw [hw]; rfl
  have q5 : (z % 7 == 5) = false := by rw [hw]; rfl
  have q6 : (z % 7 == 6) = false := by rw [hw]; rfl
  cases hl : largeB r with
  | true =>
    have HL := Lib.hid hl
    clear hl
    go_enter Tryd.func7, Tryd.ntmps7
    go_wp2_with (first
      | (go_at_call 8; refine (large_is r oa n c true HL.out HN.out _).mono ?_; rintro e w1 ⟨rfl, hb1⟩; have HB1 := Lib.hid (bstep H0.out hb1); clear hb1)
      | (go_at_call 9; refine (wakes_any _ (HF.out.keep HB1.out)).mono ?_; rintro e w2 ⟨rfl, hb2⟩; have HB2 := Lib.hid (bstep HB1.out hb2); clear hb2))
    go_ret
    exact ⟨rfl, HB2.out⟩
  | false =>
  have HL := Lib.hid hl
  have HR := Lib.hid (small_fit (large_not hl))
  have HSM := Lib.hid (large_not hl)
  clear hl
  go_enter Tryd.func7, Tryd.ntmps7
  go_wp2_with fail
  generalize w.alloc (.cells #[.int .i64 r.cl, .int .i64 r.sq, .int .i64 r.k, .string r.p, .string r.t, .int .i64 r.sz, .int .i64 r.h, .int .i64 r.o, .string r.d, .int .i64 r.tk, .int .i64 r.i, .slice oa n c] 24) = w0 at H0 HM0 HBX ⊢
  go_at_call 8
  refine (large_is r oa n c false HL.out HN.out _).mono ?_
  rintro e w1 ⟨rfl, hb1⟩
  have HB1 := Lib.hid (bstep H0.out hb1)
  have HBX1 := Lib.hid (HBX.out.keep hb1)
  have HM1 := Lib.hid (HM0.out.grow hb1)
  obtain ⟨d0, d1, d2, d3, d4, d5, d6, d7, d8, d9, d10, d11⟩ := HBX1.out.cells
  clear hb1 HM0 HBX
  go_wp2_with fail
  clear d0 d1 d2 d3 d4 d5 d6 d7 d8 d9 d10 d11
  cases hg : goodB r with
  | false =>
    have HG := Lib.hid hg
    clear hg
    go_at_call 14
    refine (rgood_is r false HG.out HR.out oa n c HN.out _ HM1.out).mono ?_
    rintro e w2 ⟨rfl, hb2⟩
    have HB2 := Lib.hid (bstep HB1.out hb2)
    clear hb2
    go_wp2_with (go_at_call 9; refine (wakes_any _ (HF.out.keep HB2.out)).mono ?_; rintro e w3 ⟨rfl, hb3⟩; have HB3 := Lib.hid (bstep HB2.out hb3); clear hb3)
    go_ret
    exact ⟨rfl, HB3.out⟩
  | true =>
  have HG := Lib.hid hg
  have hnn := good_nn hg
  have hsm := HSM.out
  unfold Small at hsm
  have hw64 : wrap64 (r.h + 1) = r.h + 1 := IntWalk.wrap64_in _ (by have := hnn.2.1; omega)
  clear hnn hsm
  clear hg
  go_at_call 14
  refine (rgood_is r true HG.out HR.out oa n c HN.out _ HM1.out).mono ?_
  rintro e w2 ⟨rfl, hb2⟩
  have HB2 := Lib.hid (bstep HB1.out hb2)
  have HBX2 := Lib.hid (HBX1.out.keep hb2)
  have HM2 := Lib.hid (HM1.out.grow hb2)
  obtain ⟨d0, d1, d2, d3, d4, d5, d6, d7, d8, d9, d10, d11⟩ := HBX2.out.cells
  clear hb2 HBX1 HM1 HB1
  go_wp2_with fail
  clear d0 d1 d2 d3 d4 d5 d6 d7 d8 d9 d10 d11
  go_at_call 10
  refine (copy_any r oa n c HN.out HC.out HR.out.2.2.2 _ HM2.out).mono ?_
  rintro e w3 ⟨ob, d, rfl, hc3, hm3, hb3⟩
  have HK3 := Lib.hid (bstep HB2.out hb3)
  have HM3 := Lib.hid hm3
  clear hc3 hm3 hb3 HBX2 HM2 HB2
  go_wp2_with fail
  obtain ⟨x, hx⟩ : ∃ x : Rec, x = ⟨r.cl, r.sq, r.k, r.p, r.t, r.sz, (r.h + 1), r.o, r.d, r.tk, r.i, r.m⟩ := ⟨_, rfl⟩
  have hbx : Below w3.heap.size w3 (w3.alloc (.cells #[.int .i64 r.cl, .int .i64 r.sq, .int .i64 r.k, .string r.p, .string r.t, .int .i64 r.sz, .int .i64 (r.h + 1), .int .i64 r.o, .string r.d, .int .i64 r.tk, .int .i64 r.i, .slice ob r.m.length d] 24)) := below_alloc w3 _
  have hbz : OBox (w3.alloc (.cells #[.int .i64 r.cl, .int .i64 r.sq, .int .i64 r.k, .string r.p, .string r.t, .int .i64 r.sz, .int .i64 (r.h + 1), .int .i64 r.o, .string r.d, .int .i64 r.tk, .int .i64 r.i, .slice ob r.m.length d] 24)) w3.heap.size x (.slice ob r.m.length d) := by rw [hx]; exact heap_alloc_new w3 _
  have hmx : MvAt (w3.alloc (.cells #[.int .i64 r.cl, .int .i64 r.sq, .int .i64 r.k, .string r.p, .string r.t, .int .i64 r.sz, .int .i64 (r.h + 1), .int .i64 r.o, .string r.d, .int .i64 r.tk, .int .i64 r.i, .slice ob r.m.length d] 24)) ob x.m := by rw [hx]; exact HM3.out.grow hbx
  have hb3 : Below w.heap.size w (w3.alloc (.cells #[.int .i64 r.cl, .int .i64 r.sq, .int .i64 r.k, .string r.p, .string r.t, .int .i64 r.sz, .int .i64 (r.h + 1), .int .i64 r.o, .string r.d, .int .i64 r.tk, .int .i64 r.i, .slice ob r.m.length d] 24)) := bstep HK3.out hbx
  clear hbx HM3 HK3
  generalize (w3.alloc (.cells #[.int .i64 r.cl, .int .i64 r.sq, .int .i64 r.k, .string r.p, .string r.t, .int .i64 r.sz, .int .i64 (r.h + 1), .int .i64 r.o, .string r.d, .int .i64 r.tk, .int .i64 r.i, .slice ob r.m.length d] 24)) = v3 at hbz hmx hb3 ⊢
  generalize w3.heap.size = b3 at hbz ⊢
  have hC : only x = x ∨ only x = r := by rw [hx]; exact only_chg_h HG.out _
  have hne : r ≠ x := by rw [hx]; intro h; have h1 := congrArg Rec.h h; dsimp only at h1; omega
  have HFX : Hid (Fit x) := Lib.hid (by rw [hx]; have := HR.out; have := HSM.out; unfold Fit Small at *; refine ⟨?_, ?_, ?_, ?_⟩ <;> dsimp only <;> (try rw [show ∀ a b : ByteArray, (a ++ b).size = a.size + b.size from fun a b => by simp [ByteArray.size_append]]) <;> (try (have : (⟨#[47, 97]⟩ : ByteArray).size = 2 := rfl)) <;> omega)
  have Ecl : r.cl = x.cl := by rw [hx]
  have Esq : r.sq = x.sq := by rw [hx]
  have Ek : r.k = x.k := by rw [hx]
  have Ep : r.p = x.p := by rw [hx]
  have Et : r.t = x.t := by rw [hx]
  have Esz : r.sz = x.sz := by rw [hx]
  have Eh : r.h + 1 = x.h := by rw [hx]
  have Eo : r.o = x.o := by rw [hx]
  have Ed : r.d = x.d := by rw [hx]
  have Etk : r.tk = x.tk := by rw [hx]
  have Ei : r.i = x.i := by rw [hx]
  have Em : r.m = x.m := by rw [hx]
  clear hx
  simp only [Ecl, Esq, Ek, Ep, Et, Esz, Eh, Eo, Ed, Etk, Ei, Em] at hbz ⊢
  have HBZ := Lib.hid hbz
  have HMX := Lib.hid hmx
  have HV3 := Lib.hid hb3
  have HXN := Lib.hid hne
  clear Ecl Esq Ek Ep Et Esz Eh Eo Ed Etk Ei Em hbz hmx hb3 hne hw64
  go_at_call 19
  refine (only_any x ob x.m.length d _).mono ?_
  rintro e w4 ⟨rfl, hb4⟩
  have hlen := only_len x x.m.length rfl
  have hmy := only_mv x ob w4 (HMX.out.grow hb4)
  have HBZ4 := Lib.hid (HBZ.out.keep hb4)
  have HB4 := Lib.hid (bstep HV3.out hb4)
  have HMX4 := Lib.hid (HMX.out.grow hb4)
  clear hb4 HBZ HV3 HMX
  generalize onlyA x ob = oy at hmy ⊢
  generalize onlyN x x.m.length = ny at hlen ⊢
  generalize onlyN x d = cy
  rcases hC with hA | hB
  · rw [hA] at hlen hmy ⊢
    have HLY := Lib.hid hlen
    have hal := below_alloc w4 (.cells #[.int .i64 x.cl, .int .i64 x.sq, .int .i64 x.k, .string x.p, .string x.t, .int .i64 x.sz, .int .i64 x.h, .int .i64 x.o, .string x.d, .int .i64 x.tk, .int .i64 x.i, .slice oy ny cy] 24)
    have HBY5 : Hid (OBox (w4.alloc (.cells #[.int .i64 x.cl, .int .i64 x.sq, .int .i64 x.k, .string x.p, .string x.t, .int .i64 x.sz, .int .i64 x.h, .int .i64 x.o, .string x.d, .int .i64 x.tk, .int .i64 x.i, .slice oy ny cy] 24)) w4.heap.size x (.slice oy ny cy)) := Lib.hid (heap_alloc_new w4 _)
    have HBZ5 := Lib.hid (HBZ4.out.keep hal)
    have HB5 := Lib.hid (bstep HB4.out hal)
    have HMX5 := Lib.hid (HMX4.out.grow hal)
    have HMY5 := Lib.hid (hmy.grow hal)
    clear hal HBZ4 HB4 HMX4
    clear hlen hmy hA
    have HSX : Hid (sameB x x = true) := Lib.hid ((sameB_iff _ _).2 rfl)
    have HZX : Hid (x.m.length ≤ 1000000) := Lib.hid HFX.out.2.2.2
    obtain ⟨d0, d1, d2, d3, d4, d5, d6, d7, d8, d9, d10, d11⟩ := HBZ5.out.cells
    go_wp2_with fail
    clear d0 d1 d2 d3 d4 d5 d6 d7 d8 d9 d10 d11
    generalize w4.alloc (.cells #[.int .i64 x.cl, .int .i64 x.sq, .int .i64 x.k, .string x.p, .string x.t, .int .i64 x.sz, .int .i64 x.h, .int .i64 x.o, .string x.d, .int .i64 x.tk, .int .i64 x.i, .slice oy ny cy] 24) = v5 at HBZ5 HBY5 HB5 HMX5 HMY5 ⊢
    generalize w4.heap.size = b5 at HBY5 ⊢
    go_at_call 11
    refine (enc_any x HFX.out ob x.m.length d rfl _ (HF.out.keep HB5.out) HMX5.out).mono ?_
    rintro e w6 ⟨rfl, hb6⟩
    have HB6 := Lib.hid (bstep HB5.out hb6)
    have HBZ6 := Lib.hid (HBZ5.out.keep hb6)
    have HBY6 := Lib.hid (HBY5.out.keep hb6)
    have HMX6 := Lib.hid (HMX5.out.grow hb6)
    have HMY6 := Lib.hid (HMY5.out.grow hb6)
    clear hb6 HB5 HBZ5 HBY5 HMX5 HMY5
    cases hgb : goodB x with
    | true =>
      have hee : encE x = 0 := by unfold encE; rw [hgb]; rfl
      rw [hee]
      have HGB := Lib.hid hgb
      clear hee hgb
      obtain ⟨d0, d1, d2, d3, d4, d5, d6, d7, d8, d9, d10, d11⟩ := HBZ6.out.cells
      obtain ⟨e0, e1, e2, e3, e4, e5, e6, e7, e8, e9, e10, e11⟩ := HBY6.out.cells
      go_wp2_with fail
      clear d0 d1 d2 d3 d4 d5 d6 d7 d8 d9 d10 d11 e0 e1 e2 e3 e4 e5 e6 e7 e8 e9 e10 e11
      go_at_call 15
      refine (keep_is x x true HSX.out oy ob ny x.m.length cy d HLY.out rfl HZX.out HZX.out _ HMY6.out HMX6.out).mono ?_
      rintro e w7 ⟨rfl, hb7⟩
      have HB7 := Lib.hid (bstep HB6.out hb7)
      have HBZ7 := Lib.hid (HBZ6.out.keep hb7)
      have HMX7 := Lib.hid (HMX6.out.grow hb7)
      clear hb7
      obtain ⟨d0, d1, d2, d3, d4, d5, d6, d7, d8, d9, d10, d11⟩ := HBZ7.out.cells
      go_wp2_with (first
        | (go_at_call 14; refine (rgood_is x true HGB.out HFX.out ob x.m.length d rfl _ HMX7.out).mono ?_; rintro e w8 ⟨rfl, hb8⟩; have HB8 := Lib.hid (bstep HB7.out hb8); clear hb8 d0 d1 d2 d3 d4 d5 d6 d7 d8 d9 d10 d11)
        | (go_at_call 9; refine (wakes_any _ (HF.out.keep HB8.out)).mono ?_; rintro e w9 ⟨rfl, hb9⟩; have HB9 := Lib.hid (bstep HB8.out hb9); clear hb9))
      go_ret
      exact ⟨rfl, HB9.out⟩
    | false =>
      have hee : encE x = 11 := by unfold encE; rw [hgb]; rfl
      rw [hee]
      have HGB := Lib.hid hgb
      clear hee hgb
      obtain ⟨d0, d1, d2, d3, d4, d5, d6, d7, d8, d9, d10, d11⟩ := HBZ6.out.cells
      obtain ⟨e0, e1, e2, e3, e4, e5, e6, e7, e8, e9, e10, e11⟩ := HBY6.out.cells
      go_wp2_with fail
      clear d0 d1 d2 d3 d4 d5 d6 d7 d8 d9 d10 d11 e0 e1 e2 e3 e4 e5 e6 e7 e8 e9 e10 e11
      go_at_call 15
      refine (keep_is x x true HSX.out oy ob ny x.m.length cy d HLY.out rfl HZX.out HZX.out _ HMY6.out HMX6.out).mono ?_
      rintro e w7 ⟨rfl, hb7⟩
      have HB7 := Lib.hid (bstep HB6.out hb7)
      have HBZ7 := Lib.hid (HBZ6.out.keep hb7)
      have HMX7 := Lib.hid (HMX6.out.grow hb7)
      clear hb7
      obtain ⟨d0, d1, d2, d3, d4, d5, d6, d7, d8, d9, d10, d11⟩ := HBZ7.out.cells
      go_wp2_with (first
        | (go_at_call 14; refine (rgood_is x false HGB.out HFX.out ob x.m.length d rfl _ HMX7.out).mono ?_; rintro e w8 ⟨rfl, hb8⟩; have HB8 := Lib.hid (bstep HB7.out hb8); clear hb8 d0 d1 d2 d3 d4 d5 d6 d7 d8 d9 d10 d11)
        | (go_at_call 9; refine (wakes_any _ (HF.out.keep HB8.out)).mono ?_; rintro e w9 ⟨rfl, hb9⟩; have HB9 := Lib.hid (bstep HB8.out hb9); clear hb9))
      go_ret
      exact ⟨rfl, HB9.out⟩
  · obtain ⟨hs1, hg1⟩ := chg_no HG.out hB HXN.out
    rw [hB] at hlen hmy ⊢
    have HLY := Lib.hid hlen
    have HSX := Lib.hid hs1
    have HEN := Lib.hid (enc_not hg1)
    have hal := below_alloc w4 (.cells #[.int .i64 r.cl, .int .i64 r.sq, .int .i64 r.k, .string r.p, .string r.t, .int .i64 r.sz, .int .i64 r.h, .int .i64 r.o, .string r.d, .int .i64 r.tk, .int .i64 r.i, .slice oy ny cy] 24)
    have HBY5 : Hid (OBox (w4.alloc (.cells #[.int .i64 r.cl, .int .i64 r.sq, .int .i64 r.k, .string r.p, .string r.t, .int .i64 r.sz, .int .i64 r.h, .int .i64 r.o, .string r.d, .int .i64 r.tk, .int .i64 r.i, .slice oy ny cy] 24)) w4.heap.size r (.slice oy ny cy)) := Lib.hid (heap_alloc_new w4 _)
    have HBZ5 := Lib.hid (HBZ4.out.keep hal)
    have HB5 := Lib.hid (bstep HB4.out hal)
    have HMX5 := Lib.hid (HMX4.out.grow hal)
    have HMY5 := Lib.hid (hmy.grow hal)
    clear hal HBZ4 HB4 HMX4
    clear hlen hmy hB hs1 hg1
    obtain ⟨d0, d1, d2, d3, d4, d5, d6, d7, d8, d9, d10, d11⟩ := HBZ5.out.cells
    go_wp2_with fail
    clear d0 d1 d2 d3 d4 d5 d6 d7 d8 d9 d10 d11
    generalize w4.alloc (.cells #[.int .i64 r.cl, .int .i64 r.sq, .int .i64 r.k, .string r.p, .string r.t, .int .i64 r.sz, .int .i64 r.h, .int .i64 r.o, .string r.d, .int .i64 r.tk, .int .i64 r.i, .slice oy ny cy] 24) = v5 at HBZ5 HBY5 HB5 HMX5 HMY5 ⊢
    generalize w4.heap.size = b5 at HBY5 ⊢
    go_at_call 11
    refine (enc_any x HFX.out ob x.m.length d rfl _ (HF.out.keep HB5.out) HMX5.out).mono ?_
    rintro e w6 ⟨rfl, hb6⟩
    have HB6 := Lib.hid (bstep HB5.out hb6)
    have HBZ6 := Lib.hid (HBZ5.out.keep hb6)
    have HBY6 := Lib.hid (HBY5.out.keep hb6)
    have HMX6 := Lib.hid (HMX5.out.grow hb6)
    have HMY6 := Lib.hid (HMY5.out.grow hb6)
    clear hb6 HB5 HBZ5 HBY5 HMX5 HMY5
    rw [HEN.out.1, HEN.out.2]
    obtain ⟨d0, d1, d2, d3, d4, d5, d6, d7, d8, d9, d10, d11⟩ := HBZ6.out.cells
    obtain ⟨e0, e1, e2, e3, e4, e5, e6, e7, e8, e9, e10, e11⟩ := HBY6.out.cells
    go_wp2_with fail
    clear d0 d1 d2 d3 d4 d5 d6 d7 d8 d9 d10 d11 e0 e1 e2 e3 e4 e5 e6 e7 e8 e9 e10 e11
    go_at_call 15
    refine (keep_is r x false HSX.out oy ob ny x.m.length cy d HLY.out rfl HR.out.2.2.2 HFX.out.2.2.2 _ HMY6.out HMX6.out).mono ?_
    rintro e w7 ⟨rfl, hb7⟩
    have HB7 := Lib.hid (bstep HB6.out hb7)
    have HBY7 := Lib.hid (HBY6.out.keep hb7)
    have HMY7 := Lib.hid (HMY6.out.grow hb7)
    clear hb7
    obtain ⟨d0, d1, d2, d3, d4, d5, d6, d7, d8, d9, d10, d11⟩ := HBY7.out.cells
    go_wp2_with (first
      | (go_at_call 13; refine (good_is r true HG.out HR.out oy ny cy HLY.out _ (HF.out.keep HB7.out) HMY7.out).mono ?_; rintro e w8 ⟨rfl, hb8⟩; have HB8 := Lib.hid (bstep HB7.out hb8); clear hb8 d0 d1 d2 d3 d4 d5 d6 d7 d8 d9 d10 d11)
      | (go_at_call 9; refine (wakes_any _ (HF.out.keep HB8.out)).mono ?_; rintro e w9 ⟨rfl, hb9⟩; have HB9 := Lib.hid (bstep HB8.out hb9); clear hb9))
    go_ret
    exact ⟨rfl, HB9.out⟩
set_option maxHeartbeats 6400000 in
theorem others_4 (r : Rec) (oa : Option Addr) (n c : Nat) (hn : n = r.m.length) (hc : oa = none → n = 0 ∧ c = 0) (z : Int) (hz : 0 ≤ z ∧ z ≤ 255) (hw : z % 7 = 4) (w : World) (hf : Fl w) (hm : MvAt w oa r.m) :
    Calls Tryd.prog 7 #[.agg #[.int .i64 r.cl, .int .i64 r.sq, .int .i64 r.k, .string r.p, .string r.t, .int .i64 r.sz, .int .i64 r.h, .int .i64 r.o, .string r.d, .int .i64 r.tk, .int .i64 r.i, .slice oa n c], .int .u8 z] w fun e w' => e = .returned (.bool true) ∧ Below w.heap.size w w' := by
  have HF := Lib.hid hf
  have HN := Lib.hid hn
  have HC := Lib.hid hc
  have H0 := Lib.hid (below_alloc w (.cells #[.int .i64 r.cl, .int .i64 r.sq, .int .i64 r.k, .string r.p, .string r.t, .int .i64 r.sz, .int .i64 r.h, .int .i64 r.o, .string r.d, .int .i64 r.tk, .int .i64 r.i, .slice oa n c] 24))
  have HM0 := Lib.hid (hm.grow H0.out)
  have HBX : Hid (OBox (w.alloc (.cells #[.int .i64 r.cl, .int .i64 r.sq, .int .i64 r.k, .string r.p, .string r.t, .int .i64 r.sz, .int .i64 r.h, .int .i64 r.o, .string r.d, .int .i64 r.tk, .int .i64 r.i, .slice oa n c] 24)) w.heap.size r (.slice oa n c)) := Lib.hid (heap_alloc_new w _)
  clear hf hn hc hm
  have q0 : (z % 7 == 0) = false := by rw [hw]; rfl
  have q1 : (z % 7 == 1) = false := by rw [hw]; rfl
  have q2 : (z % 7 == 2) = false := by rw [hw]; rfl
  have q3 : (z % 7 == 3) = false := by rw [hw]; rfl
  have q4 : (z % 7 == 4) = true := by rw [hw]; rfl
  have q5 : (z % 7 == 5) = false := by rw [hw]; rfl
  have q6 : (z % 7 == 6) = false := by rw [hw]; rfl
  cases hl : largeB r with
  | true =>
    have HL := Lib.hid hl
    clear hl
    go_enter Tryd.func7, Tryd.ntmps7
    go_wp2_with (first
      | (go_at_call 8; refine (large_is r oa n c true HL.out HN.out _).mono ?_; rintro e w1 ⟨rfl, hb1⟩; have HB1 := Lib.hid (bstep H0.out hb1); clear hb1)
      | (go_at_call 9; refine (wakes_any _ (HF.out.keep HB1.out)).mono ?_; rintro e w2 ⟨rfl, hb2⟩; have HB2 := Lib.hid (bstep HB1.out hb2); clear hb2))
    go_ret
    exact ⟨rfl, HB2.out⟩
  | false =>
  have HL := Lib.hid hl
  have HR := Lib.hid (small_fit (large_not hl))
  have HSM := Lib.hid (large_not hl)
  clear hl
  go_enter Tryd.func7, Tryd.ntmps7
  go_wp2_with fail
  generalize w.alloc (.cells #[.int .i64 r.cl, .int .i64 r.sq, .int .i64 r.k, .string r.p, .string r.t, .int .i64 r.sz, .int .i64 r.h, .int .i64 r.o, .string r.d, .int .i64 r.tk, .int .i64 r.i, .slice oa n c] 24) = w0 at H0 HM0 HBX ⊢
  go_at_call 8
  refine (large_is r oa n c false HL.out HN.out _).mono ?_
  rintro e w1 ⟨rfl, hb1⟩
  have HB1 := Lib.hid (bstep H0.out hb1)
  have HBX1 := Lib.hid (HBX.out.keep hb1)
  have HM1 := Lib.hid (HM0.out.grow hb1)
  obtain ⟨d0, d1, d2, d3, d4, d5, d6, d7, d8, d9, d10, d11⟩ := HBX1.out.cells
  clear hb1 HM0 HBX
  go_wp2_with fail
  clear d0 d1 d2 d3 d4 d5 d6 d7 d8 d9 d10 d11
  cases hg : goodB r with
  | false =>
    have HG := Lib.hid hg
    clear hg
    go_at_call 14
    refine (rgood_is r false HG.out HR.out oa n c HN.out _ HM1.out).mono ?_
    rintro e w2 ⟨rfl, hb2⟩
    have HB2 := Lib.hid (bstep HB1.out hb2)
    clear hb2
    go_wp2_with (go_at_call 9; refine (wakes_any _ (HF.out.keep HB2.out)).mono ?_; rintro e w3 ⟨rfl, hb3⟩; have HB3 := Lib.hid (bstep HB2.out hb3); clear hb3)
    go_ret
    exact ⟨rfl, HB3.out⟩
  | true =>
  have HG := Lib.hid hg
  have hnn := good_nn hg
  have hsm := HSM.out
  unfold Small at hsm
  have hw64 : wrap64 (r.tk + 1) = r.tk + 1 := IntWalk.wrap64_in _ (by have := hnn.2.2.2.1; omega)
  clear hnn hsm
  clear hg
  go_at_call 14
  refine (rgood_is r true HG.out HR.out oa n c HN.out _ HM1.out).mono ?_
  rintro e w2 ⟨rfl, hb2⟩
  have HB2 := Lib.hid (bstep HB1.out hb2)
  have HBX2 := Lib.hid (HBX1.out.keep hb2)
  have HM2 := Lib.hid (HM1.out.grow hb2)
  obtain ⟨d0, d1, d2, d3, d4, d5, d6, d7, d8, d9, d10, d11⟩ := HBX2.out.cells
  clear hb2 HBX1 HM1 HB1
  go_wp2_with fail
  clear d0 d1 d2 d3 d4 d5 d6 d7 d8 d9 d10 d11
  go_at_call 10
  refine (copy_any r oa n c HN.out HC.out HR.out.2.2.2 _ HM2.out).mono ?_
  rintro e w3 ⟨ob, d, rfl, hc3, hm3, hb3⟩
  have HK3 := Lib.hid (bstep HB2.out hb3)
  have HM3 := Lib.hid hm3
  clear hc3 hm3 hb3 HBX2 HM2 HB2
  go_wp2_with fail
  obtain ⟨x, hx⟩ : ∃ x : Rec, x = ⟨r.cl, r.sq, r.k, r.p, r.t, r.sz, r.h, r.o, r.d, (r.tk + 1), r.i, r.m⟩ := ⟨_, rfl⟩
  have hbx : Below w3.heap.size w3 (w3.alloc (.cells #[.int .i64 r.cl, .int .i64 r.sq, .int .i64 r.k, .string r.p, .string r.t, .int .i64 r.sz, .int .i64 r.h, .int .i64 r.o, .string r.d, .int .i64 (r.tk + 1), .int .i64 r.i, .slice ob r.m.length d] 24)) := below_alloc w3 _
  have hbz : OBox (w3.alloc (.cells #[.int .i64 r.cl, .int .i64 r.sq, .int .i64 r.k, .string r.p, .string r.t, .int .i64 r.sz, .int .i64 r.h, .int .i64 r.o, .string r.d, .int .i64 (r.tk + 1), .int .i64 r.i, .slice ob r.m.length d] 24)) w3.heap.size x (.slice ob r.m.length d) := by rw [hx]; exact heap_alloc_new w3 _
  have hmx : MvAt (w3.alloc (.cells #[.int .i64 r.cl, .int .i64 r.sq, .int .i64 r.k, .string r.p, .string r.t, .int .i64 r.sz, .int .i64 r.h, .int .i64 r.o, .string r.d, .int .i64 (r.tk + 1), .int .i64 r.i, .slice ob r.m.length d] 24)) ob x.m := by rw [hx]; exact HM3.out.grow hbx
  have hb3 : Below w.heap.size w (w3.alloc (.cells #[.int .i64 r.cl, .int .i64 r.sq, .int .i64 r.k, .string r.p, .string r.t, .int .i64 r.sz, .int .i64 r.h, .int .i64 r.o, .string r.d, .int .i64 (r.tk + 1), .int .i64 r.i, .slice ob r.m.length d] 24)) := bstep HK3.out hbx
  clear hbx HM3 HK3
  generalize (w3.alloc (.cells #[.int .i64 r.cl, .int .i64 r.sq, .int .i64 r.k, .string r.p, .string r.t, .int .i64 r.sz, .int .i64 r.h, .int .i64 r.o, .string r.d, .int .i64 (r.tk + 1), .int .i64 r.i, .slice ob r.m.length d] 24)) = v3 at hbz hmx hb3 ⊢
  generalize w3.heap.size = b3 at hbz ⊢
  have hC : only x = x ∨ only x = r := by rw [hx]; exact only_chg_tk HG.out _
  have hne : r ≠ x := by rw [hx]; intro h; have h1 := congrArg Rec.tk h; dsimp only at h1; omega
  have HFX : Hid (Fit x) := Lib.hid (by rw [hx]; have := HR.out; have := HSM.out; unfold Fit Small at *; refine ⟨?_, ?_, ?_, ?_⟩ <;> dsimp only <;> (try rw [show ∀ a b : ByteArray, (a ++ b).size = a.size + b.size from fun a b => by simp [ByteArray.size_append]]) <;> (try (have : (⟨#[47, 97]⟩ : ByteArray).size = 2 := rfl)) <;> omega)
  have Ecl : r.cl = x.cl := by rw [hx]
  have Esq : r.sq = x.sq := by rw [hx]
  have Ek : r.k = x.k := by rw [hx]
  have Ep : r.p = x.p := by rw [hx]
  have Et : r.t = x.t := by rw [hx]
  have Esz : r.sz = x.sz := by rw [hx]
  have Eh : r.h = x.h := by rw [hx]
  have Eo : r.o = x.o := by rw [hx]
  have Ed : r.d = x.d := by rw [hx]
  have Etk : r.tk + 1 = x.tk := by rw [hx]
  have Ei : r.i = x.i := by rw [hx]
  have Em : r.m = x.m := by rw [hx]
  clear hx
  simp only [Ecl, Esq, Ek, Ep, Et, Esz, Eh, Eo, Ed, Etk, Ei, Em] at hbz ⊢
  have HBZ := Lib.hid hbz
  have HMX := Lib.hid hmx
  have HV3 := Lib.hid hb3
  have HXN := Lib.hid hne
  clear Ecl Esq Ek Ep Et Esz Eh Eo Ed Etk Ei Em hbz hmx hb3 hne hw64
  go_at_call 19
  refine (only_any x ob x.m.length d _).mono ?_
  rintro e w4 ⟨rfl, hb4⟩
  have hlen := only_len x x.m.length rfl
  have hmy := only_mv x ob w4 (HMX.out.grow hb4)
  have HBZ4 := Lib.hid (HBZ.out.keep hb4)
  have HB4 := Lib.hid (bstep HV3.out hb4)
  have HMX4 := Lib.hid (HMX.out.grow hb4)
  clear hb4 HBZ HV3 HMX
  generalize onlyA x ob = oy at hmy ⊢
  generalize onlyN x x.m.length = ny at hlen ⊢
  generalize onlyN x d = cy
  rcases hC with hA | hB
  · rw [hA] at hlen hmy ⊢
    have HLY := Lib.hid hlen
    have hal := below_alloc w4 (.cells #[.int .i64 x.cl, .int .i64 x.sq, .int .i64 x.k, .string x.p, .string x.t, .int .i64 x.sz, .int .i64 x.h, .int .i64 x.o, .string x.d, .int .i64 x.tk, .int .i64 x.i, .slice oy ny cy] 24)
    have HBY5 : Hid (OBox (w4.alloc (.cells #[.int .i64 x.cl, .int .i64 x.sq, .int .i64 x.k, .string x.p, .string x.t, .int .i64 x.sz, .int .i64 x.h, .int .i64 x.o, .string x.d, .int .i64 x.tk, .int .i64 x.i, .slice oy ny cy] 24)) w4.heap.size x (.slice oy ny cy)) := Lib.hid (heap_alloc_new w4 _)
    have HBZ5 := Lib.hid (HBZ4.out.keep hal)
    have HB5 := Lib.hid (bstep HB4.out hal)
    have HMX5 := Lib.hid (HMX4.out.grow hal)
    have HMY5 := Lib.hid (hmy.grow hal)
    clear hal HBZ4 HB4 HMX4
    clear hlen hmy hA
    have HSX : Hid (sameB x x = true) := Lib.hid ((sameB_iff _ _).2 rfl)
    have HZX : Hid (x.m.length ≤ 1000000) := Lib.hid HFX.out.2.2.2
    obtain ⟨d0, d1, d2, d3, d4, d5, d6, d7, d8, d9, d10, d11⟩ := HBZ5.out.cells
    go_wp2_with fail
    clear d0 d1 d2 d3 d4 d5 d6 d7 d8 d9 d10 d11
    generalize w4.alloc (.cells #[.int .i64 x.cl, .int .i64 x.sq, .int .i64 x.k, .string x.p, .string x.t, .int .i64 x.sz, .int .i64 x.h, .int .i64 x.o, .string x.d, .int .i64 x.tk, .int .i64 x.i, .slice oy ny cy] 24) = v5 at HBZ5 HBY5 HB5 HMX5 HMY5 ⊢
    generalize w4.heap.size = b5 at HBY5 ⊢
    go_at_call 11
    refine (enc_any x HFX.out ob x.m.length d rfl _ (HF.out.keep HB5.out) HMX5.out).mono ?_
    rintro e w6 ⟨rfl, hb6⟩
    have HB6 := Lib.hid (bstep HB5.out hb6)
    have HBZ6 := Lib.hid (HBZ5.out.keep hb6)
    have HBY6 := Lib.hid (HBY5.out.keep hb6)
    have HMX6 := Lib.hid (HMX5.out.grow hb6)
    have HMY6 := Lib.hid (HMY5.out.grow hb6)
    clear hb6 HB5 HBZ5 HBY5 HMX5 HMY5
    cases hgb : goodB x with
    | true =>
      have hee : encE x = 0 := by unfold encE; rw [hgb]; rfl
      rw [hee]
      have HGB := Lib.hid hgb
      clear hee hgb
      obtain ⟨d0, d1, d2, d3, d4, d5, d6, d7, d8, d9, d10, d11⟩ := HBZ6.out.cells
      obtain ⟨e0, e1, e2, e3, e4, e5, e6, e7, e8, e9, e10, e11⟩ := HBY6.out.cells
      go_wp2_with fail
      clear d0 d1 d2 d3 d4 d5 d6 d7 d8 d9 d10 d11 e0 e1 e2 e3 e4 e5 e6 e7 e8 e9 e10 e11
      go_at_call 15
      refine (keep_is x x true HSX.out oy ob ny x.m.length cy d HLY.out rfl HZX.out HZX.out _ HMY6.out HMX6.out).mono ?_
      rintro e w7 ⟨rfl, hb7⟩
      have HB7 := Lib.hid (bstep HB6.out hb7)
      have HBZ7 := Lib.hid (HBZ6.out.keep hb7)
      have HMX7 := Lib.hid (HMX6.out.grow hb7)
      clear hb7
      obtain ⟨d0, d1, d2, d3, d4, d5, d6, d7, d8, d9, d10, d11⟩ := HBZ7.out.cells
      go_wp2_with (first
        | (go_at_call 14; refine (rgood_is x true HGB.out HFX.out ob x.m.length d rfl _ HMX7.out).mono ?_; rintro e w8 ⟨rfl, hb8⟩; have HB8 := Lib.hid (bstep HB7.out hb8); clear hb8 d0 d1 d2 d3 d4 d5 d6 d7 d8 d9 d10 d11)
        | (go_at_call 9; refine (wakes_any _ (HF.out.keep HB8.out)).mono ?_; rintro e w9 ⟨rfl, hb9⟩; have HB9 := Lib.hid (bstep HB8.out hb9); clear hb9))
      go_ret
      exact ⟨rfl, HB9.out⟩
    | false =>
      have hee : encE x = 11 := by unfold encE; rw [hgb]; rfl
      rw [hee]
      have HGB := Lib.hid hgb
      clear hee hgb
      obtain ⟨d0, d1, d2, d3, d4, d5, d6, d7, d8, d9, d10, d11⟩ := HBZ6.out.cells
      obtain ⟨e0, e1, e2, e3, e4, e5, e6, e7, e8, e9, e10, e11⟩ := HBY6.out.cells
      go_wp2_with fail
      clear d0 d1 d2 d3 d4 d5 d6 d7 d8 d9 d10 d11 e0 e1 e2 e3 e4 e5 e6 e7 e8 e9 e10 e11
      go_at_call 15
      refine (keep_is x x true HSX.out oy ob ny x.m.length cy d HLY.out rfl HZX.out HZX.out _ HMY6.out HMX6.out).mono ?_
      rintro e w7 ⟨rfl, hb7⟩
      have HB7 := Lib.hid (bstep HB6.out hb7)
      have HBZ7 := Lib.hid (HBZ6.out.keep hb7)
      have HMX7 := Lib.hid (HMX6.out.grow hb7)
      clear hb7
      obtain ⟨d0, d1, d2, d3, d4, d5, d6, d7, d8, d9, d10, d11⟩ := HBZ7.out.cells
      go_wp2_with (first
        | (go_at_call 14; refine (rgood_is x false HGB.out HFX.out ob x.m.length d rfl _ HMX7.out).mono ?_; rintro e w8 ⟨rfl, hb8⟩; have HB8 := Lib.hid (bstep HB7.out hb8); clear hb8 d0 d1 d2 d3 d4 d5 d6 d7 d8 d9 d10 d11)
        | (go_at_call 9; refine (wakes_any _ (HF.out.keep HB8.out)).mono ?_; rintro e w9 ⟨rfl, hb9⟩; have HB9 := Lib.hid (bstep HB8.out hb9); clear hb9))
      go_ret
      exact ⟨rfl, HB9.out⟩
  · obtain ⟨hs1, hg1⟩ := chg_no HG.out hB HXN.out
    rw [hB] at hlen hmy ⊢
    have HLY := Lib.hid hlen
    have HSX := Lib.hid hs1
    have HEN := Lib.hid (enc_not hg1)
    have hal := below_alloc w4 (.cells #[.int .i64 r.cl, .int .i64 r.sq, .int .i64 r.k, .string r.p, .string r.t, .int .i64 r.sz, .int .i64 r.h, .int .i64 r.o, .string r.d, .int .i64 r.tk, .int .i64 r.i, .slice oy ny cy] 24)
    have HBY5 : Hid (OBox (w4.alloc (.cells #[.int .i64 r.cl, .int .i64 r.sq, .int .i64 r.k, .string r.p, .string r.t, .int .i64 r.sz, .int .i64 r.h, .int .i64 r.o, .string r.d, .int .i64 r.tk, .int .i64 r.i, .slice oy ny cy] 24)) w4.heap.size r (.slice oy ny cy)) := Lib.hid (heap_alloc_new w4 _)
    have HBZ5 := Lib.hid (HBZ4.out.keep hal)
    have HB5 := Lib.hid (bstep HB4.out hal)
    have HMX5 := Lib.hid (HMX4.out.grow hal)
    have HMY5 := Lib.hid (hmy.grow hal)
    clear hal HBZ4 HB4 HMX4
    clear hlen hmy hB hs1 hg1
    obtain ⟨d0, d1, d2, d3, d4, d5, d6, d7, d8, d9, d10, d11⟩ := HBZ5.out.cells
    go_wp2_with fail
    clear d0 d1 d2 d3 d4 d5 d6 d7 d8 d9 d10 d11
    generalize w4.alloc (.cells #[.int .i64 r.cl, .int .i64 r.sq, .int .i64 r.k, .string r.p, .string r.t, .int .i64 r.sz, .int .i64 r.h, .int .i64 r.o, .string r.d, .int .i64 r.tk, .int .i64 r.i, .slice oy ny cy] 24) = v5 at HBZ5 HBY5 HB5 HMX5 HMY5 ⊢
    generalize w4.heap.size = b5 at HBY5 ⊢
    go_at_call 11
    refine (enc_any x HFX.out ob x.m.length d rfl _ (HF.out.keep HB5.out) HMX5.out).mono ?_
    rintro e w6 ⟨rfl, hb6⟩
    have HB6 := Lib.hid (bstep HB5.out hb6)
    have HBZ6 := Lib.hid (HBZ5.out.keep hb6)
    have HBY6 := Lib.hid (HBY5.out.keep hb6)
    have HMX6 := Lib.hid (HMX5.out.grow hb6)
    have HMY6 := Lib.hid (HMY5.out.grow hb6)
    clear hb6 HB5 HBZ5 HBY5 HMX5 HMY5
    rw [HEN.out.1, HEN.out.2]
    obtain ⟨d0, d1, d2, d3, d4, d5, d6, d7, d8, d9, d10, d11⟩ := HBZ6.out.cells
    obtain ⟨e0, e1, e2, e3, e4, e5, e6, e7, e8, e9, e10, e11⟩ := HBY6.out.cells
    go_wp2_with fail
    clear d0 d1 d2 d3 d4 d5 d6 d7 d8 d9 d10 d11 e0 e1 e2 e3 e4 e5 e6 e7 e8 e9 e10 e11
    go_at_call 15
    refine (keep_is r x false HSX.out oy ob ny x.m.length cy d HLY.out rfl HR.out.2.2.2 HFX.out.2.2.2 _ HMY6.out HMX6.out).mono ?_
    rintro e w7 ⟨rfl, hb7⟩
    have HB7 := Lib.hid (bstep HB6.out hb7)
    have HBY7 := Lib.hid (HBY6.out.keep hb7)
    have HMY7 := Lib.hid (HMY6.out.grow hb7)
    clear hb7
    obtain ⟨d0, d1, d2, d3, d4, d5, d6, d7, d8, d9, d10, d11⟩ := HBY7.out.cells
    go_wp2_with (first
      | (go_at_call 13; refine (good_is r true HG.out HR.out oy ny cy HLY.out _ (HF.out.keep HB7.out) HMY7.out).mono ?_; rintro e w8 ⟨rfl, hb8⟩; have HB8 := Lib.hid (bstep HB7.out hb8); clear hb8 d0 d1 d2 d3 d4 d5 d6 d7 d8 d9 d10 d11)
      | (go_at_call 9; refine (wakes_any _ (HF.out.keep HB8.out)).mono ?_; rintro e w9 ⟨rfl, hb9⟩; have HB9 := Lib.hid (bstep HB8.out hb9); clear hb9))
    go_ret
    exact ⟨rfl, HB9.out⟩
set_option maxHeartbeats 6400000 in
theorem others_5 (r : Rec) (oa : Option Addr) (n c : Nat) (hn : n = r.m.length) (hc : oa = none → n = 0 ∧ c = 0) (z : Int) (hz : 0 ≤ z ∧ z ≤ 255) (hw : z % 7 = 5) (w : World) (hf : Fl w) (hm : MvAt w oa r.m) :
    Calls Tryd.prog 7 #[.agg #[.int .i64 r.cl, .int .i64 r.sq, .int .i64 r.k, .string r.p, .string r.t, .int .i64 r.sz, .int .i64 r.h, .int .i64 r.o, .string r.d, .int .i64 r.tk, .int .i64 r.i, .slice oa n c], .int .u8 z] w fun e w' => e = .returned (.bool true) ∧ Below w.heap.size w w' := by
  have HF := Lib.hid hf
  have HN := Lib.hid hn
  have HC := Lib.hid hc
  have H0 := Lib.hid (below_alloc w (.cells #[.int .i64 r.cl, .int .i64 r.sq, .int .i64 r.k, .string r.p, .string r.t, .int .i64 r.sz, .int .i64 r.h, .int .i64 r.o, .string r.d, .int .i64 r.tk, .int .i64 r.i, .slice oa n c] 24))
  have HM0 := Lib.hid (hm.grow H0.out)
  have HBX : Hid (OBox (w.alloc (.cells #[.int .i64 r.cl, .int .i64 r.sq, .int .i64 r.k, .string r.p, .string r.t, .int .i64 r.sz, .int .i64 r.h, .int .i64 r.o, .string r.d, .int .i64 r.tk, .int .i64 r.i, .slice oa n c] 24)) w.heap.size r (.slice oa n c)) := Lib.hid (heap_alloc_new w _)
  clear hf hn hc hm
  have q0 : (z % 7 == 0) = false := by rw [hw]; rfl
  have q1 : (z % 7 == 1) = false := by rw [hw]; rfl
  have q2 : (z % 7 == 2) = false := by rw [hw]; rfl
  have q3 : (z % 7 == 3) = false := by rw [hw]; rfl
  have q4 : (z % 7 == 4) = false := by rw [hw]; rfl
  have q5 : (z % 7 == 5) = true := by rw [hw]; rfl
  have q6 : (z % 7 == 6) = false := by rw [hw]; rfl
  cases hl : largeB r with
  | true =>
    have HL := Lib.hid hl
    clear hl
    go_enter Tryd.func7, Tryd.ntmps7
    go_wp2_with (first
      | (go_at_call 8; refine (large_is r oa n c true HL.out HN.out _).mono ?_; rintro e w1 ⟨rfl, hb1⟩; have HB1 := Lib.hid (bstep H0.out hb1); clear hb1)
      | (go_at_call 9; refine (wakes_any _ (HF.out.keep HB1.out)).mono ?_; rintro e w2 ⟨rfl, hb2⟩; have HB2 := Lib.hid (bstep HB1.out hb2); clear hb2))
    go_ret
    exact ⟨rfl, HB2.out⟩
  | false =>
  have HL := Lib.hid hl
  have HR := Lib.hid (small_fit (large_not hl))
  have HSM := Lib.hid (large_not hl)
  clear hl
  go_enter Tryd.func7, Tryd.ntmps7
  go_wp2_with fail
  generalize w.alloc (.cells #[.int .i64 r.cl, .int .i64 r.sq, .int .i64 r.k, .string r.p, .string r.t, .int .i64 r.sz, .int .i64 r.h, .int .i64 r.o, .string r.d, .int .i64 r.tk, .int .i64 r.i, .slice oa n c] 24) = w0 at H0 HM0 HBX ⊢
  go_at_call 8
  refine (large_is r oa n c false HL.out HN.out _).mono ?_
  rintro e w1 ⟨rfl, hb1⟩
  have HB1 := Lib.hid (bstep H0.out hb1)
  have HBX1 := Lib.hid (HBX.out.keep hb1)
  have HM1 := Lib.hid (HM0.out.grow hb1)
  obtain ⟨d0, d1, d2, d3, d4, d5, d6, d7, d8, d9, d10, d11⟩ := HBX1.out.cells
  clear hb1 HM0 HBX
  go_wp2_with fail
  clear d0 d1 d2 d3 d4 d5 d6 d7 d8 d9 d10 d11
  cases hg : goodB r with
  | false =>
    have HG := Lib.hid hg
    clear hg
    go_at_call 14
    refine (rgood_is r false HG.out HR.out oa n c HN.out _ HM1.out).mono ?_
    rintro e w2 ⟨rfl, hb2⟩
    have HB2 := Lib.hid (bstep HB1.out hb2)
    clear hb2
    go_wp2_with (go_at_call 9; refine (wakes_any _ (HF.out.keep HB2.out)).mono ?_; rintro e w3 ⟨rfl, hb3⟩; have HB3 := Lib.hid (bstep HB2.out hb3); clear hb3)
    go_ret
    exact ⟨rfl, HB3.out⟩
  | true =>
  have HG := Lib.hid hg
  have hnn := good_nn hg
  have hsm := HSM.out
  unfold Small at hsm
  have hw64 : wrap64 (r.i + 1) = r.i + 1 := IntWalk.wrap64_in _ (by have := hnn.2.2.2.2; omega)
  clear hnn hsm
  clear hg
  go_at_call 14
  refine (rgood_is r true HG.out HR.out oa n c HN.out _ HM1.out).mono ?_
  rintro e w2 ⟨rfl, hb2⟩
  have HB2 := Lib.hid (bstep HB1.out hb2)
  have HBX2 := Lib.hid (HBX1.out.keep hb2)
  have HM2 := Lib.hid (HM1.out.grow hb2)
  obtain ⟨d0, d1, d2, d3, d4, d5, d6, d7, d8, d9, d10, d11⟩ := HBX2.out.cells
  clear hb2 HBX1 HM1 HB1
  go_wp2_with fail
  clear d0 d1 d2 d3 d4 d5 d6 d7 d8 d9 d10 d11
  go_at_call 10
  refine (copy_any r oa n c HN.out HC.out HR.out.2.2.2 _ HM2.out).mono ?_
  rintro e w3 ⟨ob, d, rfl, hc3, hm3, hb3⟩
  have HK3 := Lib.hid (bstep HB2.out hb3)
  have HM3 := Lib.hid hm3
  clear hc3 hm3 hb3 HBX2 HM2 HB2
  go_wp2_with fail
  obtain ⟨x, hx⟩ : ∃ x : Rec, x = ⟨r.cl, r.sq, r.k, r.p, r.t, r.sz, r.h, r.o, r.d, r.tk, (r.i + 1), r.m⟩ := ⟨_, rfl⟩
  have hbx : Below w3.heap.size w3 (w3.alloc (.cells #[.int .i64 r.cl, .int .i64 r.sq, .int .i64 r.k, .string r.p, .string r.t, .int .i64 r.sz, .int .i64 r.h, .int .i64 r.o, .string r.d, .int .i64 r.tk, .int .i64 (r.i + 1), .slice ob r.m.length d] 24)) := below_alloc w3 _
  have hbz : OBox (w3.alloc (.cells #[.int .i64 r.cl, .int .i64 r.sq, .int .i64 r.k, .string r.p, .string r.t, .int .i64 r.sz, .int .i64 r.h, .int .i64 r.o, .string r.d, .int .i64 r.tk, .int .i64 (r.i + 1), .slice ob r.m.length d] 24)) w3.heap.size x (.slice ob r.m.length d) := by rw [hx]; exact heap_alloc_new w3 _
  have hmx : MvAt (w3.alloc (.cells #[.int .i64 r.cl, .int .i64 r.sq, .int .i64 r.k, .string r.p, .string r.t, .int .i64 r.sz, .int .i64 r.h, .int .i64 r.o, .string r.d, .int .i64 r.tk, .int .i64 (r.i + 1), .slice ob r.m.length d] 24)) ob x.m := by rw [hx]; exact HM3.out.grow hbx
  have hb3 : Below w.heap.size w (w3.alloc (.cells #[.int .i64 r.cl, .int .i64 r.sq, .int .i64 r.k, .string r.p, .string r.t, .int .i64 r.sz, .int .i64 r.h, .int .i64 r.o, .string r.d, .int .i64 r.tk, .int .i64 (r.i + 1), .slice ob r.m.length d] 24)) := bstep HK3.out hbx
  clear hbx HM3 HK3
  generalize (w3.alloc (.cells #[.int .i64 r.cl, .int .i64 r.sq, .int .i64 r.k, .string r.p, .string r.t, .int .i64 r.sz, .int .i64 r.h, .int .i64 r.o, .string r.d, .int .i64 r.tk, .int .i64 (r.i + 1), .slice ob r.m.length d] 24)) = v3 at hbz hmx hb3 ⊢
  generalize w3.heap.size = b3 at hbz ⊢
  have hC : only x = x ∨ only x = r := by rw [hx]; exact only_chg_i HG.out _
  have hne : r ≠ x := by rw [hx]; intro h; have h1 := congrArg Rec.i h; dsimp only at h1; omega
  have HFX : Hid (Fit x) := Lib.hid (by rw [hx]; have := HR.out; have := HSM.out; unfold Fit Small at *; refine ⟨?_, ?_, ?_, ?_⟩ <;> dsimp only <;> (try rw [show ∀ a b : ByteArray, (a ++ b).size = a.size + b.size from fun a b => by simp [ByteArray.size_append]]) <;> (try (have : (⟨#[47, 97]⟩ : ByteArray).size = 2 := rfl)) <;> omega)
  have Ecl : r.cl = x.cl := by rw [hx]
  have Esq : r.sq = x.sq := by rw [hx]
  have Ek : r.k = x.k := by rw [hx]
  have Ep : r.p = x.p := by rw [hx]
  have Et : r.t = x.t := by rw [hx]
  have Esz : r.sz = x.sz := by rw [hx]
  have Eh : r.h = x.h := by rw [hx]
  have Eo : r.o = x.o := by rw [hx]
  have Ed : r.d = x.d := by rw [hx]
  have Etk : r.tk = x.tk := by rw [hx]
  have Ei : r.i + 1 = x.i := by rw [hx]
  have Em : r.m = x.m := by rw [hx]
  clear hx
  simp only [Ecl, Esq, Ek, Ep, Et, Esz, Eh, Eo, Ed, Etk, Ei, Em] at hbz ⊢
  have HBZ := Lib.hid hbz
  have HMX := Lib.hid hmx
  have HV3 := Lib.hid hb3
  have HXN := Lib.hid hne
  clear Ecl Esq Ek Ep Et Esz Eh Eo Ed Etk Ei Em hbz hmx hb3 hne hw64
  go_at_call 19
  refine (only_any x ob x.m.length d _).mono ?_
  rintro e w4 ⟨rfl, hb4⟩
  have hlen := only_len x x.m.length rfl
  have hmy := only_mv x ob w4 (HMX.out.grow hb4)
  have HBZ4 := Lib.hid (HBZ.out.keep hb4)
  have HB4 := Lib.hid (bstep HV3.out hb4)
  have HMX4 := Lib.hid (HMX.out.grow hb4)
  clear hb4 HBZ HV3 HMX
  generalize onlyA x ob = oy at hmy ⊢
  generalize onlyN x x.m.length = ny at hlen ⊢
  generalize onlyN x d = cy
  rcases hC with hA | hB
  · rw [hA] at hlen hmy ⊢
    have HLY := Lib.hid hlen
    have hal := below_alloc w4 (.cells #[.int .i64 x.cl, .int .i64 x.sq, .int .i64 x.k, .string x.p, .string x.t, .int .i64 x.sz, .int .i64 x.h, .int .i64 x.o, .string x.d, .int .i64 x.tk, .int .i64 x.i, .slice oy ny cy] 24)
    have HBY5 : Hid (OBox (w4.alloc (.cells #[.int .i64 x.cl, .int .i64 x.sq, .int .i64 x.k, .string x.p, .string x.t, .int .i64 x.sz, .int .i64 x.h, .int .i64 x.o, .string x.d, .int .i64 x.tk, .int .i64 x.i, .slice oy ny cy] 24)) w4.heap.size x (.slice oy ny cy)) := Lib.hid (heap_alloc_new w4 _)
    have HBZ5 := Lib.hid (HBZ4.out.keep hal)
    have HB5 := Lib.hid (bstep HB4.out hal)
    have HMX5 := Lib.hid (HMX4.out.grow hal)
    have HMY5 := Lib.hid (hmy.grow hal)
    clear hal HBZ4 HB4 HMX4
    clear hlen hmy hA
    have HSX : Hid (sameB x x = true) := Lib.hid ((sameB_iff _ _).2 rfl)
    have HZX : Hid (x.m.length ≤ 1000000) := Lib.hid HFX.out.2.2.2
    obtain ⟨d0, d1, d2, d3, d4, d5, d6, d7, d8, d9, d10, d11⟩ := HBZ5.out.cells
    go_wp2_with fail
    clear d0 d1 d2 d3 d4 d5 d6 d7 d8 d9 d10 d11
    generalize w4.alloc (.cells #[.int .i64 x.cl, .int .i64 x.sq, .int .i64 x.k, .string x.p, .string x.t, .int .i64 x.sz, .int .i64 x.h, .int .i64 x.o, .string x.d, .int .i64 x.tk, .int .i64 x.i, .slice oy ny cy] 24) = v5 at HBZ5 HBY5 HB5 HMX5 HMY5 ⊢
    generalize w4.heap.size = b5 at HBY5 ⊢
    go_at_call 11
    refine (enc_any x HFX.out ob x.m.length d rfl _ (HF.out.keep HB5.out) HMX5.out).mono ?_
    rintro e w6 ⟨rfl, hb6⟩
    have HB6 := Lib.hid (bstep HB5.out hb6)
    have HBZ6 := Lib.hid (HBZ5.out.keep hb6)
    have HBY6 := Lib.hid (HBY5.out.keep hb6)
    have HMX6 := Lib.hid (HMX5.out.grow hb6)
    have HMY6 := Lib.hid (HMY5.out.grow hb6)
    clear hb6 HB5 HBZ5 HBY5 HMX5 HMY5
    cases hgb : goodB x with
    | true =>
      have hee : encE x = 0 := by unfold encE; rw [hgb]; rfl
      rw [hee]
      have HGB := Lib.hid hgb
      clear hee hgb
      obtain ⟨d0, d1, d2, d3, d4, d5, d6, d7, d8, d9, d10, d11⟩ := HBZ6.out.cells
      obtain ⟨e0, e1, e2, e3, e4, e5, e6, e7, e8, e9, e10, e11⟩ := HBY6.out.cells
      go_wp2_with fail
      clear d0 d1 d2 d3 d4 d5 d6 d7 d8 d9 d10 d11 e0 e1 e2 e3 e4 e5 e6 e7 e8 e9 e10 e11
      go_at_call 15
      refine (keep_is x x true HSX.out oy ob ny x.m.length cy d HLY.out rfl HZX.out HZX.out _ HMY6.out HMX6.out).mono ?_
      rintro e w7 ⟨rfl, hb7⟩
      have HB7 := Lib.hid (bstep HB6.out hb7)
      have HBZ7 := Lib.hid (HBZ6.out.keep hb7)
      have HMX7 := Lib.hid (HMX6.out.grow hb7)
      clear hb7
      obtain ⟨d0, d1, d2, d3, d4, d5, d6, d7, d8, d9, d10, d11⟩ := HBZ7.out.cells
      go_wp2_with (first
        | (go_at_call 14; refine (rgood_is x true HGB.out HFX.out ob x.m.length d rfl _ HMX7.out).mono ?_; rintro e w8 ⟨rfl, hb8⟩; have HB8 := Lib.hid (bstep HB7.out hb8); clear hb8 d0 d1 d2 d3 d4 d5 d6 d7 d8 d9 d10 d11)
        | (go_at_call 9; refine (wakes_any _ (HF.out.keep HB8.out)).mono ?_; rintro e w9 ⟨rfl, hb9⟩; have HB9 := Lib.hid (bstep HB8.out hb9); clear hb9))
      go_ret
      exact ⟨rfl, HB9.out⟩
    | false =>
      have hee : encE x = 11 := by unfold encE; rw [hgb]; rfl
      rw [hee]
      have HGB := Lib.hid hgb
      clear hee hgb
      obtain ⟨d0, d1, d2, d3, d4, d5, d6, d7, d8, d9, d10, d11⟩ := HBZ6.out.cells
      obtain ⟨e0, e1, e2, e3, e4, e5, e6, e7, e8, e9, e10, e11⟩ := HBY6.out.cells
      go_wp2_with fail
      clear d0 d1 d2 d3 d4 d5 d6 d7 d8 d9 d10 d11 e0 e1 e2 e3 e4 e5 e6 e7 e8 e9 e10 e11
      go_at_call 15
      refine (keep_is x x true HSX.out oy ob ny x.m.length cy d HLY.out rfl HZX.out HZX.out _ HMY6.out HMX6.out).mono ?_
      rintro e w7 ⟨rfl, hb7⟩
      have HB7 := Lib.hid (bstep HB6.out hb7)
      have HBZ7 := Lib.hid (HBZ6.out.keep hb7)
      have HMX7 := Lib.hid (HMX6.out.grow hb7)
      clear hb7
      obtain ⟨d0, d1, d2, d3, d4, d5, d6, d7, d8, d9, d10, d11⟩ := HBZ7.out.cells
      go_wp2_with (first
        | (go_at_call 14; refine (rgood_is x false HGB.out HFX.out ob x.m.length d rfl _ HMX7.out).mono ?_; rintro e w8 ⟨rfl, hb8⟩; have HB8 := Lib.hid (bstep HB7.out hb8); clear hb8 d0 d1 d2 d3 d4 d5 d6 d7 d8 d9 d10 d11)
        | (go_at_call 9; refine (wakes_any _ (HF.out.keep HB8.out)).mono ?_; rintro e w9 ⟨rfl, hb9⟩; have HB9 := Lib.hid (bstep HB8.out hb9); clear hb9))
      go_ret
      exact ⟨rfl, HB9.out⟩
  · obtain ⟨hs1, hg1⟩ := chg_no HG.out hB HXN.out
    rw [hB] at hlen hmy ⊢
    have HLY := Lib.hid hlen
    have HSX := Lib.hid hs1
    have HEN := Lib.hid (enc_not hg1)
    have hal := below_alloc w4 (.cells #[.int .i64 r.cl, .int .i64 r.sq, .int .i64 r.k, .string r.p, .string r.t, .int .i64 r.sz, .int .i64 r.h, .int .i64 r.o, .string r.d, .int .i64 r.tk, .int .i64 r.i, .slice oy ny cy] 24)
    have HBY5 : Hid (OBox (w4.alloc (.cells #[.int .i64 r.cl, .int .i64 r.sq, .int .i64 r.k, .string r.p, .string r.t, .int .i64 r.sz, .int .i64 r.h, .int .i64 r.o, .string r.d, .int .i64 r.tk, .int .i64 r.i, .slice oy ny cy] 24)) w4.heap.size r (.slice oy ny cy)) := Lib.hid (heap_alloc_new w4 _)
    have HBZ5 := Lib.hid (HBZ4.out.keep hal)
    have HB5 := Lib.hid (bstep HB4.out hal)
    have HMX5 := Lib.hid (HMX4.out.grow hal)
    have HMY5 := Lib.hid (hmy.grow hal)
    clear hal HBZ4 HB4 HMX4
    clear hlen hmy hB hs1 hg1
    obtain ⟨d0, d1, d2, d3, d4, d5, d6, d7, d8, d9, d10, d11⟩ := HBZ5.out.cells
    go_wp2_with fail
    clear d0 d1 d2 d3 d4 d5 d6 d7 d8 d9 d10 d11
    generalize w4.alloc (.cells #[.int .i64 r.cl, .int .i64 r.sq, .int .i64 r.k, .string r.p, .string r.t, .int .i64 r.sz, .int .i64 r.h, .int .i64 r.o, .string r.d, .int .i64 r.tk, .int .i64 r.i, .slice oy ny cy] 24) = v5 at HBZ5 HBY5 HB5 HMX5 HMY5 ⊢
    generalize w4.heap.size = b5 at HBY5 ⊢
    go_at_call 11
    refine (enc_any x HFX.out ob x.m.length d rfl _ (HF.out.keep HB5.out) HMX5.out).mono ?_
    rintro e w6 ⟨rfl, hb6⟩
    have HB6 := Lib.hid (bstep HB5.out hb6)
    have HBZ6 := Lib.hid (HBZ5.out.keep hb6)
    have HBY6 := Lib.hid (HBY5.out.keep hb6)
    have HMX6 := Lib.hid (HMX5.out.grow hb6)
    have HMY6 := Lib.hid (HMY5.out.grow hb6)
    clear hb6 HB5 HBZ5 HBY5 HMX5 HMY5
    rw [HEN.out.1, HEN.out.2]
    obtain ⟨d0, d1, d2, d3, d4, d5, d6, d7, d8, d9, d10, d11⟩ := HBZ6.out.cells
    obtain ⟨e0, e1, e2, e3, e4, e5, e6, e7, e8, e9, e10, e11⟩ := HBY6.out.cells
    go_wp2_with fail
    clear d0 d1 d2 d3 d4 d5 d6 d7 d8 d9 d10 d11 e0 e1 e2 e3 e4 e5 e6 e7 e8 e9 e10 e11
    go_at_call 15
    refine (keep_is r x false HSX.out oy ob ny x.m.length cy d HLY.out rfl HR.out.2.2.2 HFX.out.2.2.2 _ HMY6.out HMX6.out).mono ?_
    rintro e w7 ⟨rfl, hb7⟩
    have HB7 := Lib.hid (bstep HB6.out hb7)
    have HBY7 := Lib.hid (HBY6.out.keep hb7)
    have HMY7 := Lib.hid (HMY6.out.grow hb7)
    clear hb7
    obtain ⟨d0, d1, d2, d3, d4, d5, d6, d7, d8, d9, d10, d11⟩ := HBY7.out.cells
    go_wp2_with (first
      | (go_at_call 13; refine (good_is r true HG.out HR.out oy ny cy HLY.out _ (HF.out.keep HB7.out) HMY7.out).mono ?_; rintro e w8 ⟨rfl, hb8⟩; have HB8 := Lib.hid (bstep HB7.out hb8); clear hb8 d0 d1 d2 d3 d4 d5 d6 d7 d8 d9 d10 d11)
      | (go_at_call 9; refine (wakes_any _ (HF.out.keep HB8.out)).mono ?_; rintro e w9 ⟨rfl, hb9⟩; have HB9 := Lib.hid (bstep HB8.out hb9); clear hb9))
    go_ret
    exact ⟨rfl, HB9.out⟩
set_option maxHeartbeats 6400000 in
theorem others_6 (r : Rec) (oa : Option Addr) (n c : Nat) (hn : n = r.m.length) (hc : oa = none → n = 0 ∧ c = 0) (z : Int) (hz : 0 ≤ z ∧ z ≤ 255) (hw : z % 7 = 6) (w : World) (hf : Fl w) (hm : MvAt w oa r.m) :
    Calls Tryd.prog 7 #[.agg #[.int .i64 r.cl, .int .i64 r.sq, .int .i64 r.k, .string r.p, .string r.t, .int .i64 r.sz, .int .i64 r.h, .int .i64 r.o, .string r.d, .int .i64 r.tk, .int .i64 r.i, .slice oa n c], .int .u8 z] w fun e w' => e = .returned (.bool true) ∧ Below w.heap.size w w' := by
  have HF := Lib.hid hf
  have HN := Lib.hid hn
  have HC := Lib.hid hc
  have H0 := Lib.hid (below_alloc w (.cells #[.int .i64 r.cl, .int .i64 r.sq, .int .i64 r.k, .string r.p, .string r.t, .int .i64 r.sz, .int .i64 r.h, .int .i64 r.o, .string r.d, .int .i64 r.tk, .int .i64 r.i, .slice oa n c] 24))
  have HM0 := Lib.hid (hm.grow H0.out)
  have HBX : Hid (OBox (w.alloc (.cells #[.int .i64 r.cl, .int .i64 r.sq, .int .i64 r.k, .string r.p, .string r.t, .int .i64 r.sz, .int .i64 r.h, .int .i64 r.o, .string r.d, .int .i64 r.tk, .int .i64 r.i, .slice oa n c] 24)) w.heap.size r (.slice oa n c)) := Lib.hid (heap_alloc_new w _)
  clear hf hn hc hm
  have q0 : (z % 7 == 0) = false := by rw [hw]; rfl
  have q1 : (z % 7 == 1) = false := by rw [hw]; rfl
  have q2 : (z % 7 == 2) = false := by rw [hw]; rfl
  have q3 : (z % 7 == 3) = false := by rw [hw]; rfl
  have q4 : (z % 7 == 4) = false := by rw [hw]; rfl
  have q5 : (z % 7 == 5) = false := by rw [hw]; rfl
  have q6 : (z % 7 == 6) = true := by rw [hw]; rfl
  cases hl : largeB r with
  | true =>
    have HL := Lib.hid hl
    clear hl
    go_enter Tryd.func7, Tryd.ntmps7
    go_wp2_with (first
      | (go_at_call 8; refine (large_is r oa n c true HL.out HN.out _).mono ?_; rintro e w1 ⟨rfl, hb1⟩; have HB1 := Lib.hid (bstep H0.out hb1); clear hb1)
      | (go_at_call 9; refine (wakes_any _ (HF.out.keep HB1.out)).mono ?_; rintro e w2 ⟨rfl, hb2⟩; have HB2 := Lib.hid (bstep HB1.out hb2); clear hb2))
    go_ret
    exact ⟨rfl, HB2.out⟩
  | false =>
  have HL := Lib.hid hl
  have HR := Lib.hid (small_fit (large_not hl))
  have HSM := Lib.hid (large_not hl)
  clear hl
  go_enter Tryd.func7, Tryd.ntmps7
  go_wp2_with fail
  generalize w.alloc (.cells #[.int .i64 r.cl, .int .i64 r.sq, .int .i64 r.k, .string r.p, .string r.t, .int .i64 r.sz, .int .i64 r.h, .int .i64 r.o, .string r.d, .int .i64 r.tk, .int .i64 r.i, .slice oa n c] 24) = w0 at H0 HM0 HBX ⊢
  go_at_call 8
  refine (large_is r oa n c false HL.out HN.out _).mono ?_
  rintro e w1 ⟨rfl, hb1⟩
  have HB1 := Lib.hid (bstep H0.out hb1)
  have HBX1 := Lib.hid (HBX.out.keep hb1)
  have HM1 := Lib.hid (HM0.out.grow hb1)
  obtain ⟨d0, d1, d2, d3, d4, d5, d6, d7, d8, d9, d10, d11⟩ := HBX1.out.cells
  clear hb1 HM0 HBX
  go_wp2_with fail
  clear d0 d1 d2 d3 d4 d5 d6 d7 d8 d9 d10 d11
  cases hg : goodB r with
  | false =>
    have HG := Lib.hid hg
    clear hg
    go_at_call 14
    refine (rgood_is r false HG.out HR.out oa n c HN.out _ HM1.out).mono ?_
    rintro e w2 ⟨rfl, hb2⟩
    have HB2 := Lib.hid (bstep HB1.out hb2)
    clear hb2
    go_wp2_with (go_at_call 9; refine (wakes_any _ (HF.out.keep HB2.out)).mono ?_; rintro e w3 ⟨rfl, hb3⟩; have HB3 := Lib.hid (bstep HB2.out hb3); clear hb3)
    go_ret
    exact ⟨rfl, HB3.out⟩
  | true =>
  have HG := Lib.hid hg
  have hnn := good_nn hg
  have hsm := HSM.out
  unfold Small at hsm
  have hw64 : wrap64 (r.o + 1) = r.o + 1 := IntWalk.wrap64_in _ (by have := hnn.2.2.1; omega)
  clear hnn hsm
  clear hg
  go_at_call 14
  refine (rgood_is r true HG.out HR.out oa n c HN.out _ HM1.out).mono ?_
  rintro e w2 ⟨rfl, hb2⟩
  have HB2 := Lib.hid (bstep HB1.out hb2)
  have HBX2 := Lib.hid (HBX1.out.keep hb2)
  have HM2 := Lib.hid (HM1.out.grow hb2)
  obtain ⟨d0, d1, d2, d3, d4, d5, d6, d7, d8, d9, d10, d11⟩ := HBX2.out.cells
  clear hb2 HBX1 HM1 HB1
  go_wp2_with fail
  clear d0 d1 d2 d3 d4 d5 d6 d7 d8 d9 d10 d11
  go_at_call 10
  refine (copy_any r oa n c HN.out HC.out HR.out.2.2.2 _ HM2.out).mono ?_
  rintro e w3 ⟨ob, d, rfl, hc3, hm3, hb3⟩
  have HK3 := Lib.hid (bstep HB2.out hb3)
  have HM3 := Lib.hid hm3
  clear hc3 hm3 hb3 HBX2 HM2 HB2
  go_wp2_with fail
  obtain ⟨x, hx⟩ : ∃ x : Rec, x = ⟨r.cl, r.sq, r.k, r.p, r.t, r.sz, r.h, (r.o + 1), r.d, r.tk, r.i, r.m⟩ := ⟨_, rfl⟩
  have hbx : Below w3.heap.size w3 (w3.alloc (.cells #[.int .i64 r.cl, .int .i64 r.sq, .int .i64 r.k, .string r.p, .string r.t, .int .i64 r.sz, .int .i64 r.h, .int .i64 (r.o + 1), .string r.d, .int .i64 r.tk, .int .i64 r.i, .slice ob r.m.length d] 24)) := below_alloc w3 _
  have hbz : OBox (w3.alloc (.cells #[.int .i64 r.cl, .int .i64 r.sq, .int .i64 r.k, .string r.p, .string r.t, .int .i64 r.sz, .int .i64 r.h, .int .i64 (r.o + 1), .string r.d, .int .i64 r.tk, .int .i64 r.i, .slice ob r.m.length d] 24)) w3.heap.size x (.slice ob r.m.length d) := by rw [hx]; exact heap_alloc_new w3 _
  have hmx : MvAt (w3.alloc (.cells #[.int .i64 r.cl, .int .i64 r.sq, .int .i64 r.k, .string r.p, .string r.t, .int .i64 r.sz, .int .i64 r.h, .int .i64 (r.o + 1), .string r.d, .int .i64 r.tk, .int .i64 r.i, .slice ob r.m.length d] 24)) ob x.m := by rw [hx]; exact HM3.out.grow hbx
  have hb3 : Below w.heap.size w (w3.alloc (.cells #[.int .i64 r.cl, .int .i64 r.sq, .int .i64 r.k, .string r.p, .string r.t, .int .i64 r.sz, .int .i64 r.h, .int .i64 (r.o + 1), .string r.d, .int .i64 r.tk, .int .i64 r.i, .slice ob r.m.length d] 24)) := bstep HK3.out hbx
  clear hbx HM3 HK3
  generalize (w3.alloc (.cells #[.int .i64 r.cl, .int .i64 r.sq, .int .i64 r.k, .string r.p, .string r.t, .int .i64 r.sz, .int .i64 r.h, .int .i64 (r.o + 1), .string r.d, .int .i64 r.tk, .int .i64 r.i, .slice ob r.m.length d] 24)) = v3 at hbz hmx hb3 ⊢
  generalize w3.heap.size = b3 at hbz ⊢
  have hC : only x = x ∨ only x = r := by rw [hx]; exact only_chg_o HG.out _
  have hne : r ≠ x := by rw [hx]; intro h; have h1 := congrArg Rec.o h; dsimp only at h1; omega
  have HFX : Hid (Fit x) := Lib.hid (by rw [hx]; have := HR.out; have := HSM.out; unfold Fit Small at *; refine ⟨?_, ?_, ?_, ?_⟩ <;> dsimp only <;> (try rw [show ∀ a b : ByteArray, (a ++ b).size = a.size + b.size from fun a b => by simp [ByteArray.size_append]]) <;> (try (have : (⟨#[47, 97]⟩ : ByteArray).size = 2 := rfl)) <;> omega)
  have Ecl : r.cl = x.cl := by rw [hx]
  have Esq : r.sq = x.sq := by rw [hx]
  have Ek : r.k = x.k := by rw [hx]
  have Ep : r.p = x.p := by rw [hx]
  have Et : r.t = x.t := by rw [hx]
  have Esz : r.sz = x.sz := by rw [hx]
  have Eh : r.h = x.h := by rw [hx]
  have Eo : r.o + 1 = x.o := by rw [hx]
  have Ed : r.d = x.d := by rw [hx]
  have Etk : r.tk = x.tk := by rw [hx]
  have Ei : r.i = x.i := by rw [hx]
  have Em : r.m = x.m := by rw [hx]
  clear hx
  simp only [Ecl, Esq, Ek, Ep, Et, Esz, Eh, Eo, Ed, Etk, Ei, Em] at hbz ⊢
  have HBZ := Lib.hid hbz
  have HMX := Lib.hid hmx
  have HV3 := Lib.hid hb3
  have HXN := Lib.hid hne
  clear Ecl Esq Ek Ep Et Esz Eh Eo Ed Etk Ei Em hbz hmx hb3 hne hw64
  go_at_call 19
  refine (only_any x ob x.m.length d _).mono ?_
  rintro e w4 ⟨rfl, hb4⟩
  have hlen := only_len x x.m.length rfl
  have hmy := only_mv x ob w4 (HMX.out.grow hb4)
  have HBZ4 := Lib.hid (HBZ.out.keep hb4)
  have HB4 := Lib.hid (bstep HV3.out hb4)
  have HMX4 := Lib.hid (HMX.out.grow hb4)
  clear hb4 HBZ HV3 HMX
  generalize onlyA x ob = oy at hmy ⊢
  generalize onlyN x x.m.length = ny at hlen ⊢
  generalize onlyN x d = cy
  rcases hC with hA | hB
  · rw [hA] at hlen hmy ⊢
    have HLY := Lib.hid hlen
    have hal := below_alloc w4 (.cells #[.int .i64 x.cl, .int .i64 x.sq, .int .i64 x.k, .string x.p, .string x.t, .int .i64 x.sz, .int .i64 x.h, .int .i64 x.o, .string x.d, .int .i64 x.tk, .int .i64 x.i, .slice oy ny cy] 24)
    have HBY5 : Hid (OBox (w4.alloc (.cells #[.int .i64 x.cl, .int .i64 x.sq, .int .i64 x.k, .string x.p, .string x.t, .int .i64 x.sz, .int .i64 x.h, .int .i64 x.o, .string x.d, .int .i64 x.tk, .int .i64 x.i, .slice oy ny cy] 24)) w4.heap.size x (.slice oy ny cy)) := Lib.hid (heap_alloc_new w4 _)
    have HBZ5 := Lib.hid (HBZ4.out.keep hal)
    have HB5 := Lib.hid (bstep HB4.out hal)
    have HMX5 := Lib.hid (HMX4.out.grow hal)
    have HMY5 := Lib.hid (hmy.grow hal)
    clear hal HBZ4 HB4 HMX4
    clear hlen hmy hA
    have HSX : Hid (sameB x x = true) := Lib.hid ((sameB_iff _ _).2 rfl)
    have HZX : Hid (x.m.length ≤ 1000000) := Lib.hid HFX.out.2.2.2
    obtain ⟨d0, d1, d2, d3, d4, d5, d6, d7, d8, d9, d10, d11⟩ := HBZ5.out.cells
    go_wp2_with fail
    clear d0 d1 d2 d3 d4 d5 d6 d7 d8 d9 d10 d11
    generalize w4.alloc (.cells #[.int .i64 x.cl, .int .i64 x.sq, .int .i64 x.k, .string x.p, .string x.t, .int .i64 x.sz, .int .i64 x.h, .int .i64 x.o, .string x.d, .int .i64 x.tk, .int .i64 x.i, .slice oy ny cy] 24) = v5 at HBZ5 HBY5 HB5 HMX5 HMY5 ⊢
    generalize w4.heap.size = b5 at HBY5 ⊢
    go_at_call 11
    refine (enc_any x HFX.out ob x.m.length d rfl _ (HF.out.keep HB5.out) HMX5.out).mono ?_
    rintro e w6 ⟨rfl, hb6⟩
    have HB6 := Lib.hid (bstep HB5.out hb6)
    have HBZ6 := Lib.hid (HBZ5.out.keep hb6)
    have HBY6 := Lib.hid (HBY5.out.keep hb6)
    have HMX6 := Lib.hid (HMX5.out.grow hb6)
    have HMY6 := Lib.hid (HMY5.out.grow hb6)
    clear hb6 HB5 HBZ5 HBY5 HMX5 HMY5
    cases hgb : goodB x with
    | true =>
      have hee : encE x = 0 := by unfold encE; rw [hgb]; rfl
      rw [hee]
      have HGB := Lib.hid hgb
      clear hee hgb
      obtain ⟨d0, d1, d2, d3, d4, d5, d6, d7, d8, d9, d10, d11⟩ := HBZ6.out.cells
      obtain ⟨e0, e1, e2, e3, e4, e5, e6, e7, e8, e9, e10, e11⟩ := HBY6.out.cells
      go_wp2_with fail
      clear d0 d1 d2 d3 d4 d5 d6 d7 d8 d9 d10 d11 e0 e1 e2 e3 e4 e5 e6 e7 e8 e9 e10 e11
      go_at_call 15
      refine (keep_is x x true HSX.out oy ob ny x.m.length cy d HLY.out rfl HZX.out HZX.out _ HMY6.out HMX6.out).mono ?_
      rintro e w7 ⟨rfl, hb7⟩
      have HB7 := Lib.hid (bstep HB6.out hb7)
      have HBZ7 := Lib.hid (HBZ6.out.keep hb7)
      have HMX7 := Lib.hid (HMX6.out.grow hb7)
      clear hb7
      obtain ⟨d0, d1, d2, d3, d4, d5, d6, d7, d8, d9, d10, d11⟩ := HBZ7.out.cells
      go_wp2_with (first
        | (go_at_call 14; refine (rgood_is x true HGB.out HFX.out ob x.m.length d rfl _ HMX7.out).mono ?_; rintro e w8 ⟨rfl, hb8⟩; have HB8 := Lib.hid (bstep HB7.out hb8); clear hb8 d0 d1 d2 d3 d4 d5 d6 d7 d8 d9 d10 d11)
        | (go_at_call 9; refine (wakes_any _ (HF.out.keep HB8.out)).mono ?_; rintro e w9 ⟨rfl, hb9⟩; have HB9 := Lib.hid (bstep HB8.out hb9); clear hb9))
      go_ret
      exact ⟨rfl, HB9.out⟩
    | false =>
      have hee : encE x = 11 := by unfold encE; rw [hgb]; rfl
      rw [hee]
      have HGB := Lib.hid hgb
      clear hee hgb
      obtain ⟨d0, d1, d2, d3, d4, d5, d6, d7, d8, d9, d10, d11⟩ := HBZ6.out.cells
      obtain ⟨e0, e1, e2, e3, e4, e5, e6, e7, e8, e9, e10, e11⟩ := HBY6.out.cells
      go_wp2_with fail
      clear d0 d1 d2 d3 d4 d5 d6 d7 d8 d9 d10 d11 e0 e1 e2 e3 e4 e5 e6 e7 e8 e9 e10 e11
      go_at_call 15
      refine (keep_is x x true HSX.out oy ob ny x.m.length cy d HLY.out rfl HZX.out HZX.out _ HMY6.out HMX6.out).mono ?_
      rintro e w7 ⟨rfl, hb7⟩
      have HB7 := Lib.hid (bstep HB6.out hb7)
      have HBZ7 := Lib.hid (HBZ6.out.keep hb7)
      have HMX7 := Lib.hid (HMX6.out.grow hb7)
      clear hb7
      obtain ⟨d0, d1, d2, d3, d4, d5, d6, d7, d8, d9, d10, d11⟩ := HBZ7.out.cells
      go_wp2_with (first
        | (go_at_call 14; refine (rgood_is x false HGB.out HFX.out ob x.m.length d rfl _ HMX7.out).mono ?_; rintro e w8 ⟨rfl, hb8⟩; have HB8 := Lib.hid (bstep HB7.out hb8); clear hb8 d0 d1 d2 d3 d4 d5 d6 d7 d8 d9 d10 d11)
        | (go_at_call 9; refine (wakes_any _ (HF.out.keep HB8.out)).mono ?_; rintro e w9 ⟨rfl, hb9⟩; have HB9 := Lib.hid (bstep HB8.out hb9); clear hb9))
      go_ret
      exact ⟨rfl, HB9.out⟩
  · obtain ⟨hs1, hg1⟩ := chg_no HG.out hB HXN.out
    rw [hB] at hlen hmy ⊢
    have HLY := Lib.hid hlen
    have HSX := Lib.hid hs1
    have HEN := Lib.hid (enc_not hg1)
    have hal := below_alloc w4 (.cells #[.int .i64 r.cl, .int .i64 r.sq, .int .i64 r.k, .string r.p, .string r.t, .int .i64 r.sz, .int .i64 r.h, .int .i64 r.o, .string r.d, .int .i64 r.tk, .int .i64 r.i, .slice oy ny cy] 24)
    have HBY5 : Hid (OBox (w4.alloc (.cells #[.int .i64 r.cl, .int .i64 r.sq, .int .i64 r.k, .string r.p, .string r.t, .int .i64 r.sz, .int .i64 r.h, .int .i64 r.o, .string r.d, .int .i64 r.tk, .int .i64 r.i, .slice oy ny cy] 24)) w4.heap.size r (.slice oy ny cy)) := Lib.hid (heap_alloc_new w4 _)
    have HBZ5 := Lib.hid (HBZ4.out.keep hal)
    have HB5 := Lib.hid (bstep HB4.out hal)
    have HMX5 := Lib.hid (HMX4.out.grow hal)
    have HMY5 := Lib.hid (hmy.grow hal)
    clear hal HBZ4 HB4 HMX4
    clear hlen hmy hB hs1 hg1
    obtain ⟨d0, d1, d2, d3, d4, d5, d6, d7, d8, d9, d10, d11⟩ := HBZ5.out.cells
    go_wp2_with fail
    clear d0 d1 d2 d3 d4 d5 d6 d7 d8 d9 d10 d11
    generalize w4.alloc (.cells #[.int .i64 r.cl, .int .i64 r.sq, .int .i64 r.k, .string r.p, .string r.t, .int .i64 r.sz, .int .i64 r.h, .int .i64 r.o, .string r.d, .int .i64 r.tk, .int .i64 r.i, .slice oy ny cy] 24) = v5 at HBZ5 HBY5 HB5 HMX5 HMY5 ⊢
    generalize w4.heap.size = b5 at HBY5 ⊢
    go_at_call 11
    refine (enc_any x HFX.out ob x.m.length d rfl _ (HF.out.keep HB5.out) HMX5.out).mono ?_
    rintro e w6 ⟨rfl, hb6⟩
    have HB6 := Lib.hid (bstep HB5.out hb6)
    have HBZ6 := Lib.hid (HBZ5.out.keep hb6)
    have HBY6 := Lib.hid (HBY5.out.keep hb6)
    have HMX6 := Lib.hid (HMX5.out.grow hb6)
    have HMY6 := Lib.hid (HMY5.out.grow hb6)
    clear hb6 HB5 HBZ5 HBY5 HMX5 HMY5
    rw [HEN.out.1, HEN.out.2]
    obtain ⟨d0, d1, d2, d3, d4, d5, d6, d7, d8, d9, d10, d11⟩ := HBZ6.out.cells
    obtain ⟨e0, e1, e2, e3, e4, e5, e6, e7, e8, e9, e10, e11⟩ := HBY6.out.cells
    go_wp2_with fail
    clear d0 d1 d2 d3 d4 d5 d6 d7 d8 d9 d10 d11 e0 e1 e2 e3 e4 e5 e6 e7 e8 e9 e10 e11
    go_at_call 15
    refine (keep_is r x false HSX.out oy ob ny x.m.length cy d HLY.out rfl HR.out.2.2.2 HFX.out.2.2.2 _ HMY6.out HMX6.out).mono ?_
    rintro e w7 ⟨rfl, hb7⟩
    have HB7 := Lib.hid (bstep HB6.out hb7)
    have HBY7 := Lib.hid (HBY6.out.keep hb7)
    have HMY7 := Lib.hid (HMY6.out.grow hb7)
    clear hb7
    obtain ⟨d0, d1, d2, d3, d4, d5, d6, d7, d8, d9, d10, d11⟩ := HBY7.out.cells
    go_wp2_with (first
      | (go_at_call 13; refine (good_is r true HG.out HR.out oy ny cy HLY.out _ (HF.out.keep HB7.out) HMY7.out).mono ?_; rintro e w8 ⟨rfl, hb8⟩; have HB8 := Lib.hid (bstep HB7.out hb8); clear hb8 d0 d1 d2 d3 d4 d5 d6 d7 d8 d9 d10 d11)
      | (go_at_call 9; refine (wakes_any _ (HF.out.keep HB8.out)).mono ?_; rintro e w9 ⟨rfl, hb9⟩; have HB9 := Lib.hid (bstep HB8.out hb9); clear hb9))
    go_ret
    exact ⟨rfl, HB9.out⟩
theorem others_walk (r : Rec) (oa : Option Addr) (n c : Nat) (hn : n = r.m.length) (hc : oa = none → n = 0 ∧ c = 0) (z : Int) (hz : 0 ≤ z ∧ z ≤ 255) (w : World) (hf : Fl w) (hm : MvAt w oa r.m) :
    Calls Tryd.prog 7 #[.agg #[.int .i64 r.cl, .int .i64 r.sq, .int .i64 r.k, .string r.p, .string r.t, .int .i64 r.sz, .int .i64 r.h, .int .i64 r.o, .string r.d, .int .i64 r.tk, .int .i64 r.i, .slice oa n c], .int .u8 z] w fun e w' => e = .returned (.bool true) ∧ Below w.heap.size w w' := by
  have h : z % 7 = 0 ∨ z % 7 = 1 ∨ z % 7 = 2 ∨ z % 7 = 3 ∨ z % 7 = 4 ∨ z % 7 = 5 ∨ z % 7 = 6 := by omega
  rcases h with h | h | h | h | h | h | h
  · exact others_0 r oa n c hn hc z hz h w hf hm
  · exact others_1 r oa n c hn hc z hz h w hf hm
  · exact others_2 r oa n c hn hc z hz h w hf hm
  · exact others_3 r oa n c hn hc z hz h w hf hm
  · exact others_4 r oa n c hn hc z hz h w hf hm
  · exact others_5 r oa n c hn hc z hz h w hf hm
  · exact others_6 r oa n c hn hc z hz h w hf hm
end Go.Proofs.YtlffcilgmockmaaDoor.OpW

/- What the listed table gives: op.fields stands in block 0. -/
namespace Go.Proofs.YtlffcilgmockmaaDoor.OpW
set_option maxRecDepth 100000
open Go.ChangeShapes Go.WideShapes Go.ChangeAt Go.WideElems Go.RowKit OpP
theorem gFields : Tryd.prog.globalNamed "escheat/op.fields" = some 0 := by kernel_rfl
theorem tFields : (Tryd.prog.globals[0]?).map (·.type) = some 44 := by kernel_rfl
theorem take_one {α : Type} {l : List α} {k : Nat} {v : α} (h : (l.drop k).take 1 = [v]) : l[k]? = some v := by
  have h1 := congrArg (fun y => y[0]?) h
  simpa [List.getElem?_take, List.getElem?_drop] using h1
theorem fields_at {H : Type} (k : Nat) (h1 : 1 ≤ k) (h2 : k ≤ 14) : ([.lit (.string []), .lit (.string [112]), .lit (.string [112]), .lit (.string [112]), .lit (.string [112, 116]), .lit (.string [112]), .lit (.string [112, 116]), .lit (.string [112, 115]), .lit (.string [112]), .lit (.string [104]), .lit (.string [104, 111, 100]), .lit (.string [107]), .lit (.string [107]), .lit (.string [105, 109, 100]), .lit (.string [100, 115, 111])] : List (DataW H))[k]? = some (.lit (.string (fieldsOf k).data.toList)) := by
  have h : k = 1 ∨ k = 2 ∨ k = 3 ∨ k = 4 ∨ k = 5 ∨ k = 6 ∨ k = 7 ∨ k = 8 ∨ k = 9 ∨ k = 10 ∨ k = 11 ∨ k = 12 ∨ k = 13 ∨ k = 14 := by omega
  rcases h with rfl | rfl | rfl | rfl | rfl | rfl | rfl | rfl | rfl | rfl | rfl | rfl | rfl | rfl <;> rfl
theorem fl_of {W : World} (h : laidMetH Tryd.prog [("escheat/op.fields", Rows.laid_escheat_op_fields)] W) : Fl W := by
  rw [MakeChecks.laidMetH_plain _ _ _ (by kernel_rfl)] at h
  obtain ⟨ps, ⟨g0, t0, cs0, f0, p0, q0, hg0, ht0, hv0, hd0, _⟩, _, _⟩ := h
  obtain rfl := Option.some.inj (gFields.symm.trans hg0)
  obtain rfl := Option.some.inj (tFields.symm.trans ht0)
  obtain ⟨xs, m, rfl, hx, hlen, hn, hel⟩ := DataW.trod_array Tryd.underlying44 hd0
  have c9 : Tryd.prog.cellsOf 9 = 1 := by kernel_rfl
  simp only [Prod.mk.injEq] at hx
  have hl := hx.1
  unfold Rows.laid_escheat_op_fields at hl
  injection hl with hl
  intro k h1 h2
  have hk := hel k (by omega)
  rw [c9, Nat.mul_one] at hk
  have hf : (xs.map (·.1))[k]? = some (.lit (.string (fieldsOf k).data.toList)) := by rw [← hl]; exact fields_at k h1 h2
  rw [List.getElem?_map] at hf
  cases hxk : xs[k]? with
  | none => rw [hxk] at hf; cases hf
  | some y =>
    rw [hxk] at hf hk
    simp only [Option.map_some, Option.some.injEq] at hf
    obtain ⟨s, e1, e2, _⟩ := DataW.trod_string Tryd.underlying9 hk
    rw [e2] at hf
    injection hf with hf
    injection hf with hf
    have hs : s = fieldsOf k := by
      obtain ⟨a⟩ := s
      obtain ⟨b, hb⟩ : ∃ b, fieldsOf k = b := ⟨_, rfl⟩
      rw [hb] at hf ⊢
      obtain ⟨b⟩ := b
      congr 1
      exact Array.toList_inj.1 hf
    rw [← hs]
    have := World.var?_cell hg0 hv0 k
    rw [this]
    have h3 := take_one e1
    simpa using h3
end Go.Proofs.YtlffcilgmockmaaDoor.OpW

/- A struct that came in by value, of fields of one cell each, however many. -/
namespace Go.Proofs.YtlffcilgmockmaaDoor
open Go.RowKit Go.ChangeShapes Go.WideShapes Go.Deep
section
variable {H : Type} {enc : TypeId × Value → H} {P : Program} {w : World} {base : Nat} {spare : Nat → Bool} {held : Bool}
theorem open_one {r : Reach} {b0 : Nat} {t : TypeId} {fs : Array Field} {v : Value} {d : DataW H} {p : List MemPlace} (hs : P.underlying t = some (.struct fs)) (hone : oneCellFields P fs = true) (hC : P.cellsOf t = fs.size)
    (hv : Value.okWide P w r b0 t v) (h : DataW.Trod enc P w base spare held t v d p) :
    ∃ cs : Array Value, v = .agg cs ∧ cs.size = fs.size ∧ ∀ (j : Nat) (f : Field), fs[j]? = some f → ∃ (u : Value) (n : Nat) (y : DataW H × List MemPlace), cs[j]? = some u ∧ DataW.trod enc P w base spare held n f.type [u] = some y := by
  obtain ⟨cs, rfl, hsz⟩ := okWide_struct hs hv
  rw [hC] at hsz
  obtain ⟨fuel, hf⟩ := h
  obtain ⟨ys, n, _, _, hcl, hyl, hfd⟩ := DataW.trod_struct hs hf
  refine ⟨cs, rfl, hsz, fun j f hj => ?_⟩
  have hjl : j < fs.size := (Array.getElem?_eq_some_iff.1 hj).1
  obtain ⟨ho, hk⟩ := hone_of hone j f hj
  have h1 := hfd j f hj
  rw [ho, hk] at h1
  have hd : ((Value.agg cs).cells.toList.drop j).take 1 = [cs[j]'(by omega)] := by
    show (cs.toList.drop j).take 1 = _
    rw [List.drop_eq_getElem_cons (by simp; omega)]; simp
  rw [hd, List.getElem?_eq_getElem (by omega)] at h1
  exact ⟨_, n, _, by simp [show j < cs.size by omega], h1⟩
end
end Go.Proofs.YtlffcilgmockmaaDoor

/- A record that came in by value, its moves in memory. -/
namespace Go.Proofs.YtlffcilgmockmaaDoor.OpW
set_option maxRecDepth 100000
open Go.RowKit Go.ChangeShapes Go.WideShapes Go.Deep OpP
section
variable {H : Type} {enc : TypeId × Value → H} {w : World} {base b0 : Nat} {spare : Nat → Bool} {held : Bool} {r : Reach} {v : Value} {d : DataW H} {p : List MemPlace}
theorem rows_t {P : Program} {fuel : Nat} {t e : TypeId} {fs : Array Field} {u : Value} {x : DataW H × List MemPlace} (ht : P.underlying t = some (.slice e)) (he : P.underlying e = some (.struct fs))
    (hone : oneCellFields P fs = true) (hC : P.cellsOf e = fs.size) (hf : DataW.trod enc P w base spare held fuel t [u] = some x) :
    ∃ (oa : Option Addr) (len cap : Nat), u = .slice oa len cap ∧ (oa = none → len = 0 ∧ cap = 0) ∧
      ∀ i, i < len → ∃ a n, oa = some a ∧ ∀ (j : Nat) (f : Field), fs[j]? = some f → ∃ (u : Value) (y : DataW H × List MemPlace), w.cell? (a.add (i * fs.size + j)) = some u ∧ DataW.trod enc P w base spare held n f.type [u] = some y := by
  rcases open_slice ht hf with ⟨hcs, _⟩ | ⟨a, len, cap, m, n, D, Pl, hcs, _, hl, hm, hmm, _, hi⟩
  · obtain rfl : u = .slice none 0 0 := by simpa using hcs
    exact ⟨none, 0, 0, rfl, fun _ => ⟨rfl, rfl⟩, fun i hi => absurd hi (Nat.not_lt_zero _)⟩
  · obtain rfl : u = .slice (some a) len cap := by simpa using hcs
    refine ⟨some a, len, cap, rfl, (fun h => by cases h), fun i hil => ?_⟩
    have him : i < m := by rw [hmm]; split <;> omega
    obtain ⟨cs', hc, ht'⟩ := hi i him
    rw [hC] at hc
    obtain ⟨ys, n', hn', hy, hlen, hyl, hfd⟩ := DataW.trod_struct he ht'
    obtain ⟨_, hcl, hat⟩ := World.cells?_some hc
    refine ⟨a, n', rfl, fun j f hj => ?_⟩
    obtain ⟨ho, hk⟩ := hone_of hone j f hj
    have hjl : j < fs.size := (Array.getElem?_eq_some_iff.1 hj).1
    have hcell := hat j hjl
    have h1 := hfd j f hj
    rw [ho, hk] at h1
    have hd : (cs'.drop j).take 1 = [cs'[j]'(by omega)] := by
      rw [List.drop_eq_getElem_cons (by omega)]; rfl
    rw [hd, List.getElem?_eq_getElem (by omega)] at h1
    refine ⟨_, _, ?_, h1⟩
    rw [← Go.Deep.add_add, hcell, List.getElem?_eq_getElem (by omega)]
theorem open_moves {fuel : Nat} {u : Value} {x : DataW H × List MemPlace} (h : DataW.trod enc Tryd.prog w base spare held fuel 22 [u] = some x) : ∃ (oa : Option Addr) (l : List Mv) (cap : Nat), u = .slice oa l.length cap ∧ (oa = none → l.length = 0 ∧ cap = 0) ∧ MvAt w oa l := by
  obtain ⟨oa, len, cap, rfl, hn, hi⟩ := rows_t Tryd.underlying22 Tryd.underlying51 (by kernel_rfl) (by kernel_rfl) h
  have key : ∀ i, ∃ s : Mv, i < len → ∃ a, oa = some a ∧ a.block < w.heap.size ∧ ∀ j u, (encM s)[j]? = some u → w.cell? (fieldOf (a.add (i * 4)) j) = some u := by
    intro i
    by_cases hil : i < len
    · obtain ⟨a, n, ha, hf⟩ := hi i hil
      obtain ⟨u0, y0, c0, t0⟩ := hf 0 _ rfl
      obtain ⟨u1, y1, c1, t1⟩ := hf 1 _ rfl
      obtain ⟨u2, y2, c2, t2⟩ := hf 2 _ rfl
      obtain ⟨u3, y3, c3, t3⟩ := hf 3 _ rfl
      obtain ⟨z0, e0, _, _⟩ := DataW.trod_int Tryd.underlying3 t0
      obtain ⟨z1, e1, _, _⟩ := DataW.trod_int Tryd.underlying3 t1
      obtain ⟨z2, e2, _, _⟩ := DataW.trod_int Tryd.underlying3 t2
      obtain ⟨z3, e3, _, _⟩ := DataW.trod_int Tryd.underlying3 t3
      obtain rfl : u0 = .int .i64 z0 := by simpa using e0
      obtain rfl : u1 = .int .i64 z1 := by simpa using e1
      obtain rfl : u2 = .int .i64 z2 := by simpa using e2
      obtain rfl : u3 = .int .i64 z3 := by simpa using e3
      refine ⟨⟨z0, z1, z2, z3⟩, fun _ => ⟨a, ha, ?_, ?_⟩⟩
      · have := World.block_lt_of_cell? _ _ c0
        rwa [add_block] at this
      · intro j u hj
        rw [← fieldOf_add]
        match j with
        | 0 => simp only [encM, List.getElem?_cons_zero, Option.some.injEq] at hj; rw [← hj]; exact c0
        | 1 => simp only [encM, List.getElem?_cons_succ, List.getElem?_cons_zero, Option.some.injEq] at hj; rw [← hj]; exact c1
        | 2 => simp only [encM, List.getElem?_cons_succ, List.getElem?_cons_zero, Option.some.injEq] at hj; rw [← hj]; exact c2
        | 3 => simp only [encM, List.getElem?_cons_succ, List.getElem?_cons_zero, Option.some.injEq] at hj; rw [← hj]; exact c3
        | j + 4 => simp [encM] at hj
    · exact ⟨⟨0, 0, 0, 0⟩, fun h => absurd h hil⟩
  refine ⟨oa, (List.range len).map (fun i => (key i).choose), cap, by simp, by simpa using hn, ?_⟩
  intro i x hx
  have hil : i < len := by have := (List.getElem?_eq_some_iff.1 hx).1; simpa using this
  obtain rfl : (key i).choose = x := by simpa [hil] using hx
  exact (key i).choose_spec hil
theorem open_op (hv : Value.okWide Tryd.prog w r b0 24 v) (h : DataW.Trod enc Tryd.prog w base spare held 24 v d p) :
    ∃ (x : Rec) (oa : Option Addr) (n c : Nat) (_ : n = x.m.length) (_ : oa = none → n = 0 ∧ c = 0), v = .agg #[.int .i64 x.cl, .int .i64 x.sq, .int .i64 x.k, .string x.p, .string x.t, .int .i64 x.sz, .int .i64 x.h, .int .i64 x.o, .string x.d, .int .i64 x.tk, .int .i64 x.i, .slice oa n c] ∧ MvAt w oa x.m := by
  obtain ⟨cs, rfl, hsz, hf⟩ := open_one Tryd.underlying24 (by kernel_rfl) (by kernel_rfl) hv h
  obtain ⟨u0, n0, y0, c0, t0⟩ := hf 0 _ rfl
  obtain ⟨u1, n1, y1, c1, t1⟩ := hf 1 _ rfl
  obtain ⟨u2, n2, y2, c2, t2⟩ := hf 2 _ rfl
  obtain ⟨u3, n3, y3, c3, t3⟩ := hf 3 _ rfl
  obtain ⟨u4, n4, y4, c4, t4⟩ := hf 4 _ rfl
  obtain ⟨u5, n5, y5, c5, t5⟩ := hf 5 _ rfl
  obtain ⟨u6, n6, y6, c6, t6⟩ := hf 6 _ rfl
  obtain ⟨u7, n7, y7, c7, t7⟩ := hf 7 _ rfl
  obtain ⟨u8, n8, y8, c8, t8⟩ := hf 8 _ rfl
  obtain ⟨u9, n9, y9, c9, t9⟩ := hf 9 _ rfl
  obtain ⟨u10, n10, y10, c10, t10⟩ := hf 10 _ rfl
  obtain ⟨u11, n11, y11, c11, t11⟩ := hf 11 _ rfl
  obtain ⟨z0, e0, _, _⟩ := DataW.trod_int Tryd.underlying3 t0
  obtain rfl : u0 = .int .i64 z0 := by simpa using e0
  obtain ⟨z1, e1, _, _⟩ := DataW.trod_int Tryd.underlying3 t1
  obtain rfl : u1 = .int .i64 z1 := by simpa using e1
  obtain ⟨z2, e2, _, _⟩ := DataW.trod_int Tryd.underlying3 t2
  obtain rfl : u2 = .int .i64 z2 := by simpa using e2
  obtain ⟨z3, e3, _, _⟩ := DataW.trod_string Tryd.underlying9 t3
  obtain rfl : u3 = .string z3 := by simpa using e3
  obtain ⟨z4, e4, _, _⟩ := DataW.trod_string Tryd.underlying9 t4
  obtain rfl : u4 = .string z4 := by simpa using e4
  obtain ⟨z5, e5, _, _⟩ := DataW.trod_int Tryd.underlying3 t5
  obtain rfl : u5 = .int .i64 z5 := by simpa using e5
  obtain ⟨z6, e6, _, _⟩ := DataW.trod_int Tryd.underlying3 t6
  obtain rfl : u6 = .int .i64 z6 := by simpa using e6
  obtain ⟨z7, e7, _, _⟩ := DataW.trod_int Tryd.underlying3 t7
  obtain rfl : u7 = .int .i64 z7 := by simpa using e7
  obtain ⟨z8, e8, _, _⟩ := DataW.trod_string Tryd.underlying9 t8
  obtain rfl : u8 = .string z8 := by simpa using e8
  obtain ⟨z9, e9, _, _⟩ := DataW.trod_int Tryd.underlying2 t9
  obtain rfl : u9 = .int .i64 z9 := by simpa using e9
  obtain ⟨z10, e10, _, _⟩ := DataW.trod_int Tryd.underlying3 t10
  obtain rfl : u10 = .int .i64 z10 := by simpa using e10
  obtain ⟨oa, l, cap, rfl, hn, hm⟩ := open_moves t11
  refine ⟨⟨z0, z1, z2, z3, z4, z5, z6, z7, z8, z9, z10, l⟩, oa, l.length, cap, rfl, hn, ?_, hm⟩
  congr 1
  simp only [List.size_toArray, List.length_cons, List.length_nil] at hsz
  apply Array.ext_getElem?
  intro j
  match j with
  | 0 => exact c0
  | 1 => exact c1
  | 2 => exact c2
  | 3 => exact c3
  | 4 => exact c4
  | 5 => exact c5
  | 6 => exact c6
  | 7 => exact c7
  | 8 => exact c8
  | 9 => exact c9
  | 10 => exact c10
  | 11 => exact c11
  | j + 12 => rw [Array.getElem?_eq_none (by omega), Array.getElem?_eq_none (by simp)]
end
theorem sames_walk' (x : Rec) (ox : Option Addr) (nx cx : Nat) (hx : nx = x.m.length) (hcx : ox = none → nx = 0 ∧ cx = 0) (y : Rec) (oy : Option Addr) (ny cy : Nat) (hy : ny = y.m.length) (hcy : oy = none → ny = 0 ∧ cy = 0) (w : World) (hf : Fl w) (hmx : MvAt w ox x.m) (hmy : MvAt w oy y.m) :
    Calls Tryd.prog 6 #[.agg #[.int .i64 x.cl, .int .i64 x.sq, .int .i64 x.k, .string x.p, .string x.t, .int .i64 x.sz, .int .i64 x.h, .int .i64 x.o, .string x.d, .int .i64 x.tk, .int .i64 x.i, .slice ox nx cx], .agg #[.int .i64 y.cl, .int .i64 y.sq, .int .i64 y.k, .string y.p, .string y.t, .int .i64 y.sz, .int .i64 y.h, .int .i64 y.o, .string y.d, .int .i64 y.tk, .int .i64 y.i, .slice oy ny cy]] w fun e w' => e = .returned (.bool true) ∧ Below w.heap.size w w' := sames_walk x y ox oy nx cx ny cy hx hy hcx hcy w hf hmx hmy
theorem others_walk' (x : Rec) (ox : Option Addr) (nx cx : Nat) (hx : nx = x.m.length) (hcx : ox = none → nx = 0 ∧ cx = 0) (z : Int) (hz : (Lit.int .u8 z).wf = true) (w : World) (hf : Fl w) (hm : MvAt w ox x.m) :
    Calls Tryd.prog 7 #[.agg #[.int .i64 x.cl, .int .i64 x.sq, .int .i64 x.k, .string x.p, .string x.t, .int .i64 x.sz, .int .i64 x.h, .int .i64 x.o, .string x.d, .int .i64 x.tk, .int .i64 x.i, .slice ox nx cx], .int .u8 z] w fun e w' => e = .returned (.bool true) ∧ Below w.heap.size w w' := others_walk x ox nx cx hx hcx z (by simpa [Lit.wf, IntKind.min, IntKind.max, IntKind.signed, IntKind.bits] using hz) w hf hm
end Go.Proofs.YtlffcilgmockmaaDoor.OpW
