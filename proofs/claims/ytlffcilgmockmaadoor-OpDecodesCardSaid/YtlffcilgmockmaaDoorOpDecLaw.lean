/- OpDecodes: what the program and the reference read from any text. -/
import Derived.Test.YtlffcilgmockmaaDoorOpWakes
namespace Go.Proofs.YtlffcilgmockmaaDoor.OpW
set_option maxRecDepth 100000
open Go.RowKit OpP PackW
/-- the record that is answered, and the error's number -/
def decO (S : List UInt8) : Rec × Int := match decR (decD limP S) with | some r => (r, 0) | none => (zr, 11)
theorem decO_fit (S : List UInt8) : Fit (decO S).1 := by
  unfold decO
  cases h : decR (decD limP S) with
  | none => exact ⟨by decide, by decide, by decide, by decide⟩
  | some r =>
    have h1 := dec_fit limP limP_b S
    unfold decR at h
    split at h
    · injection h with h; rw [← h]; exact h1
    · cases h
theorem post_is {x : Lim} (hx : x.Ok) (S : List UInt8) {w : World} {e : Ending} {w' : World} (h : DecPost (decD x S) w e w') (r : Rec) (y : Int) (hr : decO S = (r, y)) :
    ∃ (oa : Option Addr) (n c : Nat), e = .returned (.tuple #[.agg #[.int .i64 r.cl, .int .i64 r.sq, .int .i64 r.k, .string r.p, .string r.t, .int .i64 r.sz, .int .i64 r.h, .int .i64 r.o, .string r.d, .int .i64 r.tk, .int .i64 r.i, .slice oa n c], .int .i64 y]) ∧ n = r.m.length ∧ (oa = none → n = 0 ∧ c = 0) ∧ MvAt w' oa r.m ∧ Below w.heap.size w w' := by
  obtain ⟨r1, x1, oa, n, c, he, hn, hc, hm, hb, h⟩ := h
  have h2 : r1 = r ∧ x1 = y := by
    unfold decO at hr
    rw [dec_same limP x limP_ok hx] at hr
    rcases h with ⟨h1, h2⟩ | ⟨h1, h2, h3⟩
    · rw [h1] at hr
      injection hr with e1 e2
      exact ⟨e1, h2.trans e2⟩
    · rw [h1] at hr
      injection hr with e1 e2
      exact ⟨h3.trans e1, h2.trans e2⟩
  obtain ⟨rfl, rfl⟩ := h2
  exact ⟨oa, n, c, he, hn, hc, hm, hb⟩
theorem dec_is (s : ByteArray) (hs : s.size ≤ 100000) (r : Rec) (y : Int) (hr : decO s.data.toList = (r, y)) (w : World) (hf : Fl w) :
    Calls Tryd.prog 16 #[.string s] w fun e w' => ∃ (oa : Option Addr) (n c : Nat), e = .returned (.tuple #[.agg #[.int .i64 r.cl, .int .i64 r.sq, .int .i64 r.k, .string r.p, .string r.t, .int .i64 r.sz, .int .i64 r.h, .int .i64 r.o, .string r.d, .int .i64 r.tk, .int .i64 r.i, .slice oa n c], .int .i64 y]) ∧ n = r.m.length ∧ (oa = none → n = 0 ∧ c = 0) ∧ MvAt w' oa r.m ∧ Below w.heap.size w w' :=
  (dec_any s hs w hf).mono fun _ _ h => post_is limP_ok _ h r y hr
theorem rdec_is (s : ByteArray) (hs : s.size ≤ 100000) (r : Rec) (y : Int) (hr : decO s.data.toList = (r, y)) (w : World) :
    Calls Tryd.prog 17 #[.string s] w fun e w' => ∃ (oa : Option Addr) (n c : Nat), e = .returned (.tuple #[.agg #[.int .i64 r.cl, .int .i64 r.sq, .int .i64 r.k, .string r.p, .string r.t, .int .i64 r.sz, .int .i64 r.h, .int .i64 r.o, .string r.d, .int .i64 r.tk, .int .i64 r.i, .slice oa n c], .int .i64 y]) ∧ n = r.m.length ∧ (oa = none → n = 0 ∧ c = 0) ∧ MvAt w' oa r.m ∧ Below w.heap.size w w' :=
  (rdec_any s hs w).mono fun _ _ h => post_is limQ_ok _ h r y hr
set_option maxHeartbeats 1600000 in
theorem decodes_walk (s : ByteArray) (w : World) (hf : Fl w) : Calls Tryd.prog 4 #[.string s] w fun e w' => e = .returned (.bool true) ∧ Below w.heap.size w w' := by
  have HF := Lib.hid hf
  clear hf
  by_cases hs : s.size ≤ 20000
  · have hs1 : ¬ (20000 < (s.size : Int)) := by omega
    obtain ⟨r, y, hr⟩ : ∃ r y, decO s.data.toList = (r, y) := ⟨_, _, rfl⟩
    have HR := Lib.hid hr
    have hft := decO_fit s.data.toList
    rw [hr] at hft
    have HT := Lib.hid hft.2.2.2
    clear hr hft
    go_enter Tryd.func4, Tryd.ntmps4
    go_wp2_with fail
    go_at_call 16
    refine (dec_is s (by omega) r y HR.out _ HF.out).mono ?_
    rintro e w1 ⟨oa, n, c, rfl, hn, hc, hm, hb1⟩
    have HN := Lib.hid hn
    have HA := Lib.hid (below_alloc w1 (.cells #[.int .i64 r.cl, .int .i64 r.sq, .int .i64 r.k, .string r.p, .string r.t, .int .i64 r.sz, .int .i64 r.h, .int .i64 r.o, .string r.d, .int .i64 r.tk, .int .i64 r.i, .slice oa n c] 24))
    have HM := Lib.hid (hm.grow HA.out)
    have HB1 := Lib.hid (bstep hb1 HA.out)
    have HBX : Hid (OBox (w1.alloc (.cells #[.int .i64 r.cl, .int .i64 r.sq, .int .i64 r.k, .string r.p, .string r.t, .int .i64 r.sz, .int .i64 r.h, .int .i64 r.o, .string r.d, .int .i64 r.tk, .int .i64 r.i, .slice oa n c] 24)) w1.heap.size r (.slice oa n c)) := Lib.hid (heap_alloc_new w1 _)
    clear hn hc hm hb1
    go_wp2_with fail
    generalize w1.alloc (.cells #[.int .i64 r.cl, .int .i64 r.sq, .int .i64 r.k, .string r.p, .string r.t, .int .i64 r.sz, .int .i64 r.h, .int .i64 r.o, .string r.d, .int .i64 r.tk, .int .i64 r.i, .slice oa n c] 24) = v1 at HM HB1 HBX HA ⊢
    generalize w1.heap.size = b1 at HBX HA ⊢
    clear HA
    go_at_call 17
    refine (rdec_is s (by omega) r y HR.out _).mono ?_
    rintro e w2 ⟨ob, m, d, rfl, hn, hc, hm, hb2⟩
    have HNB := Lib.hid hn
    have HA := Lib.hid (below_alloc w2 (.cells #[.int .i64 r.cl, .int .i64 r.sq, .int .i64 r.k, .string r.p, .string r.t, .int .i64 r.sz, .int .i64 r.h, .int .i64 r.o, .string r.d, .int .i64 r.tk, .int .i64 r.i, .slice ob m d] 24))
    have HMB := Lib.hid (hm.grow HA.out)
    have HB2 := Lib.hid (bstep (bstep HB1.out hb2) HA.out)
    have HBY : Hid (OBox (w2.alloc (.cells #[.int .i64 r.cl, .int .i64 r.sq, .int .i64 r.k, .string r.p, .string r.t, .int .i64 r.sz, .int .i64 r.h, .int .i64 r.o, .string r.d, .int .i64 r.tk, .int .i64 r.i, .slice ob m d] 24)) w2.heap.size r (.slice ob m d)) := Lib.hid (heap_alloc_new w2 _)
    have HBX2 := Lib.hid ((HBX.out.keep hb2).keep HA.out)
    have HM2 := Lib.hid ((HM.out.grow hb2).grow HA.out)
    clear hn hc hm hb2
    obtain ⟨d0, d1, d2, d3, d4, d5, d6, d7, d8, d9, d10, d11⟩ := HBX2.out.cells
    obtain ⟨e0, e1, e2, e3, e4, e5, e6, e7, e8, e9, e10, e11⟩ := HBY.out.cells
    go_wp2_with fail
    clear d0 d1 d2 d3 d4 d5 d6 d7 d8 d9 d10 d11 e0 e1 e2 e3 e4 e5 e6 e7 e8 e9 e10 e11
    go_at_call 15
    refine (keep_is r r true ((sameB_iff _ _).2 rfl) oa ob n m c d HN.out HNB.out HT.out HT.out _ HM2.out HMB.out).mono ?_
    rintro e w3 ⟨rfl, hb3⟩
    have HB3 := Lib.hid (bstep HB2.out hb3)
    clear hb3
    go_wp2_with fail
    go_at_call 9
    refine (wakes_any _ (HF.out.keep HB3.out)).mono ?_
    rintro e w4 ⟨rfl, hb4⟩
    have HB4 := Lib.hid (bstep HB3.out hb4)
    clear hb4
    go_wp2_with fail
    go_ret
    exact ⟨rfl, HB4.out⟩
  · have hs1 : 20000 < (s.size : Int) := by omega
    go_enter Tryd.func4, Tryd.ntmps4
    go_wp2_with (go_at_call 9; refine (wakes_any _ HF.out).mono ?_; rintro e w1 ⟨rfl, hb1⟩; have HB1 := Lib.hid hb1; clear hb1)
    go_ret
    exact ⟨rfl, HB1.out⟩
end Go.Proofs.YtlffcilgmockmaaDoor.OpW
