/- What the laws of this layer all end on: one record goes there and back. -/
import Derived.Test.YtlffcilgmockmaaDoorOpRDecM
import Derived.Test.YtlffcilgmockmaaDoorOpREnc
import Derived.Test.YtlffcilgmockmaaDoorOpKeep
namespace Go.Proofs.YtlffcilgmockmaaDoor.OpW
set_option maxRecDepth 100000
open Go.RowKit OpP PackW
def r0 : Rec := ⟨0, 1, 1, ⟨#[47, 97]⟩, ⟨#[]⟩, 0, 0, 0, ⟨#[]⟩, 0, 0, []⟩
theorem r0_good : goodB r0 = true := by decide
theorem r0_fds : (fds r0).flatMap fdB = [1, 0, 0, 0, 0, 1, 0, 2, 47, 97] := by decide
theorem r0_encS : encS r0 = ⟨#[1, 0, 0, 0, 0, 1, 0, 2, 47, 97]⟩ := by unfold encS; rw [r0_good, r0_fds]; rfl
theorem r0_encE : encE r0 = 0 := by unfold encE; rw [r0_good]; rfl
theorem r0_dec : decR (decD limP [1, 0, 0, 0, 0, 1, 0, 2, 47, 97]) = some r0 := (dec_iff limP limP_ok _ _).2 ⟨r0_good, r0_fds.symm⟩
theorem r0_same : sameB r0 r0 = true := (sameB_iff _ _).2 rfl
theorem r0_not : sameB r0 zr = false := by decide
theorem same_is (x y : Rec) (b : Bool) (hb : sameB x y = b) (ox oy : Option Addr) (nx ny cx cy : Nat) (hx : nx = x.m.length) (hy : ny = y.m.length) (zx : x.m.length ≤ 1000000) (zy : y.m.length ≤ 1000000) (w : World) (h1 : MvAt w ox x.m) (h2 : MvAt w oy y.m) :
    Calls Tryd.prog 18 #[.agg #[.int .i64 x.cl, .int .i64 x.sq, .int .i64 x.k, .string x.p, .string x.t, .int .i64 x.sz, .int .i64 x.h, .int .i64 x.o, .string x.d, .int .i64 x.tk, .int .i64 x.i, .slice ox nx cx], .agg #[.int .i64 y.cl, .int .i64 y.sq, .int .i64 y.k, .string y.p, .string y.t, .int .i64 y.sz, .int .i64 y.h, .int .i64 y.o, .string y.d, .int .i64 y.tk, .int .i64 y.i, .slice oy ny cy]] w fun e w' => e = .returned (.bool b) ∧ Below w.heap.size w w' := by
  rw [← hb]; exact same_any x y ox oy nx ny cx cy hx hy zx zy w h1 h2
set_option maxHeartbeats 1600000 in
theorem wakes_any (w : World) (hf : Fl w) : Calls Tryd.prog 9 #[] w fun e w' => e = .returned (.bool true) ∧ Below w.heap.size w w' := by
  have HF := Lib.hid hf
  have H0 := Lib.hid (below_alloc w (.cells #[.int .i64 0, .int .i64 1, .int .i64 1, .string ⟨#[47, 97]⟩, .string ⟨#[]⟩, .int .i64 0, .int .i64 0, .int .i64 0, .string ⟨#[]⟩, .int .i64 0, .int .i64 0, .slice none 0 0] 24))
  have HBX : Hid (OBox (w.alloc (.cells #[.int .i64 0, .int .i64 1, .int .i64 1, .string ⟨#[47, 97]⟩, .string ⟨#[]⟩, .int .i64 0, .int .i64 0, .int .i64 0, .string ⟨#[]⟩, .int .i64 0, .int .i64 0, .slice none 0 0] 24)) w.heap.size r0 (.slice none 0 0)) := Lib.hid (heap_alloc_new w _)
  clear hf
  go_enter Tryd.func9, Tryd.ntmps9
  go_wp2_with fail
  generalize w.alloc (.cells #[.int .i64 0, .int .i64 1, .int .i64 1, .string ⟨#[47, 97]⟩, .string ⟨#[]⟩, .int .i64 0, .int .i64 0, .int .i64 0, .string ⟨#[]⟩, .int .i64 0, .int .i64 0, .slice none 0 0] 24) = w1 at H0 HBX ⊢
  have HF1 := Lib.hid (HF.out.keep H0.out)
  go_at_call 11
  refine (enc_any r0 ⟨by decide, by decide, by decide, by decide⟩ none 0 0 rfl _ HF1.out (MvAt.nil _ _)).mono ?_
  rintro e w2 ⟨rfl, hb2⟩
  rw [r0_encS, r0_encE]
  have HB2 := Lib.hid (bstep H0.out hb2)
  have HBX2 := Lib.hid (HBX.out.keep hb2)
  clear hb2 HF1
  go_wp2_with fail
  have HF2 := Lib.hid (HF.out.keep HB2.out)
  go_at_call 16
  refine (dec_any ⟨#[1, 0, 0, 0, 0, 1, 0, 2, 47, 97]⟩ (by decide) _ HF2.out).mono ?_
  rintro e w3 ⟨r, x, oa, n, c, rfl, hn, hc, hm, hb3, h⟩
  have hx : r0 = r ∧ x = 0 := by
    rcases h with ⟨h1, h2⟩ | ⟨h1, _⟩
    · rw [show (⟨#[1, 0, 0, 0, 0, 1, 0, 2, 47, 97]⟩ : ByteArray).data.toList = [1, 0, 0, 0, 0, 1, 0, 2, 47, 97] from rfl, r0_dec] at h1
      exact ⟨Option.some.inj h1, h2⟩
    · rw [show (⟨#[1, 0, 0, 0, 0, 1, 0, 2, 47, 97]⟩ : ByteArray).data.toList = [1, 0, 0, 0, 0, 1, 0, 2, 47, 97] from rfl, r0_dec] at h1
      cases h1
  obtain ⟨rfl, rfl⟩ := hx
  have hn0 : n = 0 := hn
  subst hn0
  have HB3 := Lib.hid (bstep HB2.out hb3)
  have HBX3 := Lib.hid (HBX2.out.keep hb3)
  clear hn hc hm hb3 h HF2
  have HA := Lib.hid (below_alloc w3 (.cells #[.int .i64 r0.cl, .int .i64 r0.sq, .int .i64 r0.k, .string r0.p, .string r0.t, .int .i64 r0.sz, .int .i64 r0.h, .int .i64 r0.o, .string r0.d, .int .i64 r0.tk, .int .i64 r0.i, .slice oa 0 c] 24))
  have HBY : Hid (OBox (w3.alloc (.cells #[.int .i64 r0.cl, .int .i64 r0.sq, .int .i64 r0.k, .string r0.p, .string r0.t, .int .i64 r0.sz, .int .i64 r0.h, .int .i64 r0.o, .string r0.d, .int .i64 r0.tk, .int .i64 r0.i, .slice oa 0 c] 24)) w3.heap.size r0 (.slice oa 0 c)) := Lib.hid (heap_alloc_new w3 _)
  have HBX4 := Lib.hid (HBX3.out.keep HA.out)
  have HB4 := Lib.hid (bstep HB3.out HA.out)
  obtain ⟨d0, d1, d2, d3, d4, d5, d6, d7, d8, d9, d10, d11⟩ := HBX4.out.cells
  obtain ⟨e0, e1, e2, e3, e4, e5, e6, e7, e8, e9, e10, e11⟩ := HBY.out.cells
  go_wp2_with fail
  clear d0 d1 d2 d3 d4 d5 d6 d7 d8 d9 d10 d11 e0 e1 e2 e3 e4 e5 e6 e7 e8 e9 e10 e11
  go_at_call 18
  refine (same_is r0 r0 true r0_same none oa 0 0 0 c rfl rfl (by decide) (by decide) _ (MvAt.nil _ _) (MvAt.nil _ _)).mono ?_
  rintro e w5 ⟨rfl, hb5⟩
  have HB5 := Lib.hid (bstep HB4.out hb5)
  have hx5 := HBX4.out.keep hb5
  obtain ⟨d0, d1, d2, d3, d4, d5, d6, d7, d8, d9, d10, d11⟩ := hx5.cells
  clear hb5 hx5
  go_wp2_with fail
  clear d0 d1 d2 d3 d4 d5 d6 d7 d8 d9 d10 d11
  go_at_call 18
  refine (same_is r0 zr false r0_not none none 0 0 0 0 rfl rfl (by decide) (by decide) _ (MvAt.nil _ _) (MvAt.nil _ _)).mono ?_
  rintro e w6 ⟨rfl, hb6⟩
  have HB6 := Lib.hid (bstep HB5.out hb6)
  clear hb6
  go_wp2_with fail
  go_ret
  exact ⟨rfl, HB6.out⟩
end Go.Proofs.YtlffcilgmockmaaDoor.OpW
