/- escheatref06.Encode. -/
import Derived.Test.YtlffcilgmockmaaDoorOpEnc
import Derived.Test.YtlffcilgmockmaaDoorOpRGood
namespace Go.Proofs.YtlffcilgmockmaaDoor.OpW
set_option maxRecDepth 100000
open Go.RowKit OpP PackW
theorem ris_mono {b : Nat} {l : List UInt8} {bad : Bool} {N M : Nat} {w : World} (h : RIs b l bad N w) (hM : N ≤ M) : RIs b l bad M w := by
  obtain ⟨s, h1, h2, h3⟩ := h
  exact ⟨s, h1, by omega, h3⟩
/-- the reference's packer in the block behind w1, holding fields -/
structure REnc (w1 : World) (xs : List PackW.Fd) (m : Nat) (wr : World) : Prop where
  pk : RIs w1.heap.size (pkl [] xs) (pkb false xs) (1000008 * m) wr
  low : Below w1.heap.size w1 wr
theorem renc_num {w1 wr : World} {xs : List PackW.Fd} {m : Nat} (h : REnc w1 xs m wr) (v n : Int) (hv : v < 9223372036854775808) (hn : n ≠ 0) (hm : m ≤ 5000000) :
    Calls Tryd.prog 25 #[.pointer (some ⟨w1.heap.size, 0, none⟩), .int .i64 v, .int .i64 n] wr fun e w' => e = .returned (.tuple #[]) ∧ REnc w1 (xs ++ [fdN v n]) (m + 1) w' := by
  refine (rnum_is _ _ _ _ v n hv _ h.pk (by omega)).mono ?_
  rintro e w' ⟨rfl, h1, h2⟩
  refine ⟨rfl, ?_, h.low.trans (h2.below (Nat.le_refl _) h.low.size)⟩
  rw [pkl_app, pkb_app, pkl_num _ _ _ hn, pkb_num _ _ _ hn]
  exact ris_mono h1 (by omega)
theorem renc_text {w1 wr : World} {xs : List PackW.Fd} {m : Nat} (h : REnc w1 xs m wr) (s : ByteArray) (hs : s.size ≤ 1000000) (hm : m ≤ 5000000) :
    Calls Tryd.prog 26 #[.pointer (some ⟨w1.heap.size, 0, none⟩), .string s] wr fun e w' => e = .returned (.tuple #[]) ∧ REnc w1 (xs ++ [fdT s]) (m + 1) w' := by
  refine (rtext_is _ _ _ _ s _ h.pk (by omega)).mono ?_
  rintro e w' ⟨rfl, h1, h2⟩
  refine ⟨rfl, ?_, h.low.trans (h2.below (Nat.le_refl _) h.low.size)⟩
  rw [pkl_app, pkb_app, pkl_text, pkb_text]
  exact ris_mono h1 (by omega)
theorem renc_done {w1 wr : World} {xs : List PackW.Fd} {m : Nat} {r : Rec} (h : REnc w1 xs m wr) (hx : xs = fds r) (hg : goodB r = true) (hm : m ≤ 6000000) :
    Calls Tryd.prog 27 #[.pointer (some ⟨w1.heap.size, 0, none⟩)] wr fun e w' => e = .returned (.tuple #[.string (encS r), .int .i64 (encE r)]) ∧ wr = w' := by
  subst hx
  have hd := enc_done hg
  rw [← hd.1, ← hd.2.1]
  exact rdone_is _ _ _ _ _ h.pk (by omega)
set_option maxHeartbeats 12800000 in
theorem renc_any (r : Rec) (hr : Fit r) (oa : Option Addr) (n c : Nat) (hn : n = r.m.length) (w : World) (hm : MvAt w oa r.m) : Calls Tryd.prog 12 #[.agg #[.int .i64 r.cl, .int .i64 r.sq, .int .i64 r.k, .string r.p, .string r.t, .int .i64 r.sz, .int .i64 r.h, .int .i64 r.o, .string r.d, .int .i64 r.tk, .int .i64 r.i, .slice oa n c]] w (EncPost r w) := by
  have HR := Lib.hid hr
  have HN := Lib.hid hn
  have H0 := Lib.hid (below_alloc w (.cells #[.int .i64 r.cl, .int .i64 r.sq, .int .i64 r.k, .string r.p, .string r.t, .int .i64 r.sz, .int .i64 r.h, .int .i64 r.o, .string r.d, .int .i64 r.tk, .int .i64 r.i, .slice oa n c] 24))
  have HBX : Hid (OBox (w.alloc (.cells #[.int .i64 r.cl, .int .i64 r.sq, .int .i64 r.k, .string r.p, .string r.t, .int .i64 r.sz, .int .i64 r.h, .int .i64 r.o, .string r.d, .int .i64 r.tk, .int .i64 r.i, .slice oa n c] 24)) w.heap.size r (.slice oa n c)) := Lib.hid (heap_alloc_new w _)
  have HM1 := Lib.hid (hm.grow H0.out)
  clear hr hn hm
  cases hg : goodB r with
  | false =>
    have HE : Hid (encS r = ⟨#[]⟩ ∧ encE r = 11) := Lib.hid ⟨by unfold encS; rw [hg]; rfl, by unfold encE; rw [hg]; rfl⟩
    have HG := Lib.hid hg
    clear hg
    go_enter Tryd.func12, Tryd.ntmps12
    go_wp2_with (go_at_call 14; refine (rgood_any r HR.out oa n c HN.out _ HM1.out).mono ?_; rintro e w1 ⟨he, hb1⟩; rw [HG.out] at he; subst he; have HB1 := Lib.hid (bstep H0.out hb1); clear hb1)
    go_ret2
    exact ⟨by rw [HE.out.1, HE.out.2]; rfl, HB1.out⟩
  | true =>
    have HW := Lib.hid (good_wf hg)
    have HS1 : Hid (r.p.size ≤ 1000000) := Lib.hid HR.out.1
    have HS2 : Hid (r.t.size ≤ 1000000) := Lib.hid HR.out.2.1
    have HS3 : Hid (r.d.size ≤ 1000000) := Lib.hid HR.out.2.2.1
    have HFM := Lib.hid (good_parts hg).2.1
    have HEE : Hid (encE r = 0) := Lib.hid (by unfold encE; rw [hg]; rfl)
    have HKB := Lib.hid (formB_kind HFM.out)
    have HG := Lib.hid hg
    have HNN : Hid (n ≤ 1000000) := Lib.hid (by rw [HN.out]; exact HR.out.2.2.2)
    clear hg
    rcases kinds r.k HKB.out with e | e | e | e | e | e | e | e | e | e | e | e | e | e
    · have HE := Lib.hid e
      have q1 : (r.k == 1) = true := by rw [e]; rfl
      have q2 : (r.k == 2) = false := by rw [e]; rfl
      have q3 : (r.k == 3) = false := by rw [e]; rfl
      have q4 : (r.k == 4) = false := by rw [e]; rfl
      have q5 : (r.k == 5) = false := by rw [e]; rfl
      have q6 : (r.k == 6) = false := by rw [e]; rfl
      have q7 : (r.k == 7) = false := by rw [e]; rfl
      have q8 : (r.k == 8) = false := by rw [e]; rfl
      have q9 : (r.k == 9) = false := by rw [e]; rfl
      have q10 : (r.k == 10) = false := by rw [e]; rfl
      have q11 : (r.k == 11) = false := by rw [e]; rfl
      have q12 : (r.k == 12) = false := by rw [e]; rfl
      have q13 : (r.k == 13) = false := by rw [e]; rfl
      have q14 : (r.k == 14) = false := by rw [e]; rfl
      clear e
      go_enter Tryd.func12, Tryd.ntmps12
      go_wp2_with (first
        | (go_at_call 14; refine (rgood_any r HR.out oa n c HN.out _ HM1.out).mono ?_; rintro e w1 ⟨he, hb1⟩; rw [HG.out] at he; subst he; have HB1 := Lib.hid hb1; have HX1 := Lib.hid (HBX.out.keep hb1); clear hb1)
        | (go_at_call 24; refine (rnew_any _).mono ?_; rintro e w2 ⟨rfl, hp2, hb2, hz2⟩; have HA : Hid (REnc w1 [] 0 w2) := Lib.hid ⟨⟨⟨#[]⟩, hp2, by simp [ByteArray.size], fun _ => rfl⟩, hb2⟩; have hx := HX1.out.keep hb2; obtain ⟨d0, d1, d2, d3, d4, d5, d6, d7, d8, d9, d10, d11⟩ := hx.cells; clear hp2 hb2 hz2 hx)
        | (clear d0 d1 d2 d3 d4 d5 d6 d7 d8 d9 d10 d11; go_at_call 25; refine (renc_num HA.out _ _ (by first | (with_reducible exact HW.out.k) | (with_reducible exact HW.out.cl) | (with_reducible exact HW.out.sq) | (with_reducible exact HW.out.sz) | (with_reducible exact HW.out.h) | (with_reducible exact HW.out.o) | (with_reducible exact HW.out.tk) | (with_reducible exact HW.out.i) | (have := HNN.out; omega)) (by decide) (by omega)).mono ?_; rintro e w3 ⟨rfl, ha⟩; replace HA := Lib.hid ha; have hx := HX1.out.keep ha.low; obtain ⟨d0, d1, d2, d3, d4, d5, d6, d7, d8, d9, d10, d11⟩ := hx.cells; clear ha hx)
        | (clear d0 d1 d2 d3 d4 d5 d6 d7 d8 d9 d10 d11; go_at_call 26; refine (renc_text HA.out _ (by first | (with_reducible exact HS1.out) | (with_reducible exact HS2.out) | (with_reducible exact HS3.out)) (by omega)).mono ?_; rintro e w3 ⟨rfl, ha⟩; replace HA := Lib.hid ha; have hx := HX1.out.keep ha.low; obtain ⟨d0, d1, d2, d3, d4, d5, d6, d7, d8, d9, d10, d11⟩ := hx.cells; clear ha hx)
        | (clear d0 d1 d2 d3 d4 d5 d6 d7 d8 d9 d10 d11; go_at_call 27; refine (renc_done HA.out (by rw [fds_k1 HE.out]; rfl) HG.out (by omega)).mono ?_; rintro e w4 ⟨rfl, rfl⟩))
      go_ret2
      exact ⟨by rw [HEE.out]; rfl, bstep (bstep H0.out HB1.out) HA.out.low⟩
    · have HE := Lib.hid e
      have q1 : (r.k == 1) = false := by rw [e]; rfl
      have q2 : (r.k == 2) = true := by rw [e]; rfl
      have q3 : (r.k == 3) = false := by rw [e]; rfl
      have q4 : (r.k == 4) = false := by rw [e]; rfl
      have q5 : (r.k == 5) = false := by rw [e]; rfl
      have q6 : (r.k == 6) = false := by rw [e]; rfl
      have q7 : (r.k == 7) = false := by rw [e]; rfl
      have q8 : (r.k == 8) = false := by rw [e]; rfl
      have q9 : (r.k == 9) = false := by rw [e]; rfl
      have q10 : (r.k == 10) = false := by rw [e]; rfl
      have q11 : (r.k == 11) = false := by rw [e]; rfl
      have q12 : (r.k == 12) = false := by rw [e]; rfl
      have q13 : (r.k == 13) = false := by rw [e]; rfl
      have q14 : (r.k == 14) = false := by rw [e]; rfl
      clear e
      go_enter Tryd.func12, Tryd.ntmps12
      go_wp2_with (first
        | (go_at_call 14; refine (rgood_any r HR.out oa n c HN.out _ HM1.out).mono ?_; rintro e w1 ⟨he, hb1⟩; rw [HG.out] at he; subst he; have HB1 := Lib.hid hb1; have HX1 := Lib.hid (HBX.out.keep hb1); clear hb1)
        | (go_at_call 24; refine (rnew_any _).mono ?_; rintro e w2 ⟨rfl, hp2, hb2, hz2⟩; have HA : Hid (REnc w1 [] 0 w2) := Lib.hid ⟨⟨⟨#[]⟩, hp2, by simp [ByteArray.size], fun _ => rfl⟩, hb2⟩; have hx := HX1.out.keep hb2; obtain ⟨d0, d1, d2, d3, d4, d5, d6, d7, d8, d9, d10, d11⟩ := hx.cells; clear hp2 hb2 hz2 hx)
        | (clear d0 d1 d2 d3 d4 d5 d6 d7 d8 d9 d10 d11; go_at_call 25; refine (renc_num HA.out _ _ (by first | (with_reducible exact HW.out.k) | (with_reducible exact HW.out.cl) | (with_reducible exact HW.out.sq) | (with_reducible exact HW.out.sz) | (with_reducible exact HW.out.h) | (with_reducible exact HW.out.o) | (with_reducible exact HW.out.tk) | (with_reducible exact HW.out.i) | (have := HNN.out; omega)) (by decide) (by omega)).mono ?_; rintro e w3 ⟨rfl, ha⟩; replace HA := Lib.hid ha; have hx := HX1.out.keep ha.low; obtain ⟨d0, d1, d2, d3, d4, d5, d6, d7, d8, d9, d10, d11⟩ := hx.cells; clear ha hx)
        | (clear d0 d1 d2 d3 d4 d5 d6 d7 d8 d9 d10 d11; go_at_call 26; refine (renc_text HA.out _ (by first | (with_reducible exact HS1.out) | (with_reducible exact HS2.out) | (with_reducible exact HS3.out)) (by omega)).mono ?_; rintro e w3 ⟨rfl, ha⟩; replace HA := Lib.hid ha; have hx := HX1.out.keep ha.low; obtain ⟨d0, d1, d2, d3, d4, d5, d6, d7, d8, d9, d10, d11⟩ := hx.cells; clear ha hx)
        | (clear d0 d1 d2 d3 d4 d5 d6 d7 d8 d9 d10 d11; go_at_call 27; refine (renc_done HA.out (by rw [fds_k2 HE.out]; rfl) HG.out (by omega)).mono ?_; rintro e w4 ⟨rfl, rfl⟩))
      go_ret2
      exact ⟨by rw [HEE.out]; rfl, bstep (bstep H0.out HB1.out) HA.out.low⟩
    · have HE := Lib.hid e
      have q1 : (r.k == 1) = false := by rw [e]; rfl
      have q2 : (r.k == 2) = false := by rw [e]; rfl
      have q3 : (r.k == 3) = true := by rw [e]; rfl
      have q4 : (r.k == 4) = false := by rw [e]; rfl
      have q5 : (r.k == 5) = false := by rw [e]; rfl
      have q6 : (r.k == 6) = false := by rw [e]; rfl
      have q7 : (r.k == 7) = false := by rw [e]; rfl
      have q8 : (r.k == 8) = false := by rw [e]; rfl
      have q9 : (r.k == 9) = false := by rw [e]; rfl
      have q10 : (r.k == 10) = false := by rw [e]; rfl
      have q11 : (r.k == 11) = false := by rw [e]; rfl
      have q12 : (r.k == 12) = false := by rw [e]; rfl
      have q13 : (r.k == 13) = false := by rw [e]; rfl
      have q14 : (r.k == 14) = false := by rw [e]; rfl
      clear e
      go_enter Tryd.func12, Tryd.ntmps12
      go_wp2_with (first
        | (go_at_call 14; refine (rgood_any r HR.out oa n c HN.out _ HM1.out).mono ?_; rintro e w1 ⟨he, hb1⟩; rw [HG.out] at he; subst he; have HB1 := Lib.hid hb1; have HX1 := Lib.hid (HBX.out.keep hb1); clear hb1)
        | (go_at_call 24; refine (rnew_any _).mono ?_; rintro e w2 ⟨rfl, hp2, hb2, hz2⟩; have HA : Hid (REnc w1 [] 0 w2) := Lib.hid ⟨⟨⟨#[]⟩, hp2, by simp [ByteArray.size], fun _ => rfl⟩, hb2⟩; have hx := HX1.out.keep hb2; obtain ⟨d0, d1, d2, d3, d4, d5, d6, d7, d8, d9, d10, d11⟩ := hx.cells; clear hp2 hb2 hz2 hx)
        | (clear d0 d1 d2 d3 d4 d5 d6 d7 d8 d9 d10 d11; go_at_call 25; refine (renc_num HA.out _ _ (by first | (with_reducible exact HW.out.k) | (with_reducible exact HW.out.cl) | (with_reducible exact HW.out.sq) | (with_reducible exact HW.out.sz) | (with_reducible exact HW.out.h) | (with_reducible exact HW.out.o) | (with_reducible exact HW.out.tk) | (with_reducible exact HW.out.i) | (have := HNN.out; omega)) (by decide) (by omega)).mono ?_; rintro e w3 ⟨rfl, ha⟩; replace HA := Lib.hid ha; have hx := HX1.out.keep ha.low; obtain ⟨d0, d1, d2, d3, d4, d5, d6, d7, d8, d9, d10, d11⟩ := hx.cells; clear ha hx)
        | (clear d0 d1 d2 d3 d4 d5 d6 d7 d8 d9 d10 d11; go_at_call 26; refine (renc_text HA.out _ (by first | (with_reducible exact HS1.out) | (with_reducible exact HS2.out) | (with_reducible exact HS3.out)) (by omega)).mono ?_; rintro e w3 ⟨rfl, ha⟩; replace HA := Lib.hid ha; have hx := HX1.out.keep ha.low; obtain ⟨d0, d1, d2, d3, d4, d5, d6, d7, d8, d9, d10, d11⟩ := hx.cells; clear ha hx)
        | (clear d0 d1 d2 d3 d4 d5 d6 d7 d8 d9 d10 d11; go_at_call 27; refine (renc_done HA.out (by rw [fds_k3 HE.out]; rfl) HG.out (by omega)).mono ?_; rintro e w4 ⟨rfl, rfl⟩))
      go_ret2
      exact ⟨by rw [HEE.out]; rfl, bstep (bstep H0.out HB1.out) HA.out.low⟩
    · have HE := Lib.hid e
      have q1 : (r.k == 1) = false := by rw [e]; rfl
      have q2 : (r.k == 2) = false := by rw [e]; rfl
      have q3 : (r.k == 3) = false := by rw [e]; rfl
      have q4 : (r.k == 4) = true := by rw [e]; rfl
      have q5 : (r.k == 5) = false := by rw [e]; rfl
      have q6 : (r.k == 6) = false := by rw [e]; rfl
      have q7 : (r.k == 7) = false := by rw [e]; rfl
      have q8 : (r.k == 8) = false := by rw [e]; rfl
      have q9 : (r.k == 9) = false := by rw [e]; rfl
      have q10 : (r.k == 10) = false := by rw [e]; rfl
      have q11 : (r.k == 11) = false := by rw [e]; rfl
      have q12 : (r.k == 12) = false := by rw [e]; rfl
      have q13 : (r.k == 13) = false := by rw [e]; rfl
      have q14 : (r.k == 14) = false := by rw [e]; rfl
      clear e
      go_enter Tryd.func12, Tryd.ntmps12
      go_wp2_with (first
        | (go_at_call 14; refine (rgood_any r HR.out oa n c HN.out _ HM1.out).mono ?_; rintro e w1 ⟨he, hb1⟩; rw [HG.out] at he; subst he; have HB1 := Lib.hid hb1; have HX1 := Lib.hid (HBX.out.keep hb1); clear hb1)
        | (go_at_call 24; refine (rnew_any _).mono ?_; rintro e w2 ⟨rfl, hp2, hb2, hz2⟩; have HA : Hid (REnc w1 [] 0 w2) := Lib.hid ⟨⟨⟨#[]⟩, hp2, by simp [ByteArray.size], fun _ => rfl⟩, hb2⟩; have hx := HX1.out.keep hb2; obtain ⟨d0, d1, d2, d3, d4, d5, d6, d7, d8, d9, d10, d11⟩ := hx.cells; clear hp2 hb2 hz2 hx)
        | (clear d0 d1 d2 d3 d4 d5 d6 d7 d8 d9 d10 d11; go_at_call 25; refine (renc_num HA.out _ _ (by first | (with_reducible exact HW.out.k) | (with_reducible exact HW.out.cl) | (with_reducible exact HW.out.sq) | (with_reducible exact HW.out.sz) | (with_reducible exact HW.out.h) | (with_reducible exact HW.out.o) | (with_reducible exact HW.out.tk) | (with_reducible exact HW.out.i) | (have := HNN.out; omega)) (by decide) (by omega)).mono ?_; rintro e w3 ⟨rfl, ha⟩; replace HA := Lib.hid ha; have hx := HX1.out.keep ha.low; obtain ⟨d0, d1, d2, d3, d4, d5, d6, d7, d8, d9, d10, d11⟩ := hx.cells; clear ha hx)
        | (clear d0 d1 d2 d3 d4 d5 d6 d7 d8 d9 d10 d11; go_at_call 26; refine (renc_text HA.out _ (by first | (with_reducible exact HS1.out) | (with_reducible exact HS2.out) | (with_reducible exact HS3.out)) (by omega)).mono ?_; rintro e w3 ⟨rfl, ha⟩; replace HA := Lib.hid ha; have hx := HX1.out.keep ha.low; obtain ⟨d0, d1, d2, d3, d4, d5, d6, d7, d8, d9, d10, d11⟩ := hx.cells; clear ha hx)
        | (clear d0 d1 d2 d3 d4 d5 d6 d7 d8 d9 d10 d11; go_at_call 27; refine (renc_done HA.out (by rw [fds_k4 HE.out]; rfl) HG.out (by omega)).mono ?_; rintro e w4 ⟨rfl, rfl⟩))
      go_ret2
      exact ⟨by rw [HEE.out]; rfl, bstep (bstep H0.out HB1.out) HA.out.low⟩
    · have HE := Lib.hid e
      have q1 : (r.k == 1) = false := by rw [e]; rfl
      have q2 : (r.k == 2) = false := by rw [e]; rfl
      have q3 : (r.k == 3) = false := by rw [e]; rfl
      have q4 : (r.k == 4) = false := by rw [e]; rfl
      have q5 : (r.k == 5) = true := by rw [e]; rfl
      have q6 : (r.k == 6) = false := by rw [e]; rfl
      have q7 : (r.k == 7) = false := by rw [e]; rfl
      have q8 : (r.k == 8) = false := by rw [e]; rfl
      have q9 : (r.k == 9) = false := by rw [e]; rfl
      have q10 : (r.k == 10) = false := by rw [e]; rfl
      have q11 : (r.k == 11) = false := by rw [e]; rfl
      have q12 : (r.k == 12) = false := by rw [e]; rfl
      have q13 : (r.k == 13) = false := by rw [e]; rfl
      have q14 : (r.k == 14) = false := by rw [e]; rfl
      clear e
      go_enter Tryd.func12, Tryd.ntmps12
      go_wp2_with (first
        | (go_at_call 14; refine (rgood_any r HR.out oa n c HN.out _ HM1.out).mono ?_; rintro e w1 ⟨he, hb1⟩; rw [HG.out] at he; subst he; have HB1 := Lib.hid hb1; have HX1 := Lib.hid (HBX.out.keep hb1); clear hb1)
        | (go_at_call 24; refine (rnew_any _).mono ?_; rintro e w2 ⟨rfl, hp2, hb2, hz2⟩; have HA : Hid (REnc w1 [] 0 w2) := Lib.hid ⟨⟨⟨#[]⟩, hp2, by simp [ByteArray.size], fun _ => rfl⟩, hb2⟩; have hx := HX1.out.keep hb2; obtain ⟨d0, d1, d2, d3, d4, d5, d6, d7, d8, d9, d10, d11⟩ := hx.cells; clear hp2 hb2 hz2 hx)
        | (clear d0 d1 d2 d3 d4 d5 d6 d7 d8 d9 d10 d11; go_at_call 25; refine (renc_num HA.out _ _ (by first | (with_reducible exact HW.out.k) | (with_reducible exact HW.out.cl) | (with_reducible exact HW.out.sq) | (with_reducible exact HW.out.sz) | (with_reducible exact HW.out.h) | (with_reducible exact HW.out.o) | (with_reducible exact HW.out.tk) | (with_reducible exact HW.out.i) | (have := HNN.out; omega)) (by decide) (by omega)).mono ?_; rintro e w3 ⟨rfl, ha⟩; replace HA := Lib.hid ha; have hx := HX1.out.keep ha.low; obtain ⟨d0, d1, d2, d3, d4, d5, d6, d7, d8, d9, d10, d11⟩ := hx.cells; clear ha hx)
        | (clear d0 d1 d2 d3 d4 d5 d6 d7 d8 d9 d10 d11; go_at_call 26; refine (renc_text HA.out _ (by first | (with_reducible exact HS1.out) | (with_reducible exact HS2.out) | (with_reducible exact HS3.out)) (by omega)).mono ?_; rintro e w3 ⟨rfl, ha⟩; replace HA := Lib.hid ha; have hx := HX1.out.keep ha.low; obtain ⟨d0, d1, d2, d3, d4, d5, d6, d7, d8, d9, d10, d11⟩ := hx.cells; clear ha hx)
        | (clear d0 d1 d2 d3 d4 d5 d6 d7 d8 d9 d10 d11; go_at_call 27; refine (renc_done HA.out (by rw [fds_k5 HE.out]; rfl) HG.out (by omega)).mono ?_; rintro e w4 ⟨rfl, rfl⟩))
      go_ret2
      exact ⟨by rw [HEE.out]; rfl, bstep (bstep H0.out HB1.out) HA.out.low⟩
    · have HE := Lib.hid e
      have q1 : (r.k == 1) = false := by rw [e]; rfl
      have q2 : (r.k == 2) = false := by rw [e]; rfl
      have q3 : (r.k == 3) = false := by rw [e]; rfl
      have q4 : (r.k == 4) = false := by rw [e]; rfl
      have q5 : (r.k == 5) = false := by rw [e]; rfl
      have q6 : (r.k == 6) = true := by rw [e]; rfl
      have q7 : (r.k == 7) = false := by rw [e]; rfl
      have q8 : (r.k == 8) = false := by rw [e]; rfl
      have q9 : (r.k == 9) = false := by rw [e]; rfl
      have q10 : (r.k == 10) = false := by rw [e]; rfl
      have q11 : (r.k == 11) = false := by rw [e]; rfl
      have q12 : (r.k == 12) = false := by rw [e]; rfl
      have q13 : (r.k == 13) = false := by rw [e]; rfl
      have q14 : (r.k == 14) = false := by rw [e]; rfl
      clear e
      go_enter Tryd.func12, Tryd.ntmps12
      go_wp2_with (first
        | (go_at_call 14; refine (rgood_any r HR.out oa n c HN.out _ HM1.out).mono ?_; rintro e w1 ⟨he, hb1⟩; rw [HG.out] at he; subst he; have HB1 := Lib.hid hb1; have HX1 := Lib.hid (HBX.out.keep hb1); clear hb1)
        | (go_at_call 24; refine (rnew_any _).mono ?_; rintro e w2 ⟨rfl, hp2, hb2, hz2⟩; have HA : Hid (REnc w1 [] 0 w2) := Lib.hid ⟨⟨⟨#[]⟩, hp2, by simp [ByteArray.size], fun _ => rfl⟩, hb2⟩; have hx := HX1.out.keep hb2; obtain ⟨d0, d1, d2, d3, d4, d5, d6, d7, d8, d9, d10, d11⟩ := hx.cells; clear hp2 hb2 hz2 hx)
        | (clear d0 d1 d2 d3 d4 d5 d6 d7 d8 d9 d10 d11; go_at_call 25; refine (renc_num HA.out _ _ (by first | (with_reducible exact HW.out.k) | (with_reducible exact HW.out.cl) | (with_reducible exact HW.out.sq) | (with_reducible exact HW.out.sz) | (with_reducible exact HW.out.h) | (with_reducible exact HW.out.o) | (with_reducible exact HW.out.tk) | (with_reducible exact HW.out.i) | (have := HNN.out; omega)) (by decide) (by omega)).mono ?_; rintro e w3 ⟨rfl, ha⟩; replace HA := Lib.hid ha; have hx := HX1.out.keep ha.low; obtain ⟨d0, d1, d2, d3, d4, d5, d6, d7, d8, d9, d10, d11⟩ := hx.cells; clear ha hx)
        | (clear d0 d1 d2 d3 d4 d5 d6 d7 d8 d9 d10 d11; go_at_call 26; refine (renc_text HA.out _ (by first | (with_reducible exact HS1.out) | (with_reducible exact HS2.out) | (with_reducible exact HS3.out)) (by omega)).mono ?_; rintro e w3 ⟨rfl, ha⟩; replace HA := Lib.hid ha; have hx := HX1.out.keep ha.low; obtain ⟨d0, d1, d2, d3, d4, d5, d6, d7, d8, d9, d10, d11⟩ := hx.cells; clear ha hx)
        | (clear d0 d1 d2 d3 d4 d5 d6 d7 d8 d9 d10 d11; go_at_call 27; refine (renc_done HA.out (by rw [fds_k6 HE.out]; rfl) HG.out (by omega)).mono ?_; rintro e w4 ⟨rfl, rfl⟩))
      go_ret2
      exact ⟨by rw [HEE.out]; rfl, bstep (bstep H0.out HB1.out) HA.out.low⟩
    · have HE := Lib.hid e
      have q1 : (r.k == 1) = false := by rw [e]; rfl
      have q2 : (r.k == 2) = false := by rw [e]; rfl
      have q3 : (r.k == 3) = false := by rw [e]; rfl
      have q4 : (r.k == 4) = false := by rw [e]; rfl
      have q5 : (r.k == 5) = false := by rw [e]; rfl
      have q6 : (r.k == 6) = false := by rw [e]; rfl
      have q7 : (r.k == 7) = true := by rw [e]; rfl
      have q8 : (r.k == 8) = false := by rw [e]; rfl
      have q9 : (r.k == 9) = false := by rw [e]; rfl
      have q10 : (r.k == 10) = false := by rw [e]; rfl
      have q11 : (r.k == 11) = false := by rw [e]; rfl
      have q12 : (r.k == 12) = false := by rw [e]; rfl
      have q13 : (r.k == 13) = false := by rw [e]; rfl
      have q14 : (r.k == 14) = false := by rw [e]; rfl
      clear e
      go_enter Tryd.func12, Tryd.ntmps12
      go_wp2_with (first
        | (go_at_call 14; refine (rgood_any r HR.out oa n c HN.out _ HM1.out).mono ?_; rintro e w1 ⟨he, hb1⟩; rw [HG.out] at he; subst he; have HB1 := Lib.hid hb1; have HX1 := Lib.hid (HBX.out.keep hb1); clear hb1)
        | (go_at_call 24; refine (rnew_any _).mono ?_; rintro e w2 ⟨rfl, hp2, hb2, hz2⟩; have HA : Hid (REnc w1 [] 0 w2) := Lib.hid ⟨⟨⟨#[]⟩, hp2, by simp [ByteArray.size], fun _ => rfl⟩, hb2⟩; have hx := HX1.out.keep hb2; obtain ⟨d0, d1, d2, d3, d4, d5, d6, d7, d8, d9, d10, d11⟩ := hx.cells; clear hp2 hb2 hz2 hx)
        | (clear d0 d1 d2 d3 d4 d5 d6 d7 d8 d9 d10 d11; go_at_call 25; refine (renc_num HA.out _ _ (by first | (with_reducible exact HW.out.k) | (with_reducible exact HW.out.cl) | (with_reducible exact HW.out.sq) | (with_reducible exact HW.out.sz) | (with_reducible exact HW.out.h) | (with_reducible exact HW.out.o) | (with_reducible exact HW.out.tk) | (with_reducible exact HW.out.i) | (have := HNN.out; omega)) (by decide) (by omega)).mono ?_; rintro e w3 ⟨rfl, ha⟩; replace HA := Lib.hid ha; have hx := HX1.out.keep ha.low; obtain ⟨d0, d1, d2, d3, d4, d5, d6, d7, d8, d9, d10, d11⟩ := hx.cells; clear ha hx)
        | (clear d0 d1 d2 d3 d4 d5 d6 d7 d8 d9 d10 d11; go_at_call 26; refine (renc_text HA.out _ (by first | (with_reducible exact HS1.out) | (with_reducible exact HS2.out) | (with_reducible exact HS3.out)) (by omega)).mono ?_; rintro e w3 ⟨rfl, ha⟩; replace HA := Lib.hid ha; have hx := HX1.out.keep ha.low; obtain ⟨d0, d1, d2, d3, d4, d5, d6, d7, d8, d9, d10, d11⟩ := hx.cells; clear ha hx)
        | (clear d0 d1 d2 d3 d4 d5 d6 d7 d8 d9 d10 d11; go_at_call 27; refine (renc_done HA.out (by rw [fds_k7 HE.out]; rfl) HG.out (by omega)).mono ?_; rintro e w4 ⟨rfl, rfl⟩))
      go_ret2
      exact ⟨by rw [HEE.out]; rfl, bstep (bstep H0.out HB1.out) HA.out.low⟩
    · have HE := Lib.hid e
      have q1 : (r.k == 1) = false := by rw [e]; rfl
      have q2 : (r.k == 2) = false := by rw [e]; rfl
      have q3 : (r.k == 3) = false := by rw [e]; rfl
      have q4 : (r.k == 4) = false := by rw [e]; rfl
      have q5 : (r.k == 5) = false := by rw [e]; rfl
      have q6 : (r.k == 6) = false := by rw [e]; rfl
      have q7 : (r.k == 7) = false := by rw [e]; rfl
      have q8 : (r.k == 8) = true := by rw [e]; rfl
      have q9 : (r.k == 9) = false := by rw [e]; rfl
      have q10 : (r.k == 10) = false := by rw [e]; rfl
      have q11 : (r.k == 11) = false := by rw [e]; rfl
      have q12 : (r.k == 12) = false := by rw [e]; rfl
      have q13 : (r.k == 13) = false := by rw [e]; rfl
      have q14 : (r.k == 14) = false := by rw [e]; rfl
      clear e
      go_enter Tryd.func12, Tryd.ntmps12
      go_wp2_with (first
        | (go_at_call 14; refine (rgood_any r HR.out oa n c HN.out _ HM1.out).mono ?_; rintro e w1 ⟨he, hb1⟩; rw [HG.out] at he; subst he; have HB1 := Lib.hid hb1; have HX1 := Lib.hid (HBX.out.keep hb1); clear hb1)
        | (go_at_call 24; refine (rnew_any _).mono ?_; rintro e w2 ⟨rfl, hp2, hb2, hz2⟩; have HA : Hid (REnc w1 [] 0 w2) := Lib.hid ⟨⟨⟨#[]⟩, hp2, by simp [ByteArray.size], fun _ => rfl⟩, hb2⟩; have hx := HX1.out.keep hb2; obtain ⟨d0, d1, d2, d3, d4, d5, d6, d7, d8, d9, d10, d11⟩ := hx.cells; clear hp2 hb2 hz2 hx)
        | (clear d0 d1 d2 d3 d4 d5 d6 d7 d8 d9 d10 d11; go_at_call 25; refine (renc_num HA.out _ _ (by first | (with_reducible exact HW.out.k) | (with_reducible exact HW.out.cl) | (with_reducible exact HW.out.sq) | (with_reducible exact HW.out.sz) | (with_reducible exact HW.out.h) | (with_reducible exact HW.out.o) | (with_reducible exact HW.out.tk) | (with_reducible exact HW.out.i) | (have := HNN.out; omega)) (by decide) (by omega)).mono ?_; rintro e w3 ⟨rfl, ha⟩; replace HA := Lib.hid ha; have hx := HX1.out.keep ha.low; obtain ⟨d0, d1, d2, d3, d4, d5, d6, d7, d8, d9, d10, d11⟩ := hx.cells; clear ha hx)
        | (clear d0 d1 d2 d3 d4 d5 d6 d7 d8 d9 d10 d11; go_at_call 26; refine (renc_text HA.out _ (by first | (with_reducible exact HS1.out) | (with_reducible exact HS2.out) | (with_reducible exact HS3.out)) (by omega)).mono ?_; rintro e w3 ⟨rfl, ha⟩; replace HA := Lib.hid ha; have hx := HX1.out.keep ha.low; obtain ⟨d0, d1, d2, d3, d4, d5, d6, d7, d8, d9, d10, d11⟩ := hx.cells; clear ha hx)
        | (clear d0 d1 d2 d3 d4 d5 d6 d7 d8 d9 d10 d11; go_at_call 27; refine (renc_done HA.out (by rw [fds_k8 HE.out]; rfl) HG.out (by omega)).mono ?_; rintro e w4 ⟨rfl, rfl⟩))
      go_ret2
      exact ⟨by rw [HEE.out]; rfl, bstep (bstep H0.out HB1.out) HA.out.low⟩
    · have HE := Lib.hid e
      have q1 : (r.k == 1) = false := by rw [e]; rfl
      have q2 : (r.k == 2) = false := by rw [e]; rfl
      have q3 : (r.k == 3) = false := by rw [e]; rfl
      have q4 : (r.k == 4) = false := by rw [e]; rfl
      have q5 : (r.k == 5) = false := by rw [e]; rfl
      have q6 : (r.k == 6) = false := by rw [e]; rfl
      have q7 : (r.k == 7) = false := by rw [e]; rfl
      have q8 : (r.k == 8) = false := by rw [e]; rfl
      have q9 : (r.k == 9) = true := by rw [e]; rfl
      have q10 : (r.k == 10) = false := by rw [e]; rfl
      have q11 : (r.k == 11) = false := by rw [e]; rfl
      have q12 : (r.k == 12) = false := by rw [e]; rfl
      have q13 : (r.k == 13) = false := by rw [e]; rfl
      have q14 : (r.k == 14) = false := by rw [e]; rfl
      clear e
      go_enter Tryd.func12, Tryd.ntmps12
      go_wp2_with (first
        | (go_at_call 14; refine (rgood_any r HR.out oa n c HN.out _ HM1.out).mono ?_; rintro e w1 ⟨he, hb1⟩; rw [HG.out] at he; subst he; have HB1 := Lib.hid hb1; have HX1 := Lib.hid (HBX.out.keep hb1); clear hb1)
        | (go_at_call 24; refine (rnew_any _).mono ?_; rintro e w2 ⟨rfl, hp2, hb2, hz2⟩; have HA : Hid (REnc w1 [] 0 w2) := Lib.hid ⟨⟨⟨#[]⟩, hp2, by simp [ByteArray.size], fun _ => rfl⟩, hb2⟩; have hx := HX1.out.keep hb2; obtain ⟨d0, d1, d2, d3, d4, d5, d6, d7, d8, d9, d10, d11⟩ := hx.cells; clear hp2 hb2 hz2 hx)
        | (clear d0 d1 d2 d3 d4 d5 d6 d7 d8 d9 d10 d11; go_at_call 25; refine (renc_num HA.out _ _ (by first | (with_reducible exact HW.out.k) | (with_reducible exact HW.out.cl) | (with_reducible exact HW.out.sq) | (with_reducible exact HW.out.sz) | (with_reducible exact HW.out.h) | (with_reducible exact HW.out.o) | (with_reducible exact HW.out.tk) | (with_reducible exact HW.out.i) | (have := HNN.out; omega)) (by decide) (by omega)).mono ?_; rintro e w3 ⟨rfl, ha⟩; replace HA := Lib.hid ha; have hx := HX1.out.keep ha.low; obtain ⟨d0, d1, d2, d3, d4, d5, d6, d7, d8, d9, d10, d11⟩ := hx.cells; clear ha hx)
        | (clear d0 d1 d2 d3 d4 d5 d6 d7 d8 d9 d10 d11; go_at_call 26; refine (renc_text HA.out _ (by first | (with_reducible exact HS1.out) | (with_reducible exact HS2.out) | (with_reducible exact HS3.out)) (by omega)).mono ?_; rintro e w3 ⟨rfl, ha⟩; replace HA := Lib.hid ha; have hx := HX1.out.keep ha.low; obtain ⟨d0, d1, d2, d3, d4, d5, d6, d7, d8, d9, d10, d11⟩ := hx.cells; clear ha hx)
        | (clear d0 d1 d2 d3 d4 d5 d6 d7 d8 d9 d10 d11; go_at_call 27; refine (renc_done HA.out (by rw [fds_k9 HE.out]; rfl) HG.out (by omega)).mono ?_; rintro e w4 ⟨rfl, rfl⟩))
      go_ret2
      exact ⟨by rw [HEE.out]; rfl, bstep (bstep H0.out HB1.out) HA.out.low⟩
    · have HE := Lib.hid e
      have q1 : (r.k == 1) = false := by rw [e]; rfl
      have q2 : (r.k == 2) = false := by rw [e]; rfl
      have q3 : (r.k == 3) = false := by rw [e]; rfl
      have q4 : (r.k == 4) = false := by rw [e]; rfl
      have q5 : (r.k == 5) = false := by rw [e]; rfl
      have q6 : (r.k == 6) = false := by rw [e]; rfl
      have q7 : (r.k == 7) = false := by rw [e]; rfl
      have q8 : (r.k == 8) = false := by rw [e]; rfl
      have q9 : (r.k == 9) = false := by rw [e]; rfl
      have q10 : (r.k == 10) = true := by rw [e]; rfl
      have q11 : (r.k == 11) = false := by rw [e]; rfl
      have q12 : (r.k == 12) = false := by rw [e]; rfl
      have q13 : (r.k == 13) = false := by rw [e]; rfl
      have q14 : (r.k == 14) = false := by rw [e]; rfl
      clear e
      go_enter Tryd.func12, Tryd.ntmps12
      go_wp2_with (first
        | (go_at_call 14; refine (rgood_any r HR.out oa n c HN.out _ HM1.out).mono ?_; rintro e w1 ⟨he, hb1⟩; rw [HG.out] at he; subst he; have HB1 := Lib.hid hb1; have HX1 := Lib.hid (HBX.out.keep hb1); clear hb1)
        | (go_at_call 24; refine (rnew_any _).mono ?_; rintro e w2 ⟨rfl, hp2, hb2, hz2⟩; have HA : Hid (REnc w1 [] 0 w2) := Lib.hid ⟨⟨⟨#[]⟩, hp2, by simp [ByteArray.size], fun _ => rfl⟩, hb2⟩; have hx := HX1.out.keep hb2; obtain ⟨d0, d1, d2, d3, d4, d5, d6, d7, d8, d9, d10, d11⟩ := hx.cells; clear hp2 hb2 hz2 hx)
        | (clear d0 d1 d2 d3 d4 d5 d6 d7 d8 d9 d10 d11; go_at_call 25; refine (renc_num HA.out _ _ (by first | (with_reducible exact HW.out.k) | (with_reducible exact HW.out.cl) | (with_reducible exact HW.out.sq) | (with_reducible exact HW.out.sz) | (with_reducible exact HW.out.h) | (with_reducible exact HW.out.o) | (with_reducible exact HW.out.tk) | (with_reducible exact HW.out.i) | (have := HNN.out; omega)) (by decide) (by omega)).mono ?_; rintro e w3 ⟨rfl, ha⟩; replace HA := Lib.hid ha; have hx := HX1.out.keep ha.low; obtain ⟨d0, d1, d2, d3, d4, d5, d6, d7, d8, d9, d10, d11⟩ := hx.cells; clear ha hx)
        | (clear d0 d1 d2 d3 d4 d5 d6 d7 d8 d9 d10 d11; go_at_call 26; refine (renc_text HA.out _ (by first | (with_reducible exact HS1.out) | (with_reducible exact HS2.out) | (with_reducible exact HS3.out)) (by omega)).mono ?_; rintro e w3 ⟨rfl, ha⟩; replace HA := Lib.hid ha; have hx := HX1.out.keep ha.low; obtain ⟨d0, d1, d2, d3, d4, d5, d6, d7, d8, d9, d10, d11⟩ := hx.cells; clear ha hx)
        | (clear d0 d1 d2 d3 d4 d5 d6 d7 d8 d9 d10 d11; go_at_call 27; refine (renc_done HA.out (by rw [fds_k10 HE.out]; rfl) HG.out (by omega)).mono ?_; rintro e w4 ⟨rfl, rfl⟩))
      go_ret2
      exact ⟨by rw [HEE.out]; rfl, bstep (bstep H0.out HB1.out) HA.out.low⟩
    · have HE := Lib.hid e
      have q1 : (r.k == 1) = false := by rw [e]; rfl
      have q2 : (r.k == 2) = false := by rw [e]; rfl
      have q3 : (r.k == 3) = false := by rw [e]; rfl
      have q4 : (r.k == 4) = false := by rw [e]; rfl
      have q5 : (r.k == 5) = false := by rw [e]; rfl
      have q6 : (r.k == 6) = false := by rw [e]; rfl
      have q7 : (r.k == 7) = false := by rw [e]; rfl
      have q8 : (r.k == 8) = false := by rw [e]; rfl
      have q9 : (r.k == 9) = false := by rw [e]; rfl
      have q10 : (r.k == 10) = false := by rw [e]; rfl
      have q11 : (r.k == 11) = true := by rw [e]; rfl
      have q12 : (r.k == 12) = false := by rw [e]; rfl
      have q13 : (r.k == 13) = false := by rw [e]; rfl
      have q14 : (r.k == 14) = false := by rw [e]; rfl
      clear e
      go_enter Tryd.func12, Tryd.ntmps12
      go_wp2_with (first
        | (go_at_call 14; refine (rgood_any r HR.out oa n c HN.out _ HM1.out).mono ?_; rintro e w1 ⟨he, hb1⟩; rw [HG.out] at he; subst he; have HB1 := Lib.hid hb1; have HX1 := Lib.hid (HBX.out.keep hb1); clear hb1)
        | (go_at_call 24; refine (rnew_any _).mono ?_; rintro e w2 ⟨rfl, hp2, hb2, hz2⟩; have HA : Hid (REnc w1 [] 0 w2) := Lib.hid ⟨⟨⟨#[]⟩, hp2, by simp [ByteArray.size], fun _ => rfl⟩, hb2⟩; have hx := HX1.out.keep hb2; obtain ⟨d0, d1, d2, d3, d4, d5, d6, d7, d8, d9, d10, d11⟩ := hx.cells; clear hp2 hb2 hz2 hx)
        | (clear d0 d1 d2 d3 d4 d5 d6 d7 d8 d9 d10 d11; go_at_call 25; refine (renc_num HA.out _ _ (by first | (with_reducible exact HW.out.k) | (with_reducible exact HW.out.cl) | (with_reducible exact HW.out.sq) | (with_reducible exact HW.out.sz) | (with_reducible exact HW.out.h) | (with_reducible exact HW.out.o) | (with_reducible exact HW.out.tk) | (with_reducible exact HW.out.i) | (have := HNN.out; omega)) (by decide) (by omega)).mono ?_; rintro e w3 ⟨rfl, ha⟩; replace HA := Lib.hid ha; have hx := HX1.out.keep ha.low; obtain ⟨d0, d1, d2, d3, d4, d5, d6, d7, d8, d9, d10, d11⟩ := hx.cells; clear ha hx)
        | (clear d0 d1 d2 d3 d4 d5 d6 d7 d8 d9 d10 d11; go_at_call 26; refine (renc_text HA.out _ (by first | (with_reducible exact HS1.out) | (with_reducible exact HS2.out) | (with_reducible exact HS3.out)) (by omega)).mono ?_; rintro e w3 ⟨rfl, ha⟩; replace HA := Lib.hid ha; have hx := HX1.out.keep ha.low; obtain ⟨d0, d1, d2, d3, d4, d5, d6, d7, d8, d9, d10, d11⟩ := hx.cells; clear ha hx)
        | (clear d0 d1 d2 d3 d4 d5 d6 d7 d8 d9 d10 d11; go_at_call 27; refine (renc_done HA.out (by rw [fds_k11 HE.out]; rfl) HG.out (by omega)).mono ?_; rintro e w4 ⟨rfl, rfl⟩))
      go_ret2
      exact ⟨by rw [HEE.out]; rfl, bstep (bstep H0.out HB1.out) HA.out.low⟩
    · have HE := Lib.hid e
      have q1 : (r.k == 1) = false := by rw [e]; rfl
      have q2 : (r.k == 2) = false := by rw [e]; rfl
      have q3 : (r.k == 3) = false := by rw [e]; rfl
      have q4 : (r.k == 4) = false := by rw [e]; rfl
      have q5 : (r.k == 5) = false := by rw [e]; rfl
      have q6 : (r.k == 6) = false := by rw [e]; rfl
      have q7 : (r.k == 7) = false := by rw [e]; rfl
      have q8 : (r.k == 8) = false := by rw [e]; rfl
      have q9 : (r.k == 9) = false := by rw [e]; rfl
      have q10 : (r.k == 10) = false := by rw [e]; rfl
      have q11 : (r.k == 11) = false := by rw [e]; rfl
      have q12 : (r.k == 12) = true := by rw [e]; rfl
      have q13 : (r.k == 13) = false := by rw [e]; rfl
      have q14 : (r.k == 14) = false := by rw [e]; rfl
      clear e
      go_enter Tryd.func12, Tryd.ntmps12
      go_wp2_with (first
        | (go_at_call 14; refine (rgood_any r HR.out oa n c HN.out _ HM1.out).mono ?_; rintro e w1 ⟨he, hb1⟩; rw [HG.out] at he; subst he; have HB1 := Lib.hid hb1; have HX1 := Lib.hid (HBX.out.keep hb1); clear hb1)
        | (go_at_call 24; refine (rnew_any _).mono ?_; rintro e w2 ⟨rfl, hp2, hb2, hz2⟩; have HA : Hid (REnc w1 [] 0 w2) := Lib.hid ⟨⟨⟨#[]⟩, hp2, by simp [ByteArray.size], fun _ => rfl⟩, hb2⟩; have hx := HX1.out.keep hb2; obtain ⟨d0, d1, d2, d3, d4, d5, d6, d7, d8, d9, d10, d11⟩ := hx.cells; clear hp2 hb2 hz2 hx)
        | (clear d0 d1 d2 d3 d4 d5 d6 d7 d8 d9 d10 d11; go_at_call 25; refine (renc_num HA.out _ _ (by first | (with_reducible exact HW.out.k) | (with_reducible exact HW.out.cl) | (with_reducible exact HW.out.sq) | (with_reducible exact HW.out.sz) | (with_reducible exact HW.out.h) | (with_reducible exact HW.out.o) | (with_reducible exact HW.out.tk) | (with_reducible exact HW.out.i) | (have := HNN.out; omega)) (by decide) (by omega)).mono ?_; rintro e w3 ⟨rfl, ha⟩; replace HA := Lib.hid ha; have hx := HX1.out.keep ha.low; obtain ⟨d0, d1, d2, d3, d4, d5, d6, d7, d8, d9, d10, d11⟩ := hx.cells; clear ha hx)
        | (clear d0 d1 d2 d3 d4 d5 d6 d7 d8 d9 d10 d11; go_at_call 26; refine (renc_text HA.out _ (by first | (with_reducible exact HS1.out) | (with_reducible exact HS2.out) | (with_reducible exact HS3.out)) (by omega)).mono ?_; rintro e w3 ⟨rfl, ha⟩; replace HA := Lib.hid ha; have hx := HX1.out.keep ha.low; obtain ⟨d0, d1, d2, d3, d4, d5, d6, d7, d8, d9, d10, d11⟩ := hx.cells; clear ha hx)
        | (clear d0 d1 d2 d3 d4 d5 d6 d7 d8 d9 d10 d11; go_at_call 27; refine (renc_done HA.out (by rw [fds_k12 HE.out]; rfl) HG.out (by omega)).mono ?_; rintro e w4 ⟨rfl, rfl⟩))
      go_ret2
      exact ⟨by rw [HEE.out]; rfl, bstep (bstep H0.out HB1.out) HA.out.low⟩
    · have HE := Lib.hid e
      have q1 : (r.k == 1) = false := by rw [e]; rfl
      have q2 : (r.k == 2) = false := by rw [e]; rfl
      have q3 : (r.k == 3) = false := by rw [e]; rfl
      have q4 : (r.k == 4) = false := by rw [e]; rfl
      have q5 : (r.k == 5) = false := by rw [e]; rfl
      have q6 : (r.k == 6) = false := by rw [e]; rfl
      have q7 : (r.k == 7) = false := by rw [e]; rfl
      have q8 : (r.k == 8) = false := by rw [e]; rfl
      have q9 : (r.k == 9) = false := by rw [e]; rfl
      have q10 : (r.k == 10) = false := by rw [e]; rfl
      have q11 : (r.k == 11) = false := by rw [e]; rfl
      have q12 : (r.k == 12) = false := by rw [e]; rfl
      have q13 : (r.k == 13) = true := by rw [e]; rfl
      have q14 : (r.k == 14) = false := by rw [e]; rfl
      clear e
      go_enter Tryd.func12, Tryd.ntmps12
      go_wp2_with (first
        | (go_at_call 14; refine (rgood_any r HR.out oa n c HN.out _ HM1.out).mono ?_; rintro e w1 ⟨he, hb1⟩; rw [HG.out] at he; subst he; have HB1 := Lib.hid hb1; have HX1 := Lib.hid (HBX.out.keep hb1); clear hb1)
        | (go_at_call 24; refine (rnew_any _).mono ?_; rintro e w2 ⟨rfl, hp2, hb2, hz2⟩; have HA : Hid (REnc w1 [] 0 w2) := Lib.hid ⟨⟨⟨#[]⟩, hp2, by simp [ByteArray.size], fun _ => rfl⟩, hb2⟩; have hx := HX1.out.keep hb2; obtain ⟨d0, d1, d2, d3, d4, d5, d6, d7, d8, d9, d10, d11⟩ := hx.cells; clear hp2 hb2 hz2 hx)
        | (clear d0 d1 d2 d3 d4 d5 d6 d7 d8 d9 d10 d11; go_at_call 25; refine (renc_num HA.out _ _ (by first | (with_reducible exact HW.out.k) | (with_reducible exact HW.out.cl) | (with_reducible exact HW.out.sq) | (with_reducible exact HW.out.sz) | (with_reducible exact HW.out.h) | (with_reducible exact HW.out.o) | (with_reducible exact HW.out.tk) | (with_reducible exact HW.out.i) | (have := HNN.out; omega)) (by decide) (by omega)).mono ?_; rintro e w3 ⟨rfl, ha⟩; replace HA := Lib.hid ha; have hx := HX1.out.keep ha.low; obtain ⟨d0, d1, d2, d3, d4, d5, d6, d7, d8, d9, d10, d11⟩ := hx.cells; clear ha hx))
      have HMW := Lib.hid (HM1.out.grow HB1.out)
      have HWM := Lib.hid HW.out.m
      clear q1 q2 q3 q4 q5 q6 q7 q8 q9 q10 q11 q12 q13 q14 d0 d1 d2 d3 d4 d5 d6 d7 d8 d9 d10 d11
      have HXS : Hid (([] ++ [fdN r.k 1] ++ [fdN r.cl 1] ++ [fdN r.sq 4] ++ [fdN r.i 4] ++ [fdN n 1]) ++ (r.m.flatMap mvF ++ [fdT r.d]) = fds r) := Lib.hid (by rw [fds_k13 HE.out, HN.out]; simp [heads])
      generalize ([] ++ [fdN r.k 1] ++ [fdN r.cl 1] ++ [fdN r.sq 4] ++ [fdN r.i 4] ++ [fdN n 1]) = xs0 at HA HXS
      go_loopw [5] (fun i wr => ∃ k : Nat, k ≤ n ∧ i = .int .i64 (k : Int) ∧ REnc w1 (xs0 ++ (r.m.take k).flatMap mvF) (5 + 4 * k) wr) (fun i _ => ((n : Int) - intOf i).toNat)
      case atStart => exact ⟨0, by omega, rfl, by rw [List.take_zero, List.flatMap_nil, List.append_nil]; exact HA.out⟩
      case round =>
        obtain ⟨k, hk, rfl, hre⟩ := hrel
        have HA := Lib.hid hre
        have hx := HX1.out.keep hre.low
        obtain ⟨d0, d1, d2, d3, d4, d5, d6, d7, d8, d9, d10, d11⟩ := hx.cells
        clear hre hx
        have hnn := HNN.out
        by_cases hlt : k < n
        · obtain ⟨x, hxk⟩ : ∃ x, r.m[k]? = some x := ⟨_, List.getElem?_eq_getElem (by have := HN.out; omega)⟩
          obtain ⟨a, rfl, hab, c0, c1, c2, c3⟩ := mv_cells (HMW.out.grow HA.out.low) hxk
          have CELL : Hid (∀ wr : World, Below w1.heap.size w1 wr → wr.cell? (a.add (k * 4)) = some (.int .i64 x.a) ∧ wr.cell? ⟨(a.add (k * 4)).block, (a.add (k * 4)).off + 1, none⟩ = some (.int .i64 x.f) ∧
              wr.cell? ⟨(a.add (k * 4)).block, (a.add (k * 4)).off + 2, none⟩ = some (.int .i64 x.n) ∧ wr.cell? ⟨(a.add (k * 4)).block, (a.add (k * 4)).off + 3, none⟩ = some (.int .i64 x.t)) := Lib.hid fun wr hb => by
            obtain ⟨a', ha', _, h0, h1, h2, h3⟩ := mv_cells (HMW.out.grow hb) hxk
            injection ha' with ha'
            subst ha'
            exact ⟨h0, h1, h2, h3⟩
          have hk0 : (0 : Int) ≤ (k : Int) := by omega
          have hkl : (k : Int) < (n : Int) := by omega
          have HV := Lib.hid (HWM.out x (List.mem_of_getElem? hxk))
          have HV1 : Hid (x.a < 9223372036854775808) := Lib.hid HV.out.1
          have HV2 : Hid (x.f < 9223372036854775808) := Lib.hid HV.out.2.1
          have HV3 : Hid (x.n < 9223372036854775808) := Lib.hid HV.out.2.2.1
          have HV4 : Hid (x.t < 9223372036854775808) := Lib.hid HV.out.2.2.2
          have HFS := Lib.hid (flat_snoc hxk)
          clear hxk
          go_wp2_with (clear d0 d1 d2 d3 d4 d5 d6 d7 d8 d9 d10 d11 c0 c1 c2 c3; go_at_call 25; refine (renc_num HA.out _ _ (by first | (with_reducible exact HV1.out) | (with_reducible exact HV2.out) | (with_reducible exact HV3.out) | (with_reducible exact HV4.out)) (by decide) (by omega)).mono ?_; rintro e w3 ⟨rfl, ha⟩; replace HA := Lib.hid ha; have hx := HX1.out.keep ha.low; obtain ⟨d0, d1, d2, d3, d4, d5, d6, d7, d8, d9, d10, d11⟩ := hx.cells; obtain ⟨c0, c1, c2, c3⟩ := CELL.out _ ha.low; clear ha hx)
          exact ⟨⟨k + 1, by omega, by simp, by rw [HFS.out]; exact (by simpa [mvF] using HA.out : REnc w1 (xs0 ++ ((r.m.take k).flatMap mvF ++ mvF x)) (5 + 4 * k + 1 + 1 + 1 + 1) _)⟩, by simp [intOf]; omega⟩
        · have hk1 : ¬ ((k : Int) < (n : Int)) := by omega
          have HAE : Hid (xs0 ++ (r.m.take k).flatMap mvF ++ [fdT r.d] = fds r) := Lib.hid (by rw [← HXS.out, List.take_of_length_le (by have := HN.out; omega), List.append_assoc])
          go_wp2_with (first
            | (clear d0 d1 d2 d3 d4 d5 d6 d7 d8 d9 d10 d11; go_at_call 26; refine (renc_text HA.out _ (by first | (with_reducible exact HS1.out) | (with_reducible exact HS2.out) | (with_reducible exact HS3.out)) (by omega)).mono ?_; rintro e w3 ⟨rfl, ha⟩; replace HA := Lib.hid ha; have hx := HX1.out.keep ha.low; obtain ⟨d0, d1, d2, d3, d4, d5, d6, d7, d8, d9, d10, d11⟩ := hx.cells; clear ha hx)
            | (clear d0 d1 d2 d3 d4 d5 d6 d7 d8 d9 d10 d11; go_at_call 27; refine (renc_done HA.out HAE.out HG.out (by omega)).mono ?_; rintro e w4 ⟨rfl, rfl⟩))
          go_ret2
          exact ⟨by rw [HEE.out]; rfl, bstep (bstep H0.out HB1.out) HA.out.low⟩
    · have HE := Lib.hid e
      have q1 : (r.k == 1) = false := by rw [e]; rfl
      have q2 : (r.k == 2) = false := by rw [e]; rfl
      have q3 : (r.k == 3) = false := by rw [e]; rfl
      have q4 : (r.k == 4) = false := by rw [e]; rfl
      have q5 : (r.k == 5) = false := by rw [e]; rfl
      have q6 : (r.k == 6) = false := by rw [e]; rfl
      have q7 : (r.k == 7) = false := by rw [e]; rfl
      have q8 : (r.k == 8) = false := by rw [e]; rfl
      have q9 : (r.k == 9) = false := by rw [e]; rfl
      have q10 : (r.k == 10) = false := by rw [e]; rfl
      have q11 : (r.k == 11) = false := by rw [e]; rfl
      have q12 : (r.k == 12) = false := by rw [e]; rfl
      have q13 : (r.k == 13) = false := by rw [e]; rfl
      have q14 : (r.k == 14) = true := by rw [e]; rfl
      clear e
      go_enter Tryd.func12, Tryd.ntmps12
      go_wp2_with (first
        | (go_at_call 14; refine (rgood_any r HR.out oa n c HN.out _ HM1.out).mono ?_; rintro e w1 ⟨he, hb1⟩; rw [HG.out] at he; subst he; have HB1 := Lib.hid hb1; have HX1 := Lib.hid (HBX.out.keep hb1); clear hb1)
        | (go_at_call 24; refine (rnew_any _).mono ?_; rintro e w2 ⟨rfl, hp2, hb2, hz2⟩; have HA : Hid (REnc w1 [] 0 w2) := Lib.hid ⟨⟨⟨#[]⟩, hp2, by simp [ByteArray.size], fun _ => rfl⟩, hb2⟩; have hx := HX1.out.keep hb2; obtain ⟨d0, d1, d2, d3, d4, d5, d6, d7, d8, d9, d10, d11⟩ := hx.cells; clear hp2 hb2 hz2 hx)
        | (clear d0 d1 d2 d3 d4 d5 d6 d7 d8 d9 d10 d11; go_at_call 25; refine (renc_num HA.out _ _ (by first | (with_reducible exact HW.out.k) | (with_reducible exact HW.out.cl) | (with_reducible exact HW.out.sq) | (with_reducible exact HW.out.sz) | (with_reducible exact HW.out.h) | (with_reducible exact HW.out.o) | (with_reducible exact HW.out.tk) | (with_reducible exact HW.out.i) | (have := HNN.out; omega)) (by decide) (by omega)).mono ?_; rintro e w3 ⟨rfl, ha⟩; replace HA := Lib.hid ha; have hx := HX1.out.keep ha.low; obtain ⟨d0, d1, d2, d3, d4, d5, d6, d7, d8, d9, d10, d11⟩ := hx.cells; clear ha hx)
        | (clear d0 d1 d2 d3 d4 d5 d6 d7 d8 d9 d10 d11; go_at_call 26; refine (renc_text HA.out _ (by first | (with_reducible exact HS1.out) | (with_reducible exact HS2.out) | (with_reducible exact HS3.out)) (by omega)).mono ?_; rintro e w3 ⟨rfl, ha⟩; replace HA := Lib.hid ha; have hx := HX1.out.keep ha.low; obtain ⟨d0, d1, d2, d3, d4, d5, d6, d7, d8, d9, d10, d11⟩ := hx.cells; clear ha hx)
        | (clear d0 d1 d2 d3 d4 d5 d6 d7 d8 d9 d10 d11; go_at_call 27; refine (renc_done HA.out (by rw [fds_k14 HE.out]; rfl) HG.out (by omega)).mono ?_; rintro e w4 ⟨rfl, rfl⟩))
      go_ret2
      exact ⟨by rw [HEE.out]; rfl, bstep (bstep H0.out HB1.out) HA.out.low⟩
end Go.Proofs.YtlffcilgmockmaaDoor.OpW
