/- The law's own example. -/
import Derived.Test.YtaaecdijbkkoiaaLivLoad
namespace Go.Proofs.Ytaaecdijbkkoiaa.LivW
set_option maxRecDepth 100000
open Go.RowKit LivP InoP InoW ExtW
def wxs : List Ino := [⟨1, 1, 1, 0, 0, []⟩, ⟨2, 2, 1, 0, 20, [⟨0, 3, 5, 0⟩, ⟨10, 4, 5, 7⟩]⟩]
theorem wx_all : allU wxs = [⟨5, 7⟩] := by decide +kernel
theorem wx_seg : segL 4 [⟨5, 7⟩] = [⟨1, 7⟩] := by decide +kernel
theorem wx_good : LGood wxs 3 := by
  refine ⟨by decide, by decide, fun i hi x hx => ?_, fun x hx => ?_⟩
  · have : i = 0 ∨ i = 1 := by have : wxs.length = 2 := rfl; omega
    rcases this with rfl | rfl
    · obtain rfl : x = ⟨1, 1, 1, 0, 0, []⟩ := by simpa [wxs] using hx.symm
      exact ⟨⟨by decide, by decide, by decide, by decide, by decide, by decide, by decide, by decide, by decide +kernel, by decide +kernel⟩, fun p h0 => absurd h0 (by omega)⟩
    · obtain rfl : x = ⟨2, 2, 1, 0, 20, [⟨0, 3, 5, 0⟩, ⟨10, 4, 5, 7⟩]⟩ := by simpa [wxs] using hx.symm
      refine ⟨⟨by decide, by decide, by decide, by decide, by decide, by decide, by decide, by decide, by decide +kernel, by decide +kernel⟩, fun p h0 hp => ?_⟩
      obtain rfl : p = ⟨1, 1, 1, 0, 0, []⟩ := by simpa [wxs] using hp.symm
      decide
  · obtain rfl : x = ⟨1, 1, 1, 0, 0, []⟩ := by simpa [wxs] using hx.symm
    decide
def wcs (b : Nat) : Array Value := #[.int .i64 1, .int .i64 1, .int .i64 1, .int .i64 0, .int .i64 0, .slice none 0 0, .int .i64 2, .int .i64 2, .int .i64 1, .int .i64 0, .int .i64 20, .slice (some ⟨b, 0, none⟩) 2 2]
def wps : Array Value := #[.int .i64 0, .int .i64 3, .int .i64 5, .int .i64 0, .int .i64 10, .int .i64 4, .int .i64 5, .int .i64 7]
def wys (b : Nat) : List IV := [⟨1, 1, 1, 0, 0, none, 0, 0⟩, ⟨2, 2, 1, 0, 20, some ⟨b, 0, none⟩, 2, 2⟩]
theorem wx_list (w : World) {pb b : Nat} {t u : TypeId} (h1 : w.heap[pb]? = some (.cells wps t (0, 0))) (h2 : w.heap[b]? = some (.cells (wcs pb) u (0, 0))) : IList w (some ⟨b, 0, none⟩) wxs (wys pb) := by
  have k1 := Lib.cell_of_heap h1
  have k2 := Lib.cell_of_heap h2
  refine ⟨fun i x hx => ⟨_, rfl, lt_of_block h2, fun j v hv => ?_⟩, rfl, fun i x y hx hy => ?_⟩
  · rw [← fieldOf_add, add_at, k2]
    have : i = 0 ∨ i = 1 := by have := (List.getElem?_eq_some_iff.1 hx).1; have e : (wys pb).length = 2 := rfl; omega
    have hj : j < 6 := by have := (List.getElem?_eq_some_iff.1 hv).1; rw [encI_len] at this; exact this
    rcases this with rfl | rfl
    · obtain rfl : x = ⟨1, 1, 1, 0, 0, none, 0, 0⟩ := by simpa [wys] using hx.symm
      have : j = 0 ∨ j = 1 ∨ j = 2 ∨ j = 3 ∨ j = 4 ∨ j = 5 := by omega
      rcases this with rfl | rfl | rfl | rfl | rfl | rfl <;> exact hv
    · obtain rfl : x = ⟨2, 2, 1, 0, 20, some ⟨pb, 0, none⟩, 2, 2⟩ := by simpa [wys] using hx.symm
      have : j = 0 ∨ j = 1 ∨ j = 2 ∨ j = 3 ∨ j = 4 ∨ j = 5 := by omega
      rcases this with rfl | rfl | rfl | rfl | rfl | rfl <;> exact hv
  · have : i = 0 ∨ i = 1 := by have := (List.getElem?_eq_some_iff.1 hx).1; have e : wxs.length = 2 := rfl; omega
    rcases this with rfl | rfl
    · obtain rfl : x = ⟨1, 1, 1, 0, 0, []⟩ := by simpa [wxs] using hx.symm
      obtain rfl : y = ⟨1, 1, 1, 0, 0, none, 0, 0⟩ := by simpa [wys] using hy.symm
      exact ⟨rfl, rfl, rfl, rfl, rfl, rfl, fun i x h => by simp at h, fun _ => ⟨rfl, rfl⟩⟩
    · obtain rfl : x = ⟨2, 2, 1, 0, 20, [⟨0, 3, 5, 0⟩, ⟨10, 4, 5, 7⟩]⟩ := by simpa [wxs] using hx.symm
      obtain rfl : y = ⟨2, 2, 1, 0, 20, some ⟨pb, 0, none⟩, 2, 2⟩ := by simpa [wys] using hy.symm
      refine ⟨rfl, rfl, rfl, rfl, rfl, rfl, fun i x h => ?_, fun e => by cases e⟩
      refine ⟨_, rfl, lt_of_block h1, ?_⟩
      have : i = 0 ∨ i = 1 := by have := (List.getElem?_eq_some_iff.1 h).1; simp at this; omega
      rcases this with rfl | rfl
      · obtain rfl : x = ⟨0, 3, 5, 0⟩ := by simpa using h.symm
        simp only [add_at, k1]
        exact ⟨rfl, rfl, rfl, rfl⟩
      · obtain rfl : x = ⟨10, 4, 5, 7⟩ := by simpa using h.symm
        simp only [add_at, k1]
        exact ⟨rfl, rfl, rfl, rfl⟩
theorem row_one {B : Nat} {w : World} {v : Value} {u : U} (h : RowK 40 encU 2 B w v [u]) : ∃ g c, v = .slice (some ⟨g, 0, none⟩) 1 c ∧ g < w.heap.size ∧ w.cell? ⟨g, 0, none⟩ = some (.int .i64 u.a) ∧ w.cell? ⟨g, 1, none⟩ = some (.int .i64 u.n) := by
  obtain ⟨oa, c, rfl, _⟩ := h.form
  obtain ⟨g, rfl, _, hg, hc⟩ := RowK.at us_len (by omega) h (i := 0) rfl
  exact ⟨g, c, rfl, hg, hc 0 _ rfl, hc 1 _ rfl⟩
set_option maxHeartbeats 3200000 in
theorem wakes_any (W : World) : Calls Try.prog 8 #[] W fun e w' => e = .returned (.bool true) ∧ Below W.heap.size W w' := by
  have HLI : Hid (IList ((W.alloc (.cells wps 35)).alloc (.cells (wcs W.heap.size) 68)) (some ⟨W.heap.size + 1, 0, none⟩) wxs (wys W.heap.size)) := Lib.hid (wx_list _ ((below_alloc _ _).block _ (by simp) |>.trans (heap_alloc_new W _)) (by have := heap_alloc_new (W.alloc (.cells wps 35)) (.cells (wcs W.heap.size) 68); rwa [alloc_size] at this))
  go_enter Try.func8, Try.ntmps8
  have HO : Hid (oldE (allU wxs) 9 = 5) := Lib.hid (by rw [wx_all]; decide)
  have HS1 : Hid (safeE 4 5 = 4) := Lib.hid (by decide)
  have HS2 : Hid (safeE (-1) 5 = 0) := Lib.hid (by decide)
  go_wp2_with (first
    | (go_at_call 12; refine (safe_any 4 5 _).mono ?_; rintro e w5 ⟨rfl, rfl⟩; rw [HS1.out])
    | (go_at_call 12; refine (safe_any (-1) 5 _).mono ?_; rintro e w5 ⟨rfl, rfl⟩; rw [HS2.out])
    | (go_at_call 11; refine (oldest_any _ (allU wxs) 9 _ (addrs_on HT3.out _ (Below.refl _ _))).mono ?_; rintro e w4 ⟨rfl, hb4⟩; rw [HO.out]; have HB4 := Lib.hid hb4; clear hb4)
    | (go_at_call 10; refine (segs_any _ (allU wxs) HFI.out 4 _ (fun W' hb => addrs_on HT2.out W' hb)).mono ?_; rintro e w3 ⟨v3, rfl, hr3, hb3⟩; rw [wx_all, wx_seg] at hr3; obtain ⟨g3, c3, rfl, hg3, d30, d31⟩ := row_one hr3; have e0 : w3.cell? ⟨g2, 0, none⟩ = some (.int .i64 5) := (hb3.cell HG2.out).trans HR20.out; have e1 : w3.cell? ⟨g2, 1, none⟩ = some (.int .i64 7) := (hb3.cell HG2.out).trans HR21.out; have HB3 := Lib.hid hb3; have HT3 := Lib.hid (HT2.out.grow hb3); clear hr3 hb3 d31)
    | (go_at_call 9; refine (addrs_any _ HT1.out).mono ?_; rintro e w2 ⟨v2, rfl, hr2, hb2⟩; rw [wx_all] at hr2; obtain ⟨g2, c2, rfl, hg2, d20, d21⟩ := row_one hr2; have HR20 := Lib.hid d20; have HR21 := Lib.hid d21; have HG2 := Lib.hid hg2; have HB2 := Lib.hid hb2; have HT2 := Lib.hid (HT1.out.grow hb2); have HFI : Hid (Fine (allU wxs)) := Lib.hid (fine_all wx_good.table); clear hr2 hb2 d20 d21 hg2)
    | (go_at_call 7; refine (loaded_yes 3 _ 2 wxs (wys W.heap.size) wx_good _ HLI.out).mono ?_; rintro e w1 ⟨tb, mb, qb, oq, cq, zs, rfl, ht1, _, _, hb1⟩; have HT1 := Lib.hid ht1; have HB1 := Lib.hid hb1; clear ht1 hb1))
  go_ret
  have b0 := ((below_alloc W (.cells wps 35)).trans ((below_alloc (W.alloc (.cells wps 35)) (.cells (wcs W.heap.size) 68)).mono (by simp)))
  have b1 := b0.trans (HB1.out.mono b0.size)
  have b2 := b1.trans (HB2.out.mono b1.size)
  have b3 := b2.trans (HB3.out.mono b2.size)
  exact ⟨rfl, b3.trans (HB4.out.mono b3.size)⟩
end Go.Proofs.Ytaaecdijbkkoiaa.LivW
