/- The laws of path: PathTells. -/
import Derived.Test.YtgpaneboohiojaaPathLaw
namespace Go.Proofs.Ytgpaneboohiojaa.PathW
open Go.RowKit
theorem split_is (p : ByteArray) (hs : p.size ≤ 140737488355328) (l : List (List UInt8)) (x : Int) (hl : (namesR p.data.toList).getD [] = l) (hx : splitE p.data.toList = x) (w : World) :
    Calls Try.prog 14 #[.string p] w fun e w' => ∃ oa cap, e = .returned (.tuple #[.slice oa l.length cap, .int .i64 x]) ∧ Rds w'.heap.size w' oa l ∧ l.length ≤ cap ∧ Below w.heap.size w w' := by
  rw [← hl, ← hx]
  refine (split_any p hs w).mono ?_
  rintro e w' ⟨v, rfl, h1, h2⟩
  obtain ⟨oa, cap, rfl⟩ := h1.form
  exact ⟨oa, cap, rfl, Rds.of_strs h1, h1.cap.2, h2⟩
theorem rsplit_is (p : ByteArray) (hs : p.size ≤ 1000000) (l : List (List UInt8)) (x : Int) (hl : (namesR p.data.toList).getD [] = l) (hx : splitE p.data.toList = x) (w : World) :
    Calls Try.prog 15 #[.string p] w fun e w' => ∃ oa cap, e = .returned (.tuple #[.slice oa l.length cap, .int .i64 x]) ∧ Rds w'.heap.size w' oa l ∧ l.length ≤ cap ∧ Below w.heap.size w w' := by
  rw [← hl, ← hx]
  refine (rsplit_any p hs w).mono ?_
  rintro e w' ⟨v, rfl, h1, h2⟩
  obtain ⟨oa, cap, rfl⟩ := h1.form
  exact ⟨oa, cap, rfl, Rds.of_strs h1, h1.cap.2, h2⟩
theorem rup_is (p : ByteArray) (hs : p.size ≤ 1000000) (d n : ByteArray) (b : Bool) (h : upR p.data.toList = (d.data.toList, n.data.toList, b)) (w : World) :
    Calls Try.prog 17 #[.string p] w fun e w' => e = .returned (.agg #[.string d, .string n, .bool b]) ∧ Below w.heap.size w w' := by
  have := rup_any p hs w
  rwa [rupV, h] at this
theorem rgood_is (p : ByteArray) (hs : p.size ≤ 1000000) (b : Bool) (hb : (namesR p.data.toList).isSome = b) (w : World) :
    Calls Try.prog 20 #[.string p] w fun e w' => e = .returned (.bool b) ∧ Below w.heap.size w w' := by
  rw [← hb]; exact rgood_any p hs w
theorem texts_same (oa ob : Option Addr) (na nb ca cb : Nat) (a : List (List UInt8)) (hna : na = a.length) (hnb : nb = a.length) (ha : a.length ≤ 140737488355328) (w : World) (h1 : Rds w.heap.size w oa a) (h2 : Rds w.heap.size w ob a) :
    Calls Try.prog 10 #[.slice oa na ca, .slice ob nb cb] w fun e w' => e = .returned (.bool true) ∧ Below w.heap.size w w' := by
  have := texts_is oa ob na nb ca cb a a hna hnb ha ha w h1 h2
  rwa [beq_self_eq_true] at this
theorem Rds.grow {w w' : World} {oa : Option Addr} {l : List (List UInt8)} (h : Rds w.heap.size w oa l) (hb : Below w.heap.size w w') : Rds w'.heap.size w' oa l := fun i hi => by
  obtain ⟨x, e1, e2, e3⟩ := (h.below hb) i hi
  exact ⟨x, e1, Nat.lt_of_lt_of_le e2 hb.size, e3⟩
theorem kept_on {W W' : World} {B : Nat} {o : Obj} (h : W.heap[B]? = some o) (hb : Below W.heap.size W W') : W'.heap[B]? = some o := (hb.block B (lt_of_block h)).trans h
theorem rname_is2 (s : ByteArray) (b : Bool) (hb : nameB s.data.toList = b) (hs : s.size ≤ 9223372036854775807) (w : World) :
    Calls Try.prog 19 #[.string s] w fun e w' => e = .returned (.bool b) ∧ w = w' := by
  rw [← hb]; exact rname_any s hs w
set_option maxHeartbeats 1600000 in
theorem tells_walk (s : ByteArray) (_ : s.size ≤ maxLen) (w : World) :
    Calls Try.prog 5 #[.string s] w fun e w' => e = .returned (.bool true) ∧ Below w.heap.size w w' := by
  by_cases h : 20000 < s.size
  · go_enter Try.func5, Try.ntmps5
    go_wp2_with (go_at_call 7; refine (wakes_any _).mono ?_; rintro e w1 ⟨rfl, hb⟩)
    go_ret
    exact ⟨rfl, hb⟩
  · have HP := Lib.hid (show s.size ≤ 140737488355328 by omega)
    have HP1 := Lib.hid (show s.size ≤ 1000000 by omega)
    have HP9 := Lib.hid (show s.size ≤ 9223372036854775807 by omega)
    obtain ⟨l, hl⟩ : ∃ l, (namesR s.data.toList).getD [] = l := ⟨_, rfl⟩
    have hl8 : l.length ≤ 8 := by rw [← hl]; exact names_few _
    obtain ⟨x, hx⟩ : ∃ x, splitE s.data.toList = x := ⟨_, rfl⟩
    obtain ⟨d, n, b, hu⟩ : ∃ (d n : ByteArray) (b : Bool), upR s.data.toList = (d.data.toList, n.data.toList, b) := ⟨⟨(upR s.data.toList).1.toArray⟩, ⟨(upR s.data.toList).2.1.toArray⟩, _, rfl⟩
    obtain ⟨g, hg⟩ : ∃ g, (namesR s.data.toList).isSome = g := ⟨_, rfl⟩
    obtain ⟨m, hm⟩ : ∃ m, nameB s.data.toList = m := ⟨_, rfl⟩
    have HL := Lib.hid hl
    have HX := Lib.hid hx
    have HU := Lib.hid hu
    have HG := Lib.hid hg
    have HM := Lib.hid hm
    clear hl hx hu hg hm
    go_enter Try.func5, Try.ntmps5
    go_wp2_with (first
      | (go_at_call 14; refine (split_is s HP.out _ _ HL.out HX.out _).mono ?_; rintro e w1 ⟨oa, ca, rfl, hr1, hc1, hb1⟩; have HR1 := Lib.hid hr1; have HB1 := Lib.hid hb1; clear hr1 hc1 hb1)
      | (go_at_call 15; refine (rsplit_is s HP1.out _ _ HL.out HX.out _).mono ?_; rintro e w2 ⟨ob, cb, rfl, hr2, hc2, hb2⟩; have HR2 := Lib.hid hr2; have HR12 := Lib.hid (HR1.out.grow hb2); have HB2 := Lib.hid (bstep HB1.out hb2); clear hr2 hc2 hb2)
      | (go_at_call 16; refine (up_is s HP.out _ _ _ HU.out _).mono ?_; rintro e w3 ⟨rfl, hb3⟩; have HR13 := Lib.hid (HR12.out.grow hb3); have HR23 := Lib.hid (HR2.out.grow hb3); have HB3 := Lib.hid (bstep HB2.out hb3); clear hb3)
      | (go_at_call 17; refine (rup_is s HP1.out _ _ _ HU.out _).mono ?_; rintro e w4 ⟨rfl, hb4⟩; have HR14 := Lib.hid (HR13.out.grow hb4); have HR24 := Lib.hid (HR23.out.grow hb4); have HB4 := Lib.hid (bstep HB3.out hb4); clear hb4))
    have HW4 := Lib.hid (bstep HB4.out (below_alloc w4 (Obj.cells #[.string d, .string n, .bool b] 40)))
    have HU4 := Lib.hid (heap_alloc_new w4 (Obj.cells #[.string d, .string n, .bool b] 40))
    have HR15 := Lib.hid (HR14.out.grow (below_alloc w4 (Obj.cells #[.string d, .string n, .bool b] 40)))
    have HR25 := Lib.hid (HR24.out.grow (below_alloc w4 (Obj.cells #[.string d, .string n, .bool b] 40)))
    go_wp2_with (first
      | (go_at_call 18; refine (name_is s m HM.out HP9.out _).mono ?_; rintro e w5 ⟨rfl, rfl⟩)
      | (go_at_call 19; refine (rname_is2 s m HM.out HP9.out _).mono ?_; rintro e w5 ⟨rfl, rfl⟩)
      | (go_at_call 13; refine (good_is s HP.out g HG.out _).mono ?_; rintro e w5 ⟨rfl, hb5⟩; have HB5 := Lib.hid (bstep HW4.out hb5); have HU5 := Lib.hid (kept_on HU4.out hb5); have HR16 := Lib.hid (HR15.out.grow hb5); have HR26 := Lib.hid (HR25.out.grow hb5); clear hb5)
      | (go_at_call 20; refine (rgood_is s HP1.out g HG.out _).mono ?_; rintro e w6 ⟨rfl, hb6⟩; have HB6 := Lib.hid (bstep HB5.out hb6); have HU6 := Lib.hid (kept_on HU5.out hb6); have HR17 := Lib.hid (HR16.out.grow hb6); have HR27 := Lib.hid (HR26.out.grow hb6); clear hb6)
      | (go_at_call 10; refine (texts_same _ _ _ _ _ _ l rfl rfl (by omega) _ HR17.out HR27.out).mono ?_; rintro e w7 ⟨rfl, hb7⟩; have HB7 := Lib.hid (bstep HB6.out hb7); obtain ⟨c0, c1, c2, f0, f1, f2⟩ := new_cells3 (kept_on HU6.out hb7); clear hb7)
      | (go_at_call 7; refine (wakes_any _).mono ?_; rintro e w8 ⟨rfl, hb8⟩; have HB8 := Lib.hid (bstep HB7.out hb8); clear hb8))
    go_ret
    exact ⟨rfl, HB8.out⟩
end Go.Proofs.Ytgpaneboohiojaa.PathW
