/- The law's own test that the code is awake; a table that nobody made. -/
import Derived.Test.YtappgelpigoknaaInbAll
namespace Go.Proofs.Ytappgelpigoknaa.InoW
set_option maxRecDepth 100000
open Go.RowKit InoP ExtW
def wl1 : List Ino := [root, ⟨2, 2, 0, 0, 0, []⟩]
def wl2 : List Ino := [root, ⟨2, 2, 1, 0, 0, []⟩]
def wl3 : List Ino := [root, ⟨2, 2, 1, 0, 8, [⟨5, 3, 7, 0⟩]⟩]
theorem wk_make : makeI [root] 2 2 = 2 ∧ makeE [root] 2 2 = 0 ∧ makeL [root] 2 2 = wl1 ∧ makeN [root] 2 2 = 3 := by decide +kernel
theorem wk_link : linkE wl1 2 1 = 0 ∧ linkL wl1 2 1 = wl2 := by decide +kernel
theorem wk_write : writeE wl2 2 5 3 7 = 0 ∧ writeL wl2 2 5 3 7 = wl3 := by decide +kernel
theorem wk_stat : statX wl3 2 = ⟨2, 2, 1, 0, 8, [⟨5, 3, 7, 0⟩]⟩ ∧ statB wl3 2 = true ∧ partsL wl3 2 = [⟨5, 3, 7, 0⟩] := by decide +kernel
theorem wk_unlink : linkE wl3 2 (-1) = 0 ∧ linkL wl3 2 (-1) = [root] := by decide +kernel
theorem ok2 : iOk 2 := iOk_of (by omega)
set_option maxHeartbeats 1600000 in
theorem wakes_any (w : World) : Calls Try.prog 9 #[] w fun e w' => e = .returned (.bool true) ∧ Below w.heap.size w w' := by
  have HK := Lib.hid ok2
  go_enter Try.func9, Try.ntmps9
  go_wp2_with (first
    | (go_at_call 6; refine (new_any _).mono ?_; rintro e w1 ⟨rfl, h1, hb1⟩; have H1 := Lib.hid h1; have HB1 := Lib.hid hb1; clear h1 hb1)
    | (go_at_call 7; refine (make_any 2 _ H1.out).mono ?_; rintro e w2 ⟨rfl, h2, ho2⟩; rw [wk_make.1, wk_make.2.1]; rw [wk_make.2.2.1, wk_make.2.2.2] at h2; have H2 := Lib.hid h2; have HB2 := Lib.hid (HB1.out.trans (ho2.below (by omega) (by omega) HB1.out.size)); clear h2 ho2)
    | (with_reducible (have hz := H6.out); go_at_call 8; go_loud (refine (link_any 2 (-1) HK.out _ H6.out).mono ?_; rintro e w7 ⟨rfl, h7, ho7⟩; rw [wk_unlink.1]; rw [wk_unlink.2] at h7; have H7 := Lib.hid h7; have HB7 := Lib.hid (HB6.out.trans (ho7.below (by omega) HB6.out.size)); clear h7 ho7 hz))
    | (go_at_call_of 8 (Value.int IntKind.i64 1); refine (link_any 2 1 HK.out _ H2.out).mono ?_; rintro e w3 ⟨rfl, h3, ho3⟩; rw [wk_link.1]; rw [wk_link.2] at h3; have H3 := Lib.hid h3; have HB3 := Lib.hid (HB2.out.trans (ho3.below (by omega) HB2.out.size)); clear h3 ho3)
    | (go_at_call 10; refine (write_any 2 5 3 7 HK.out _ H3.out).mono ?_; rintro e w4 ⟨rfl, h4, ho4⟩; rw [wk_write.1]; rw [wk_write.2] at h4; have H4 := Lib.hid h4; have HB4 := Lib.hid (HB3.out.trans (ho4.below (by omega) HB3.out.size)); clear h4 ho4)
    | (go_at_call 11; refine (stat_any 2 HK.out _ H4.out).mono ?_; rintro e w5 ⟨rfl, hb5⟩; rw [wk_stat.1, wk_stat.2.1]; have H5 := Lib.hid (H4.out.grow hb5); have HB5 := Lib.hid (bstep HB4.out hb5); clear hb5)
    | (go_at_call 13; go_loud (refine (parts_any 2 HK.out _ (H5.out.grow (below_alloc w5 _))).mono ?_; rintro e w6 ⟨oa6, cap6, rfl, hr6, hb6⟩; rw [wk_stat.2.2] at hr6 ⊢; have H6 := Lib.hid (H5.out.grow (bstep (below_alloc w5 _) hb6)); have HB6 := Lib.hid (bstep HB5.out (bstep (below_alloc w5 _) hb6)); have hbx := new_kept hb6; have x2 := (new_cells hbx 2 (by simp)).1; have x3 := (new_cells hbx 3 (by simp)).1; simp only [List.getElem_toArray, List.getElem_cons_zero, List.getElem_cons_succ] at x2 x3; obtain ⟨ad6, rfl, _, _, _, d6, _⟩ := hr6.pts 0 ⟨5, 3, 7, 0⟩ rfl; simp only [Nat.zero_mul, Addr.add, if_true] at d6; clear hb6 hr6 hbx))
    | (go_at_call 29; refine (all_any _ H7.out).mono ?_; rintro e w8 ⟨oa8, cap8, rfl, _, _, hb8⟩; have H8 := Lib.hid (H7.out.grow hb8); have HB8 := Lib.hid (bstep HB7.out hb8); clear hb8)
    | (go_at_call 22; refine (next_any _ H8.out).mono ?_; rintro e w9 ⟨rfl, rfl⟩))
  go_ret
  exact ⟨rfl, HB8.out⟩
end Go.Proofs.Ytappgelpigoknaa.InoW
