/- Names that nobody made; wakes. -/
import Derived.Test.YtffigodlfmnbpaaDirPB
namespace Go.Proofs.Ytffigodlfmnbpaa.DirW
open Go.RowKit DirP
theorem nsome (v : Value) (w : World) : Calls Try.prog 26 #[.pointer none, v] w fun e w' => e = .returned (.slice none 0 0) ∧ w = w' := by
  go_enter Try.func26, Try.ntmps26
  go_wp2_with fail
  go_ret
  exact ⟨rfl, rfl⟩
theorem nall (w : World) : Calls Try.prog 24 #[.pointer none] w fun e w' => e = .returned (.slice none 0 0) ∧ Below w.heap.size w w' := by
  go_enter Try.func24, Try.ntmps24
  go_wp2_with (go_at_call 26; refine (nsome _ _).mono ?_; rintro e w1 ⟨rfl, rfl⟩)
  go_ret
  exact ⟨rfl, Below.refl _ _⟩
theorem nof (i : Int) (w : World) : Calls Try.prog 14 #[.pointer none, .int .i64 i] w fun e w' => e = .returned (.slice none 0 0) ∧ Below w.heap.size w w' := by
  go_enter Try.func14, Try.ntmps14
  go_wp2_with (go_at_call 26; refine (nsome _ _).mono ?_; rintro e w1 ⟨rfl, rfl⟩)
  go_ret
  exact ⟨rfl, below_alloc _ _⟩
theorem nlist (d : Int) (w : World) : Calls Try.prog 19 #[.pointer none, .int .i64 d] w fun e w' => e = .returned (.slice none 0 0) ∧ Below w.heap.size w w' := by
  go_enter Try.func19, Try.ntmps19
  go_wp2_with (go_at_call 26; refine (nsome _ _).mono ?_; rintro e w1 ⟨rfl, rfl⟩)
  go_loop [5, 12] (fun l i => l = .slice none 0 0 ∧ i = .int .i64 0) (fun _ _ => 0)
  case atStart => exact ⟨rfl, rfl⟩
  case round =>
    obtain ⟨rfl, rfl⟩ := hrel
    go_wp2_with fail
    go_ret
    exact ⟨rfl, below_alloc _ _⟩
theorem ndrop (d : Int) (s : ByteArray) (w : World) : Calls Try.prog 11 #[.pointer none, .int .i64 d, .string s] w fun e w' => e = .returned (.int .i64 1) ∧ w = w' := by
  go_enter Try.func11, Try.ntmps11
  go_wp2_with fail
  go_ret
  exact ⟨rfl, rfl⟩
theorem nfind (d : Int) (s : ByteArray) (w : World) : Calls Try.prog 12 #[.pointer none, .int .i64 d, .string s] w fun e w' => e = .returned (.tuple #[.int .i64 0, .bool false]) ∧ w = w' := by
  go_enter Try.func12, Try.ntmps12
  go_wp2_with fail
  go_ret2
  exact ⟨rfl, rfl⟩
theorem nadd (d : Int) (s : ByteArray) (i : Int) (w : World) : Calls Try.prog 10 #[.pointer none, .int .i64 d, .string s, .int .i64 i] w fun e w' => e = .returned (.int .i64 1) ∧ w = w' := by
  go_enter Try.func10, Try.ntmps10
  go_wp2_with fail
  go_ret
  exact ⟨rfl, rfl⟩
theorem ncount (d : Int) (w : World) : Calls Try.prog 13 #[.pointer none, .int .i64 d] w fun e w' => e = .returned (.int .i64 0) ∧ w = w' := by
  go_enter Try.func13, Try.ntmps13
  go_wp2_with fail
  go_ret
  exact ⟨rfl, rfl⟩
def sa : ByteArray := ⟨#[97]⟩
def sb : ByteArray := ⟨#[98]⟩
theorem wk_add : addE [] 1 sb 2 = 0 ∧ addL [] 1 sb 2 = [⟨1, sb, 2⟩] ∧ addE [⟨1, sb, 2⟩] 1 sa 3 = 0 ∧ addL [⟨1, sb, 2⟩] 1 sa 3 = [⟨1, sa, 3⟩, ⟨1, sb, 2⟩] ∧ addE [⟨1, sa, 3⟩, ⟨1, sb, 2⟩] 1 sa 4 = 61 ∧ addL [⟨1, sa, 3⟩, ⟨1, sb, 2⟩] 1 sa 4 = [⟨1, sa, 3⟩, ⟨1, sb, 2⟩] := by decide +kernel
theorem wk_find : fiI [⟨1, sa, 3⟩, ⟨1, sb, 2⟩] 1 sa = 3 ∧ fiB [⟨1, sa, 3⟩, ⟨1, sb, 2⟩] 1 sa = true := by decide +kernel
theorem wk_names : namesL [⟨1, sa, 3⟩, ⟨1, sb, 2⟩] 1 = [sa, sb] := by decide +kernel
theorem wk_of : (([⟨1, sa, 3⟩, ⟨1, sb, 2⟩] : List En).filter fun a => decide (a.i = 2)) = [⟨1, sb, 2⟩] := by decide +kernel
theorem wk_cnt : cnt [⟨1, sa, 3⟩, ⟨1, sb, 2⟩] 1 = 2 := by decide +kernel
theorem wk_ok : deOk (1, sa) ∧ deOk (1, sb) ∧ inOk 1 := ⟨⟨by decide, by decide⟩, ⟨by decide, by decide⟩, by unfold inOk; decide⟩
theorem two_at (w : World) (B : Nat) (h : w.heap[B]? = some (.cells #[.string sa, .string sb] 9 (0, 0))) : KAt encS 1 w.heap.size (some ⟨B, 0, none⟩) [sa, sb] w := by
  intro i x hx
  have hc : ∀ j v, #[Value.string sa, Value.string sb][j]? = some v → w.cell? ⟨B, j, none⟩ = some v := fun j v hj => by rw [Lib.cell_of_heap h]; exact hj
  refine ⟨_, rfl, lt_of_block h, fun j u hj => ?_⟩
  match i, hx with
  | 0, hx => obtain rfl : sa = x := by simpa using hx
             match j, hj with
             | 0, hj => obtain rfl : Value.string sa = u := by simpa [encS] using hj
                        exact hc 0 _ rfl
  | 1, hx => obtain rfl : sb = x := by simpa using hx
             match j, hj with
             | 0, hj => obtain rfl : Value.string sb = u := by simpa [encS] using hj
                        exact hc 1 _ rfl
set_option maxHeartbeats 1600000 in
theorem wakes_any (w : World) : Calls Try.prog 9 #[] w fun e w' => e = .returned (.bool true) ∧ Below w.heap.size w w' := by
  go_enter Try.func9, Try.ntmps9
  go_wp2_with (first
    | (go_at_call 7; refine (new_any _).mono ?_; rintro e w1 ⟨rfl, h1, hb1⟩; have H1 := Lib.hid h1; have HB1 := Lib.hid hb1; clear h1 hb1)
    | (go_at_call_of 10 (Value.int IntKind.i64 2); refine (add_any _ _ _ _ 1 sb 2 (by decide) wk_ok.2.1 _ H1.out).mono ?_; rintro e w2 ⟨rfl, h2, ho2, _⟩; rw [wk_add.1]; rw [wk_add.2.1] at h2; have H2 := Lib.hid h2; have HO2 := Lib.hid ho2; clear h2 ho2)
    | (go_at_call_of 10 (Value.int IntKind.i64 3); refine (add_any _ _ _ _ 1 sa 3 (by decide) wk_ok.1 _ H2.out).mono ?_; rintro e w3 ⟨rfl, h3, ho3, _⟩; rw [wk_add.2.2.1]; rw [wk_add.2.2.2.1] at h3; have H3 := Lib.hid h3; have HO3 := Lib.hid ho3; clear h3 ho3)
    | (go_at_call_of 10 (Value.int IntKind.i64 4); refine (add_any _ _ _ _ 1 sa 4 (by decide) wk_ok.1 _ H3.out).mono ?_; rintro e w4 ⟨rfl, h4, ho4, _⟩; rw [wk_add.2.2.2.2.1]; rw [wk_add.2.2.2.2.2] at h4; have H4 := Lib.hid h4; have HO4 := Lib.hid ho4; clear h4 ho4)
    | (go_at_call 12; refine (find_any _ _ _ _ 1 sa wk_ok.1 _ H4.out).mono ?_; rintro e w5 ⟨rfl, rfl⟩; rw [wk_find.1, wk_find.2])
    | (go_at_call 19; refine (list_any _ _ _ _ (by decide) 1 _ H4.out).mono ?_; rintro e w6 ⟨v6, rfl, hr6, hb6⟩; rw [wk_names] at hr6; obtain ⟨oa6, cap6, rfl, _⟩ := hr6.form; have HR6 := Lib.hid (hr6.pts st_len (by omega)); have HB6 := Lib.hid hb6; have H6 := Lib.hid (H4.out.grow hb6); clear hb6 hr6)
    | (go_at_call 18; refine (texts_any _ oa6 (some ⟨w6.heap.size, 0, none⟩) cap6 2 [sa, sb] (by decide) _ (Nat.le_refl _) (HR6.out.grow (below_alloc w6 _)) (two_at _ _ (heap_alloc_new w6 (.cells #[.string sa, .string sb] 9)))).mono ?_; rintro e w7 ⟨rfl, hb7⟩; have HB7 := Lib.hid (bstep (below_alloc w6 _) hb7); have H7 := Lib.hid (H6.out.grow HB7.out); clear hb7)
    | (go_at_call 13; refine (count_any _ _ _ _ 1 wk_ok.2.2 _ H7.out).mono ?_; rintro e w8 ⟨rfl, rfl⟩; rw [wk_cnt])
    | (go_at_call 14; refine (of_any _ _ _ _ (by decide) 2 _ H7.out).mono ?_; rintro e w9 ⟨v9, rfl, hr9, hb9⟩; rw [wk_of] at hr9; obtain ⟨oa9, cap9, rfl, _⟩ := hr9.form; have HB9 := Lib.hid hb9; clear hb9 hr9))
  go_ret
  have s1 := HB1.out.size
  have b2 := HB1.out.trans (HO2.out.below (Nat.le_refl _) (by omega) s1)
  have b3 := b2.trans (HO3.out.below (Nat.le_refl _) (by omega) b2.size)
  have b4 := b3.trans (HO4.out.below (Nat.le_refl _) (by omega) b3.size)
  exact ⟨rfl, bstep (bstep (bstep b4 HB6.out) HB7.out) HB9.out⟩
end Go.Proofs.Ytffigodlfmnbpaa.DirW
