/- Handles that nobody made; wakes. -/
import Derived.Test.YtjfdbcmmmoipcaaHanPB
namespace Go.Proofs.Ytjfdbcmmmoipcaa.HanW
open Go.RowKit HanP
theorem nall (w : World) : Calls Try.prog 11 #[.pointer none] w fun e w' => e = .returned (.slice none 0 0) ∧ w = w' := by
  go_enter Try.func11, Try.ntmps11
  go_wp2_with fail
  go_ret
  exact ⟨rfl, rfl⟩
theorem nclose (c n : Int) (w : World) : Calls Try.prog 15 #[.pointer none, .int .i64 c, .int .i64 n] w fun e w' => e = .returned (.tuple #[.int .i64 0, .int .i64 1]) ∧ w = w' := by
  go_enter Try.func15, Try.ntmps15
  go_wp2_with fail
  go_ret2
  exact ⟨rfl, rfl⟩
theorem nof (c n : Int) (w : World) : Calls Try.prog 13 #[.pointer none, .int .i64 c, .int .i64 n] w fun e w' => e = .returned (.tuple #[.int .i64 0, .bool false]) ∧ w = w' := by
  go_enter Try.func13, Try.ntmps13
  go_wp2_with fail
  go_ret2
  exact ⟨rfl, rfl⟩
theorem nopen (c n i : Int) (w : World) : Calls Try.prog 10 #[.pointer none, .int .i64 c, .int .i64 n, .int .i64 i] w fun e w' => e = .returned (.int .i64 1) ∧ w = w' := by
  go_enter Try.func10, Try.ntmps10
  go_wp2_with fail
  go_ret
  exact ⟨rfl, rfl⟩
theorem nrenew (c t : Int) (w : World) : Calls Try.prog 9 #[.pointer none, .int .i64 c, .int .i64 t] w fun e w' => e = .returned (.int .i64 1) ∧ w = w' := by
  go_enter Try.func9, Try.ntmps9
  go_wp2_with fail
  go_ret
  exact ⟨rfl, rfl⟩
theorem nlease (c : Int) (w : World) : Calls Try.prog 8 #[.pointer none, .int .i64 c] w fun e w' => e = .returned (.int .i64 0) ∧ w = w' := by
  go_enter Try.func8, Try.ntmps8
  go_wp2_with fail
  go_ret
  exact ⟨rfl, rfl⟩
theorem ncount (c : Int) (w : World) : Calls Try.prog 16 #[.pointer none, .int .i64 c] w fun e w' => e = .returned (.int .i64 0) ∧ w = w' := by
  go_enter Try.func16, Try.ntmps16
  go_wp2_with (go_at_call 11; refine (nall _).mono ?_; rintro e w1 ⟨rfl, rfl⟩)
  go_loop [5, 11] (fun n i => n = .int .i64 0 ∧ i = .int .i64 0) (fun _ _ => 0)
  case atStart => exact ⟨rfl, rfl⟩
  case round =>
    obtain ⟨rfl, rfl⟩ := hrel
    go_wp2_with fail
    go_ret
    exact ⟨rfl, rfl⟩
theorem nexpire (t : Int) (w : World) : Calls Try.prog 12 #[.pointer none, .int .i64 t] w fun e w' => e = .returned (.slice none 0 0) ∧ w = w' := by
  go_enter Try.func12, Try.ntmps12
  go_wp2_with (go_at_call 11; refine (nall _).mono ?_; rintro e w1 ⟨rfl, rfl⟩)
  go_loop [5, 11] (fun n i => n = .slice none 0 0 ∧ i = .int .i64 0) (fun _ _ => 0)
  case atStart => exact ⟨rfl, rfl⟩
  case round =>
    obtain ⟨rfl, rfl⟩ := hrel
    go_wp2_with fail
    go_ret
    exact ⟨rfl, rfl⟩
theorem ha_at0 {B : Nat} {oa : Option Addr} {x : Ha} {l : List Ha} {w : World} (h : KAt encHa 3 B oa (x :: l) w) : ∃ a, oa = some a ∧ w.cell? ⟨a.block, a.off + 1, none⟩ = some (.int .i64 x.n) := by
  obtain ⟨a, h1, _, _, d1, _⟩ := ha_at h (i := 0) rfl
  exact ⟨a, h1, by simpa [Addr.add] using d1⟩
theorem wk_open : openE [] 1 5 7 = 0 ∧ openL [] 1 5 7 = [⟨1, 5, 7⟩] ∧ openE [⟨1, 5, 7⟩] 1 5 8 = 61 ∧ openL [⟨1, 5, 7⟩] 1 5 8 = [⟨1, 5, 7⟩] := by decide +kernel
theorem wk_renew : renewE 1 5 = 0 ∧ renewL (List.replicate 8 0) 1 5 = [0, 5, 0, 0, 0, 0, 0, 0] := by decide +kernel
theorem wk_of : ofI [⟨1, 5, 7⟩] 1 5 = 7 ∧ ofB [⟨1, 5, 7⟩] 1 5 = true := by decide +kernel
theorem wk_exp5 : [(⟨1, 5, 7⟩ : Ha)].filter (goneB [0, 5, 0, 0, 0, 0, 0, 0] 5) = [] ∧ ([(⟨1, 5, 7⟩ : Ha)].filter fun a => !goneB [0, 5, 0, 0, 0, 0, 0, 0] 5 a) = [⟨1, 5, 7⟩] := by decide +kernel
theorem wk_exp6 : [(⟨1, 5, 7⟩ : Ha)].filter (goneB [0, 5, 0, 0, 0, 0, 0, 0] 6) = [⟨1, 5, 7⟩] ∧ ([(⟨1, 5, 7⟩ : Ha)].filter fun a => !goneB [0, 5, 0, 0, 0, 0, 0, 0] 6 a) = [] := by decide +kernel
set_option maxHeartbeats 1600000 in
theorem wakes_any (w : World) : Calls Try.prog 14 #[] w fun e w' => e = .returned (.bool true) ∧ Below w.heap.size w w' := by
  have hok : haOk (1, 5) := haOk_of (by decide) (by decide)
  have HK := Lib.hid hok
  clear hok
  go_enter Try.func14, Try.ntmps14
  go_wp2_with (first
    | (go_at_call 7; refine (new_any _).mono ?_; rintro e w1 ⟨rfl, h1, hb1⟩; have H1 := Lib.hid h1; have HB1 := Lib.hid hb1; clear h1 hb1)
    | (go_at_call_of 10 (Value.int IntKind.i64 7); refine (open_any _ _ _ _ 1 5 7 HK.out _ H1.out).mono ?_; rintro e w2 ⟨rfl, h2, ho2⟩; rw [wk_open.1]; rw [wk_open.2.1] at h2; have H2 := Lib.hid h2; have HO2 := Lib.hid ho2; clear h2 ho2)
    | (go_at_call_of 10 (Value.int IntKind.i64 8); refine (open_any _ _ _ _ 1 5 8 HK.out _ H2.out).mono ?_; rintro e w3 ⟨rfl, h3, ho3⟩; rw [wk_open.2.2.1]; rw [wk_open.2.2.2] at h3; have H3 := Lib.hid h3; have HO3 := Lib.hid ho3; clear h3 ho3)
    | (go_at_call 9; refine (renew_any _ _ _ _ 1 5 _ H3.out).mono ?_; rintro e w4 ⟨rfl, h4, ho4, _⟩; rw [wk_renew.1]; rw [wk_renew.2] at h4; have H4 := Lib.hid h4; have HO4 := Lib.hid ho4; clear h4 ho4)
    | (go_at_call 13; refine (of_any _ _ _ _ 1 5 HK.out _ H4.out).mono ?_; rintro e w5 ⟨rfl, rfl⟩; rw [wk_of.1, wk_of.2])
    | (go_at_call_of 12 (Value.int IntKind.i64 5); refine (expire_any _ _ _ _ 5 _ H4.out).mono ?_; rintro e w6 ⟨v6, rfl, hr6, h6, ho6⟩; rw [wk_exp5.1] at hr6; rw [wk_exp5.2] at h6; obtain ⟨oa6, cap6, rfl, _⟩ := hr6.form; have H6 := Lib.hid h6; have HO6 := Lib.hid ho6; clear h6 ho6 hr6)
    | (go_at_call_of 12 (Value.int IntKind.i64 6); refine (expire_any _ _ _ _ 6 _ H6.out).mono ?_; rintro e w7 ⟨v7, rfl, hr7, h7, ho7⟩; rw [wk_exp6.1] at hr7; rw [wk_exp6.2] at h7; obtain ⟨oa7, cap7, rfl, _⟩ := hr7.form; obtain ⟨a7, rfl, d1⟩ := ha_at0 (hr7.pts ha_len (by omega)); simp only at d1; have H7 := Lib.hid h7; have HO7 := Lib.hid ho7; clear h7 ho7 hr7)
    | (go_at_call 16; refine (count_any _ _ _ _ 1 _ H7.out).mono ?_; rintro e w8 ⟨rfl, hb8⟩; have HB8 := Lib.hid hb8; clear hb8))
  go_ret
  have s1 := HB1.out.size
  have b2 := HB1.out.trans (HO2.out.below (Nat.le_refl _) s1)
  have b3 := b2.trans (HO3.out.below (Nat.le_refl _) b2.size)
  have b4 := b3.trans (HO4.out.below (by omega) b3.size)
  have b6 := b4.trans (HO6.out.below (Nat.le_refl _) b4.size)
  have b7 := b6.trans (HO7.out.below (Nat.le_refl _) b6.size)
  exact ⟨rfl, bstep b7 HB8.out⟩
end Go.Proofs.Ytjfdbcmmmoipcaa.HanW
