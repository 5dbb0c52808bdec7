/- extent: whole, one, joins; the same of the reference. -/
import Derived.Test.YtappgelpigoknaaExtPlain
import Derived.Test.YtappgelpigoknaaFrame
namespace Go.Proofs.Ytappgelpigoknaa.ExtW
open Go.RowKit
set_option maxHeartbeats 400000 in
theorem whole_any (a n m : Int) (hm : m = 8192 ∨ m = 1024) (w : World) :
    Calls Try.prog 58 #[.int .i64 a, .int .i64 n, .int .i64 m] w fun e w' => e = .returned (.bool (decide (Whole a n m))) ∧ w = w' := by
  have key : ∀ b : Bool, (decide (Whole a n m)) = b → Calls Try.prog 58 #[.int .i64 a, .int .i64 n, .int .i64 m] w fun e w' => e = .returned (.bool b) ∧ w = w' := by
    intro b hb
    by_cases h1 : 0 ≤ a
    · by_cases h2 : 1 ≤ n
      · by_cases h3 : n ≤ m
        · have h5 : IntKind.i64.wrap (m - n) = m - n := IntWalk.i64_in (m - n) (by omega)
          by_cases h4 : a ≤ m - n
          · obtain rfl : b = true := by rw [← hb]; exact decide_eq_true ⟨h1, h2, h3, h4⟩
            clear hb
            go_enter Try.func58, Try.ntmps58
            go_wp2
            go_ret
            exact ⟨rfl, rfl⟩
          · obtain rfl : b = false := by rw [← hb]; exact decide_eq_false fun h => h4 h.2.2.2
            clear hb
            go_enter Try.func58, Try.ntmps58
            go_wp2
            go_ret
            exact ⟨rfl, rfl⟩
        · obtain rfl : b = false := by rw [← hb]; exact decide_eq_false fun h => h3 h.2.2.1
          clear hb
          go_enter Try.func58, Try.ntmps58
          go_wp2
          go_ret
          exact ⟨rfl, rfl⟩
      · obtain rfl : b = false := by rw [← hb]; exact decide_eq_false fun h => h2 h.2.1
        clear hb
        go_enter Try.func58, Try.ntmps58
        go_wp2
        go_ret
        exact ⟨rfl, rfl⟩
    · obtain rfl : b = false := by rw [← hb]; exact decide_eq_false fun h => h1 h.1
      clear hb
      go_enter Try.func58, Try.ntmps58
      go_wp2
      go_ret
      exact ⟨rfl, rfl⟩
  exact key _ rfl
/-- a part as a value -/
def Pt.v (x : Pt) : Value := .agg #[.int .i64 x.o, .int .i64 x.n, .int .i64 x.a, .int .i64 x.f]
theorem whole_is (a n m : Int) (b : Bool) (hm : m = 8192 ∨ m = 1024) (hb : decide (Whole a n m) = b) (w : World) :
    Calls Try.prog 58 #[.int .i64 a, .int .i64 n, .int .i64 m] w fun e w' => e = .returned (.bool b) ∧ w = w' := by
  rw [← hb]; exact whole_any a n m hm w
set_option maxHeartbeats 400000 in
theorem one_any (x : Pt) (w : World) :
    Calls Try.prog 49 #[x.v] w fun e w' => e = .returned (.bool (decide (One x))) ∧ Below w.heap.size w w' := by
  obtain ⟨o, n, a, f⟩ := x
  have key : ∀ b : Bool, (decide (One ⟨o, n, a, f⟩)) = b → Calls Try.prog 49 #[.agg #[.int .i64 o, .int .i64 n, .int .i64 a, .int .i64 f]] w fun e w' => e = .returned (.bool b) ∧ Below w.heap.size w w' := by
    intro b hb
    cases h1 : decide (Whole o n 8192) with
    | false =>
      obtain rfl : b = false := by rw [← hb]; exact decide_eq_false fun h => absurd h.1 (of_decide_eq_false h1)
      have H1 := Lib.hid h1
      clear hb h1
      go_enter Try.func49, Try.ntmps49
      go_wp2_with (go_at_call_of 58 (Value.int IntKind.i64 8192); refine (whole_is _ _ _ _ (.inl rfl) H1.out _).mono ?_; rintro e w' ⟨rfl, rfl⟩)
      go_ret
      exact ⟨rfl, below_alloc w _⟩
    | true =>
      cases h2 : decide (Whole f n 1024) with
      | false =>
        obtain rfl : b = false := by rw [← hb]; exact decide_eq_false fun h => absurd h.2.1 (of_decide_eq_false h2)
        have H1 := Lib.hid h1
        have H2 := Lib.hid h2
        clear hb h1 h2
        go_enter Try.func49, Try.ntmps49
        go_wp2_with (first
          | (go_at_call_of 58 (Value.int IntKind.i64 8192); refine (whole_is _ _ _ _ (.inl rfl) H1.out _).mono ?_; rintro e w' ⟨rfl, rfl⟩)
          | (go_at_call_of 58 (Value.int IntKind.i64 1024); refine (whole_is _ _ _ _ (.inr rfl) H2.out _).mono ?_; rintro e w' ⟨rfl, rfl⟩))
        go_ret
        exact ⟨rfl, below_alloc w _⟩
      | true =>
        by_cases h3 : 0 ≤ a
        · by_cases h4 : a < 16384
          · obtain rfl : b = true := by rw [← hb]; exact decide_eq_true ⟨of_decide_eq_true h1, of_decide_eq_true h2, h3, h4⟩
            have H1 := Lib.hid h1
            have H2 := Lib.hid h2
            clear hb h1 h2
            go_enter Try.func49, Try.ntmps49
            go_wp2_with (first
              | (go_at_call_of 58 (Value.int IntKind.i64 8192); refine (whole_is _ _ _ _ (.inl rfl) H1.out _).mono ?_; rintro e w' ⟨rfl, rfl⟩)
              | (go_at_call_of 58 (Value.int IntKind.i64 1024); refine (whole_is _ _ _ _ (.inr rfl) H2.out _).mono ?_; rintro e w' ⟨rfl, rfl⟩))
            go_ret
            exact ⟨rfl, below_alloc w _⟩
          · obtain rfl : b = false := by rw [← hb]; exact decide_eq_false fun h => h4 h.2.2.2
            have h4' : decide (a < 16384) = false := decide_eq_false h4
            have H1 := Lib.hid h1
            have H2 := Lib.hid h2
            clear hb h1 h2
            go_enter Try.func49, Try.ntmps49
            go_wp2_with (first
              | (go_at_call_of 58 (Value.int IntKind.i64 8192); refine (whole_is _ _ _ _ (.inl rfl) H1.out _).mono ?_; rintro e w' ⟨rfl, rfl⟩)
              | (go_at_call_of 58 (Value.int IntKind.i64 1024); refine (whole_is _ _ _ _ (.inr rfl) H2.out _).mono ?_; rintro e w' ⟨rfl, rfl⟩))
            go_ret
            exact ⟨rfl, below_alloc w _⟩
        · obtain rfl : b = false := by rw [← hb]; exact decide_eq_false fun h => h3 h.2.2.1
          have H1 := Lib.hid h1
          have H2 := Lib.hid h2
          clear hb h1 h2
          go_enter Try.func49, Try.ntmps49
          go_wp2_with (first
            | (go_at_call_of 58 (Value.int IntKind.i64 8192); refine (whole_is _ _ _ _ (.inl rfl) H1.out _).mono ?_; rintro e w' ⟨rfl, rfl⟩)
            | (go_at_call_of 58 (Value.int IntKind.i64 1024); refine (whole_is _ _ _ _ (.inr rfl) H2.out _).mono ?_; rintro e w' ⟨rfl, rfl⟩))
          go_ret
          exact ⟨rfl, below_alloc w _⟩
  exact key _ rfl
set_option maxHeartbeats 400000 in
theorem joins_any (p x : Pt) (h1 : -1000000 ≤ p.o ∧ p.o ≤ 1000000) (h2 : -1000000 ≤ p.n ∧ p.n ≤ 1000000) (h3 : -1000000 ≤ p.f ∧ p.f ≤ 1000000) (w : World) :
    Calls Try.prog 64 #[p.v, x.v] w fun e w' => e = .returned (.bool (decide (Joins p x))) ∧ Below w.heap.size w w' := by
  obtain ⟨o, n, a, f⟩ := p
  obtain ⟨o2, n2, a2, f2⟩ := x
  have key : ∀ b : Bool, (decide (Joins ⟨o, n, a, f⟩ ⟨o2, n2, a2, f2⟩)) = b → Calls Try.prog 64 #[.agg #[.int .i64 o, .int .i64 n, .int .i64 a, .int .i64 f], .agg #[.int .i64 o2, .int .i64 n2, .int .i64 a2, .int .i64 f2]] w fun e w' => e = .returned (.bool b) ∧ Below w.heap.size w w' := by
    intro b hb
    have h4 : IntKind.i64.wrap (o + n) = o + n := IntWalk.i64_in (o + n) (by simp only at h1 h2 h3; omega)
    have h5 : IntKind.i64.wrap (f + n) = f + n := IntWalk.i64_in (f + n) (by simp only at h1 h2 h3; omega)
    clear h1 h2 h3
    by_cases g1 : o + n = o2
    · have g1' : (o + n == o2) = true := by rw [beq_iff_eq]; exact g1
      by_cases g2 : a = a2
      · have g2' : (a == a2) = true := by rw [beq_iff_eq]; exact g2
        by_cases g3 : f + n = f2
        · have g3' : (f + n == f2) = true := by rw [beq_iff_eq]; exact g3
          obtain rfl : b = true := by rw [← hb]; exact decide_eq_true ⟨g1, g2, g3⟩
          clear hb g1 g2 g3
          go_enter Try.func64, Try.ntmps64
          go_wp2
          go_ret
          exact ⟨rfl, (below_alloc w _).trans ((below_alloc (w.alloc _) _).mono (by simp))⟩
        · have g3' : (f + n == f2) = false := by rw [beq_eq_false_iff_ne]; exact g3
          obtain rfl : b = false := by rw [← hb]; exact decide_eq_false fun h => g3 h.2.2
          clear hb g1 g2 g3
          go_enter Try.func64, Try.ntmps64
          go_wp2
          go_ret
          exact ⟨rfl, (below_alloc w _).trans ((below_alloc (w.alloc _) _).mono (by simp))⟩
      · have g2' : (a == a2) = false := by rw [beq_eq_false_iff_ne]; exact g2
        obtain rfl : b = false := by rw [← hb]; exact decide_eq_false fun h => g2 h.2.1
        clear hb g1 g2
        go_enter Try.func64, Try.ntmps64
        go_wp2
        go_ret
        exact ⟨rfl, (below_alloc w _).trans ((below_alloc (w.alloc _) _).mono (by simp))⟩
    · have g1' : (o + n == o2) = false := by rw [beq_eq_false_iff_ne]; exact g1
      obtain rfl : b = false := by rw [← hb]; exact decide_eq_false fun h => g1 h.1
      clear hb g1
      go_enter Try.func64, Try.ntmps64
      go_wp2
      go_ret
      exact ⟨rfl, (below_alloc w _).trans ((below_alloc (w.alloc _) _).mono (by simp))⟩
  exact key _ rfl
end Go.Proofs.Ytappgelpigoknaa.ExtW
