/- The reference's one, few. -/
import Derived.Test.YtappgelpigoknaaExtEnd
namespace Go.Proofs.Ytappgelpigoknaa.ExtW
open Go.RowKit
set_option maxHeartbeats 1600000 in
theorem rone_any (x : Pt) (w : World) :
    Calls Try.prog 66 #[.agg #[.int .i64 x.o, .int .i64 x.n, .int .i64 x.a, .int .i64 x.f]] w fun e w' => e = .returned (.bool (decide (One x))) ∧ Below w.heap.size w w' := by
  obtain ⟨o, n, a, f⟩ := x
  have key : ∀ b : Bool, (decide (One ⟨o, n, a, f⟩)) = b → Calls Try.prog 66 #[.agg #[.int .i64 o, .int .i64 n, .int .i64 a, .int .i64 f]] w fun e w' => e = .returned (.bool b) ∧ Below w.heap.size w w' := by
    intro b hb
    by_cases h0 : 0 ≤ o
    · by_cases h1 : o ≤ 8192
      · by_cases h2 : 1 ≤ n
        · by_cases h3 : n ≤ 8192
          · have hw4 : IntKind.i64.wrap (o + n) = o + n := IntWalk.i64_in _ (by omega)
            by_cases h4 : o + n ≤ 8192
            · by_cases h5 : 0 ≤ a
              · by_cases h6 : a < 16384
                · by_cases h7 : 0 ≤ f
                  · by_cases h8 : f ≤ 1024
                    · by_cases h9 : n ≤ 1024
                      · have hw10 : IntKind.i64.wrap (f + n) = f + n := IntWalk.i64_in _ (by omega)
                        by_cases h10 : f + n ≤ 1024
                        · obtain rfl : b = true := by rw [← hb]; exact decide_eq_true (by unfold One Whole; simp only; omega)
                          clear hb
                          go_enter Try.func66, Try.ntmps66
                          go_wp2
                          go_ret
                          exact ⟨rfl, below_alloc w _⟩
                        · obtain rfl : b = false := by rw [← hb]; exact decide_eq_false fun h => h10 (by unfold One Whole at h; simp only at h; omega)
                          have d : decide (f + n ≤ 1024) = false := decide_eq_false h10
                          clear hb h10
                          go_enter Try.func66, Try.ntmps66
                          go_wp2
                          go_ret
                          exact ⟨rfl, below_alloc w _⟩
                      · obtain rfl : b = false := by rw [← hb]; exact decide_eq_false fun h => h9 (by unfold One Whole at h; simp only at h; omega)
                        have d : decide (n ≤ 1024) = false := decide_eq_false h9
                        clear hb h9
                        go_enter Try.func66, Try.ntmps66
                        go_wp2
                        go_ret
                        exact ⟨rfl, below_alloc w _⟩
                    · obtain rfl : b = false := by rw [← hb]; exact decide_eq_false fun h => h8 (by unfold One Whole at h; simp only at h; omega)
                      have d : decide (f ≤ 1024) = false := decide_eq_false h8
                      clear hb h8
                      go_enter Try.func66, Try.ntmps66
                      go_wp2
                      go_ret
                      exact ⟨rfl, below_alloc w _⟩
                  · obtain rfl : b = false := by rw [← hb]; exact decide_eq_false fun h => h7 (by unfold One Whole at h; simp only at h; omega)
                    have d : decide (0 ≤ f) = false := decide_eq_false h7
                    clear hb h7
                    go_enter Try.func66, Try.ntmps66
                    go_wp2
                    go_ret
                    exact ⟨rfl, below_alloc w _⟩
                · obtain rfl : b = false := by rw [← hb]; exact decide_eq_false fun h => h6 (by unfold One Whole at h; simp only at h; omega)
                  have d : decide (a < 16384) = false := decide_eq_false h6
                  clear hb h6
                  go_enter Try.func66, Try.ntmps66
                  go_wp2
                  go_ret
                  exact ⟨rfl, below_alloc w _⟩
              · obtain rfl : b = false := by rw [← hb]; exact decide_eq_false fun h => h5 (by unfold One Whole at h; simp only at h; omega)
                have d : decide (0 ≤ a) = false := decide_eq_false h5
                clear hb h5
                go_enter Try.func66, Try.ntmps66
                go_wp2
                go_ret
                exact ⟨rfl, below_alloc w _⟩
            · obtain rfl : b = false := by rw [← hb]; exact decide_eq_false fun h => h4 (by unfold One Whole at h; simp only at h; omega)
              have d : decide (o + n ≤ 8192) = false := decide_eq_false h4
              clear hb h4
              go_enter Try.func66, Try.ntmps66
              go_wp2
              go_ret
              exact ⟨rfl, below_alloc w _⟩
          · obtain rfl : b = false := by rw [← hb]; exact decide_eq_false fun h => h3 (by unfold One Whole at h; simp only at h; omega)
            have d : decide (n ≤ 8192) = false := decide_eq_false h3
            clear hb h3
            go_enter Try.func66, Try.ntmps66
            go_wp2
            go_ret
            exact ⟨rfl, below_alloc w _⟩
        · obtain rfl : b = false := by rw [← hb]; exact decide_eq_false fun h => h2 (by unfold One Whole at h; simp only at h; omega)
          have d : decide (1 ≤ n) = false := decide_eq_false h2
          clear hb h2
          go_enter Try.func66, Try.ntmps66
          go_wp2
          go_ret
          exact ⟨rfl, below_alloc w _⟩
      · obtain rfl : b = false := by rw [← hb]; exact decide_eq_false fun h => h1 (by unfold One Whole at h; simp only at h; omega)
        have d : decide (o ≤ 8192) = false := decide_eq_false h1
        clear hb h1
        go_enter Try.func66, Try.ntmps66
        go_wp2
        go_ret
        exact ⟨rfl, below_alloc w _⟩
    · obtain rfl : b = false := by rw [← hb]; exact decide_eq_false fun h => h0 (by unfold One Whole at h; simp only at h; omega)
      have d : decide (0 ≤ o) = false := decide_eq_false h0
      clear hb h0
      go_enter Try.func66, Try.ntmps66
      go_wp2
      go_ret
      exact ⟨rfl, below_alloc w _⟩
  exact key _ rfl
theorem rone_is (x : Pt) (b : Bool) (hb : decide (One x) = b) (w : World) :
    Calls Try.prog 66 #[.agg #[.int .i64 x.o, .int .i64 x.n, .int .i64 x.a, .int .i64 x.f]] w fun e w' => e = .returned (.bool b) ∧ Below w.heap.size w w' := by
  rw [← hb]; exact rone_any x w
set_option maxHeartbeats 400000 in
theorem rfew_any (B : Nat) (v : Value) (l : List Pt) (hl : l.length ≤ 100000) (w : World) (h : Row B w v l) :
    Calls Try.prog 68 #[v] w fun e w' => ∃ u, e = .returned (.tuple #[u, .int .i64 (fewE l)]) ∧ Row B w' u (fewL l) ∧ w = w' := by
  obtain ⟨oa, cap, rfl, _, _, _⟩ := h.form
  have HR := Lib.hid h
  clear h
  by_cases hm : l.length > 64
  · have HE : Hid (fewE l = 3 ∧ fewL l = []) := Lib.hid ⟨if_pos hm, if_pos hm⟩
    go_enter Try.func68, Try.ntmps68
    go_wp2_with fail
    go_ret2
    exact ⟨.slice none 0 0, by rw [HE.out.1]; rfl, by rw [HE.out.2]; exact Row.nil _ _, rfl⟩
  · have HE : Hid (fewE l = 0 ∧ fewL l = l) := Lib.hid ⟨if_neg hm, if_neg hm⟩
    go_enter Try.func68, Try.ntmps68
    go_wp2_with fail
    go_ret2
    exact ⟨.slice oa l.length cap, by rw [HE.out.1]; rfl, by rw [HE.out.2]; exact HR.out, rfl⟩
end Go.Proofs.Ytappgelpigoknaa.ExtW
