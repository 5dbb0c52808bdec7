/- The end of parts, by the reference. -/
import Derived.Test.YtaaecdijbkkoiaaExtRef2
namespace Go.Proofs.Ytaaecdijbkkoiaa.ExtW
open Go.RowKit
set_option maxHeartbeats 800000 in
theorem rend_any (oa : Option Addr) (n cap : Nat) (l : List Pt) (hn : n = l.length) (hl : l.length ≤ 9223372036854775807) (w : World) (h : PtsAt w.heap.size oa l w) :
    Calls Try.prog 43 #[.slice oa n cap] w fun e w' => e = .returned (.int .i64 (endS l)) ∧ Below w.heap.size w w' := by
  subst hn
  have HP := Lib.hid h
  clear h
  by_cases hg : Good l
  · have HG : Hid (decide (Good l) = true) := Lib.hid (decide_eq_true hg)
    rcases snoc_cases l with rfl | ⟨l', x, rfl⟩
    · have HE : Hid (endS [] = 0) := Lib.hid (by unfold endS; rw [if_pos hg]; rfl)
      have HG2 := Lib.hid (rgood_is oa _ cap [] true HG.out rfl (by simp) w HP.out)
      have e0 : ([] : List Pt).length = 0 := rfl
      rw [e0] at HG2 ⊢
      clear hg hl e0
      go_enter Try.func43, Try.ntmps43
      go_wp2_with (go_at_call 42; refine HG2.out.mono ?_; rintro e w1 ⟨rfl, hb1⟩; have HB1 := Lib.hid hb1; clear hb1)
      go_ret
      exact ⟨by rw [HE.out]; rfl, HB1.out⟩
    · have HE : Hid (endS (l' ++ [x]) = x.o + x.n) := Lib.hid (by unfold endS; rw [if_pos hg, endL_snoc])
      have hxs := (chain_ones hg.2 x (by simp)).small
      have hl64 := hg.1
      have HG2 := Lib.hid (rgood_is oa _ cap (l' ++ [x]) true HG.out rfl (by omega) w HP.out)
      have HX : Hid ((l' ++ [x])[l'.length]? = some x) := Lib.hid (by simp)
      have hlen : (l' ++ [x]).length = l'.length + 1 := by simp
      generalize l' ++ [x] = L at *
      generalize hm : l'.length = m at *
      generalize hn : L.length = n at *
      have HN := Lib.hid hn
      have hz : ((n : Int) == 0) = false := by rw [beq_eq_false_iff_ne]; omega
      have hw : IntKind.i64.wrap ((n : Int) - 1) = (m : Int) := by rw [IntWalk.i64_in _ (by omega)]; omega
      have hw2 : IntKind.i64.wrap (x.o + x.n) = x.o + x.n := IntWalk.i64_in _ (by omega)
      have hm0 : (0 : Int) ≤ (m : Int) := by omega
      have hm1 : (m : Int) < (n : Int) := by omega
      have hm2 : m < n := by omega
      clear hg hl hlen hm hn
      go_enter Try.func43, Try.ntmps43
      go_wp2_with (go_at_call 42; refine HG2.out.mono ?_; rintro e w1 ⟨rfl, hb1⟩; have HB1 := Lib.hid hb1; obtain ⟨a, rfl, hab, c0, c1, c2, c3⟩ := (HP.out.grow hb1) m x HX.out; clear hb1)
      go_ret
      exact ⟨by rw [HE.out]; rfl, bstep HB1.out (below_alloc w1 _)⟩
  · have HG : Hid (decide (Good l) = false) := Lib.hid (decide_eq_false hg)
    have HE : Hid (endS l = 0) := Lib.hid (if_neg hg)
    clear hg
    go_enter Try.func43, Try.ntmps43
    go_wp2_with (go_at_call 42; refine (rgood_is _ _ _ _ _ HG.out rfl hl _ HP.out).mono ?_; rintro e w1 ⟨rfl, hb1⟩; have HB1 := Lib.hid hb1; clear hb1)
    go_ret
    exact ⟨by rw [HE.out]; rfl, HB1.out⟩
theorem rend_is (oa : Option Addr) (n cap : Nat) (l : List Pt) (r : Int) (hr : endS l = r) (hn : n = l.length) (hl : l.length ≤ 9223372036854775807) (w : World) (h : PtsAt w.heap.size oa l w) :
    Calls Try.prog 43 #[.slice oa n cap] w fun e w' => e = .returned (.int .i64 r) ∧ Below w.heap.size w w' := by
  rw [← hr]; exact rend_any oa n cap l hn hl w h
end Go.Proofs.Ytaaecdijbkkoiaa.ExtW
