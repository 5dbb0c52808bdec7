/- LiveNone: of no table nothing counts. -/
import Derived.Test.YtaaecdijbkkoiaaLivWakes
namespace Go.Proofs.Ytaaecdijbkkoiaa.LivW
set_option maxRecDepth 100000
open Go.RowKit LivP InoP InoW ExtW
set_option maxHeartbeats 1600000 in
theorem none_walk (n : Int) (_hn : (Lit.int .i64 n).wf = true) (W : World) : Calls Try.prog 4 #[.int .i64 n] W fun e w' => e = .returned (.bool true) ∧ Below W.heap.size W w' := by
  have HO : Hid (oldE [] n = n) := Lib.hid rfl
  have HSG : Hid (segL n [] = []) := Lib.hid (by unfold segL; split <;> rfl)
  go_enter Try.func4, Try.ntmps4
  go_wp2_with (first
    | (go_at_call 8; refine (wakes_any _).mono ?_; rintro e w4 ⟨rfl, hb4⟩; have HB4 := Lib.hid hb4; clear hb4)
    | (go_at_call 10; refine (segs_any _ [] fine_nil n _ (fun W' _ => naddrs W')).mono ?_; rintro e w3 ⟨v3, rfl, hr3, hb3⟩; rw [HSG.out] at hr3; obtain ⟨o3, c3, rfl, _⟩ := hr3.form; simp only [List.length_nil]; have HB3 := Lib.hid hb3; clear hr3 hb3)
    | (go_at_call 11; refine (oldest_any _ [] n _ (naddrs _)).mono ?_; rintro e w2 ⟨rfl, hb2⟩; rw [HO.out]; have HB2 := Lib.hid hb2; clear hb2)
    | (go_at_call 9; refine (naddrs _).mono ?_; rintro e w1 ⟨v1, rfl, hr1, hb1⟩; obtain ⟨o1, c1, rfl, _⟩ := hr1.form; simp only [List.length_nil]; have HB1 := Lib.hid hb1; clear hr1 hb1))
  go_ret
  have b1 := HB1.out
  have b2 := b1.trans (HB2.out.mono b1.size)
  have b3 := b2.trans (HB3.out.mono b2.size)
  exact ⟨rfl, b3.trans (HB4.out.mono b3.size)⟩
end Go.Proofs.Ytaaecdijbkkoiaa.LivW
