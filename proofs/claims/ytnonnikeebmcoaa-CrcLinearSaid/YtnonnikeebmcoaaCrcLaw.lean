/- The walks of the laws of crc: each returns true. -/
import Derived.Test.YtnonnikeebmcoaaCrcWalk
import Derived.Test.YtnonnikeebmcoaaKeep
namespace Go.Proofs.Ytnonnikeebmcoaa.CrcW
open Go.RowKit
open CrcP (W)

theorem u_beq {x y : W} (h : x = y) : (u x == u y) = true := by rw [h]; simp
theorem u_bne {x y : W} (h : ¬ x = y) : (u x == u y) = false := by
  rw [beq_eq_false_iff_ne]; exact fun e => h (u_inj e)
theorem k1 : (u (CrcP.sum [49, 50, 51, 52, 53, 54, 55, 56, 57]) == 3421780262) = true := by decide +kernel
theorem k2 : (u (CrcP.more (CrcP.sum [49, 50, 51, 52]) [53, 54, 55, 56, 57]) == 3421780262) = true := by decide +kernel
theorem k3 : (u (CrcP.steps 40 (CrcP.sum [49, 50, 51, 52]) ^^^ CrcP.sum [53, 54, 55, 56, 57]) == 3421780262) = true := by decide +kernel

set_option maxHeartbeats 400000 in
theorem wakes_any (w : World) : Calls Try.prog 6 #[] w fun e w' => e = .returned (.bool true) ∧ Below w.heap.size w w' := by
  have h1 := k1
  have h2 := k2
  have h3 := k3
  go_enter Try.func6, Try.ntmps6
  go_wp2_with (first
    | (go_at_call 9; refine (sum_any _ _ (by decide)).mono ?_; rintro e w' ⟨rfl, rfl⟩)
    | (go_at_call 8; refine (more_any _ _ _ (by decide)).mono ?_; rintro e w' ⟨rfl, rfl⟩)
    | (go_at_call 10; refine (join_any _ _ 5 (by omega) _).mono ?_; rintro e w' ⟨rfl, hb⟩))
  go_ret
  exact ⟨rfl, by assumption⟩

theorem extract_parts (s : ByteArray) (k : Nat) : (s.extract 0 k).data.toList ++ (s.extract k s.size).data.toList = s.data.toList := by
  rw [Lib.extract_data, Lib.extract_to_end, List.drop_zero, Nat.sub_zero, List.take_append_drop]

set_option maxHeartbeats 400000 in
theorem joins_walk (s : ByteArray) (hs : s.size ≤ maxLen) (at_ : Int) (_ : (Lit.int .i64 at_).wf = true) (w : World) :
    Calls Try.prog 3 #[.string s, .int .i64 at_] w fun e w' => e = .returned (.bool true) ∧ Below w.heap.size w w' := by
  unfold maxLen at hs
  by_cases hl : s.size ≤ 100000
  · obtain ⟨k, hk, hk2⟩ : ∃ k : Nat, k ≤ s.size ∧ at_ % ((s.size : Int) + 1) = k := by
      have h1 := Int.emod_nonneg at_ (b := (s.size : Int) + 1) (by omega)
      have h2 := Int.emod_lt_of_pos at_ (b := (s.size : Int) + 1) (by omega)
      exact ⟨(at_ % ((s.size : Int) + 1)).toNat, by omega, by omega⟩
    have HK := Lib.hid hk2
    clear hk2
    go_enter Try.func3, Try.ntmps3
    go_wp2_with (go_at_call 7; refine (mod_any _ _ _ (by omega) (by omega)).mono ?_; rintro e w' ⟨rfl, rfl⟩; rw [HK.out])
    go_quiet (fail)
    go_wp2_with fail
    have hparts := extract_parts s k
    have hla : (s.extract 0 k).size ≤ s.size := by simp; omega
    have hlb : (s.extract k s.size).size ≤ s.size := by simp
    generalize s.extract 0 k = a at *
    generalize s.extract k s.size = b at *
    have e1 := u_beq (show CrcP.more (CrcP.sum a.data.toList) b.data.toList = CrcP.sum s.data.toList by rw [← hparts, CrcP.sum, CrcP.sum, CrcP.more_append])
    have e2 := u_beq (show CrcP.steps (8 * b.size) (CrcP.sum a.data.toList) ^^^ CrcP.sum b.data.toList = CrcP.sum s.data.toList by rw [← hparts, ← CrcP.join_law]; simp)
    have e3 := u_beq (show CrcP.more (CrcP.sum s.data.toList) [] = CrcP.sum s.data.toList from CrcP.more_nil _)
    clear hparts
    go_wp2_with (first
      | (go_at_call 9; refine (sum_any _ _ (by omega)).mono ?_; rintro e w' ⟨rfl, rfl⟩)
      | (go_at_call 8; refine (more_any _ _ _ (by first | omega | decide)).mono ?_; rintro e w' ⟨rfl, rfl⟩)
      | (go_at_call 10; refine (join_any _ _ _ (by omega) _).mono ?_; rintro e w' ⟨rfl, hb1⟩)
      | (go_at_call 6; refine (wakes_any _).mono ?_; rintro e w' ⟨rfl, hb2⟩))
    go_ret
    exact ⟨rfl, bstep (bstep (below_drawn w _) hb1) hb2⟩
  · go_enter Try.func3, Try.ntmps3
    go_wp2_with (go_at_call 6; refine (wakes_any _).mono ?_; rintro e w' ⟨rfl, hb⟩)
    go_ret
    exact ⟨rfl, by assumption⟩
end Go.Proofs.Ytnonnikeebmcoaa.CrcW
