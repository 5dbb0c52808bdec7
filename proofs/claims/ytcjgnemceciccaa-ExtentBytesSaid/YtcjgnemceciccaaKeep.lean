/- The helpers of the statements (escheatkeep). -/
import Derived.Test.YtcjgnemceciccaaBase
namespace Go.Proofs.Ytcjgnemceciccaa
open Go.RowKit
theorem mod_eq (k n : Int) : (k.tmod n + n) % n = k % n := by
  rw [Int.add_emod_right]
  have h := Int.mul_tdiv_add_tmod k n
  conv => rhs; rw [← h]
  rw [Int.add_comm (n * _), Int.add_mul_emod_self_left]
set_option maxHeartbeats 400000 in
theorem mod_any (k n : Int) (w : World) (h1 : 1 ≤ n) (h2 : n ≤ 4611686018427387904) :
    Calls Try.prog 26 #[.int .i64 k, .int .i64 n] w fun e w' => e = .returned (.int .i64 (k % n)) ∧ w = w' := by
  have hlt := Int.tmod_lt_of_pos k (b := n) (by omega)
  have hgt : -n < k.tmod n := by
    have h := Int.tmod_lt_of_pos (-k) (b := n) (by omega)
    rw [Int.neg_tmod] at h; omega
  have HM := Lib.hid (mod_eq k n)
  go_enter Try.func26, Try.ntmps26
  go_wp2
  go_ret
  exact ⟨ret_int HM.out, rfl⟩
end Go.Proofs.Ytcjgnemceciccaa
