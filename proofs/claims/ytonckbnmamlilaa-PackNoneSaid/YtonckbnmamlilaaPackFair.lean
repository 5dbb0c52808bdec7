/- The law's fields, and its test of them. -/
import Derived.Test.YtonckbnmamlilaaPackRText
namespace Go.Proofs.Ytonckbnmamlilaa.PackW
open Go.RowKit
/-- a field of the law: its size, its number, its text -/
structure Fd where
  size : Int
  v : Int
  s : ByteArray
/-- the fields of a slice lie in the world's cells, below B -/
def FdAt (B : Nat) (oa : Option Addr) (n : Nat) (f : Nat → Fd) (w : World) : Prop :=
  ∀ i, i < n → ∃ a, oa = some a ∧ a.block < B ∧ w.cell? (a.add (i * 3)) = some (.int .i64 (f i).size) ∧ w.cell? ⟨(a.add (i * 3)).block, (a.add (i * 3)).off + 1, none⟩ = some (.int .i64 (f i).v) ∧ w.cell? ⟨(a.add (i * 3)).block, (a.add (i * 3)).off + 2, none⟩ = some (.string (f i).s)
/-- the sum of the texts' lengths -/
def sumF (f : Nat → Fd) : Nat → Nat
  | 0 => 0
  | n + 1 => sumF f n + (f n).s.size
theorem sumF_le (f : Nat → Fd) {k n : Nat} (h : k ≤ n) : sumF f k ≤ sumF f n := by
  induction n with
  | zero => obtain rfl : k = 0 := by omega
            exact Nat.le_refl _
  | succ n ih =>
    by_cases hk : k = n + 1
    · subst hk; exact Nat.le_refl _
    · have := ih (by omega)
      rw [sumF]; omega
def Fair (f : Nat → Fd) (n : Nat) : Prop := (∀ i, i < n → (f i).s.size ≤ 70000) ∧ sumF f n ≤ 300000 ∧ n ≤ 200
instance (f : Nat → Fd) (n : Nat) : Decidable (Fair f n) := by unfold Fair; infer_instance
set_option maxHeartbeats 800000 in
theorem fair_any (B : Nat) (oa : Option Addr) (n cap : Nat) (f : Nat → Fd) (hn : n ≤ 9223372036854775807) (w : World) (h : FdAt B oa n f w) :
    Calls Try.prog 7 #[.slice oa n cap] w fun e w' => e = .returned (.bool (decide (Fair f n))) ∧ w = w' := by
  have HF := Lib.hid h
  clear h
  go_enter Try.func7, Try.ntmps7
  go_wp2_with fail
  go_loopw [3, 4] (fun x i wr => ∃ k : Nat, k ≤ n ∧ i = .int .i64 (k : Int) ∧ x = .int .i64 (sumF f k : Int) ∧ sumF f k ≤ 300000 ∧ (∀ j, j < k → (f j).s.size ≤ 70000) ∧ wr = w) (fun _ i _ => ((n : Int) - intOf i).toNat)
  case atStart => exact ⟨0, by omega, rfl, rfl, by simp [sumF], fun j hj => absurd hj (by omega), rfl⟩
  case round =>
    obtain ⟨k, hk, rfl, rfl, hsum, hall, rfl⟩ := hrel
    by_cases hlt : k < n
    · obtain ⟨a, rfl, hab, hc0, hc1, hc2⟩ := HF.out k hlt
      go_wp2
      · go_ret
        refine ⟨ret_bool (decide_eq_false ?_).symm, rfl⟩
        intro h
        have := h.1 k hlt
        omega
      · go_ret
        refine ⟨ret_bool (decide_eq_false ?_).symm, rfl⟩
        intro h
        have h1 := h.2.1
        have h2 : sumF f (k + 1) ≤ sumF f n := sumF_le f (by omega)
        have h3 : sumF f (k + 1) = sumF f k + (f k).s.size := rfl
        omega
      · refine ⟨⟨k + 1, by omega, rfl, ?_, ?_, ?_, trivial⟩, ?_⟩
        · simp [sumF]
        · simp only [sumF]; omega
        · intro j hj
          by_cases hjk : j = k
          · subst hjk; omega
          · exact hall j (by omega)
        · simp [intOf]; omega
    · have hkn : k = n := by omega
      subst hkn
      go_wp2
      go_ret
      refine ⟨ret_bool ?_, rfl⟩
      rw [decide_eq_decide]
      unfold Fair
      constructor
      · intro h; exact ⟨hall, hsum, by omega⟩
      · intro h; have := h.2.2; omega
theorem fair_yes (B : Nat) (oa : Option Addr) (n cap : Nat) (f : Nat → Fd) (hf : Fair f n) (w : World) (h : FdAt B oa n f w) :
    Calls Try.prog 7 #[.slice oa n cap] w fun e w' => e = .returned (.bool true) ∧ w = w' :=
  (fair_any B oa n cap f (by have := hf.2.2; omega) w h).mono fun e w' ⟨he, hw⟩ => ⟨by rw [he, decide_eq_true hf], hw⟩
theorem fair_no (B : Nat) (oa : Option Addr) (n cap : Nat) (f : Nat → Fd) (hn : n ≤ 9223372036854775807) (hf : ¬ Fair f n) (w : World) (h : FdAt B oa n f w) :
    Calls Try.prog 7 #[.slice oa n cap] w fun e w' => e = .returned (.bool false) ∧ w = w' :=
  (fair_any B oa n cap f hn w h).mono fun e w' ⟨he, hw⟩ => ⟨by rw [he, decide_eq_false hf], hw⟩
end Go.Proofs.Ytonckbnmamlilaa.PackW
