/- cmp.Or at two numbers; the closure of All. -/
import Derived.Test.YtjfdbcmmmoipcaaShelf
import Derived.Test.YtjfdbcmmmoipcaaHanPlain
import Derived.Test.YtjfdbcmmmoipcaaFrame
import Derived.Shelf.SlSortCmp.WholeK
namespace Go.Proofs.Ytjfdbcmmmoipcaa.HanW
open Go.RowKit Go.Shelf Go.Lib Go.Sort
def orI (x y : Int) : Int := if x = 0 then y else x
set_option maxHeartbeats 400000 in
theorem or_two (b o cap : Nat) (x y : Int) (w : World) (h0 : w.cell? ⟨b, o, none⟩ = some (.int .i64 x)) (h1 : w.cell? ⟨b, o + 1, none⟩ = some (.int .i64 y)) :
    Calls Try.prog 29 #[.slice (some ⟨b, o, none⟩) 2 cap] w fun e w' => e = .returned (.int .i64 (orI x y)) ∧ w = w' := by
  go_enter Try.func29, Try.ntmps29
  go_wp2
  go_loop [8] (fun i => i = .int .i64 0 ∨ (i = .int .i64 1 ∧ x = 0) ∨ (i = .int .i64 2 ∧ x = 0 ∧ y = 0)) (fun i => 2 - (intOf i).toNat)
  case atStart => exact .inl rfl
  case round =>
    rcases hrel with rfl | ⟨rfl, hx⟩ | ⟨rfl, hx, hy⟩
    · by_cases hx : x = 0
      · have hz : (x == 0) = true := by simp [hx]
        go_wp2
        go_round
        case rel => exact .inr (.inl ⟨by go_num, hx⟩)
        case measure => simp [intOf]
      · have hz : (x == 0) = false := by simp [hx]
        go_wp2
        go_ret
        exact ⟨ret_int (by simp [orI, hx]), rfl⟩
    · by_cases hy : y = 0
      · have hz : (y == 0) = true := by simp [hy]
        go_wp2
        go_round
        case rel => exact .inr (.inr ⟨by go_num, hx, hy⟩)
        case measure => simp [intOf]
      · have hz : (y == 0) = false := by simp [hy]
        go_wp2
        go_ret
        exact ⟨ret_int (by simp [orI]), rfl⟩
    · go_wp2
      go_ret
      exact ⟨ret_int (by simp [orI]), rfl⟩
/-- which of two handles is ahead -/
def cfK (a b : HanP.Ha) : Int := orI (Lib.compareInt a.c b.c) (Lib.compareInt a.n b.n)
def encHa (a : HanP.Ha) : List Value := [.int .i64 a.c, .int .i64 a.n, .int .i64 a.i]
theorem ltOf_cfK (a b : HanP.Ha) : ltOf cfK a b = decide (HanP.kl a.key b.key) := by
  have hc : ∀ x y : Int, (x < y ∧ Lib.compareInt x y = -1) ∨ (x = y ∧ Lib.compareInt x y = 0) ∨ (y < x ∧ Lib.compareInt x y = 1) := fun x y => by
    unfold Lib.compareInt
    rcases Int.lt_trichotomy x y with h | h | h
    · exact .inl ⟨h, by rw [if_pos h]⟩
    · exact .inr (.inl ⟨h, by rw [if_neg (by omega), if_neg (by omega)]⟩)
    · exact .inr (.inr ⟨h, by rw [if_neg (by omega), if_pos h]⟩)
  rw [Bool.eq_iff_iff, decide_eq_true_iff]
  unfold ltOf cfK orI HanP.kl HanP.Ha.key
  rw [decide_eq_true_iff]
  simp only
  rcases hc a.c b.c with ⟨h, e⟩ | ⟨h, e⟩ | ⟨h, e⟩ <;> rw [e]
  · rw [if_neg (by omega)]; omega
  · rw [if_pos rfl]
    rcases hc a.n b.n with ⟨h', e'⟩ | ⟨h', e'⟩ | ⟨h', e'⟩ <;> rw [e'] <;> omega
  · rw [if_neg (by omega)]; omega
theorem swoK : SWO (ltOf cfK) where
  irrefl a := by rw [ltOf_cfK]; simp [HanP.kl_irr]
  trans a b c h1 h2 := by rw [ltOf_cfK] at *; simp only [decide_eq_true_eq] at *; exact HanP.kl_trans h1 h2
  ntrans a b c h1 h2 := by rw [ltOf_cfK] at *; simp only [decide_eq_false_iff_not] at *; unfold HanP.kl HanP.Ha.key at *; simp only at *; omega
end Go.Proofs.Ytjfdbcmmmoipcaa.HanW
