/- The closure of All: which of two handles is ahead. -/
import Derived.Test.YtjfdbcmmmoipcaaHanOr
import Derived.StillTailTactics
namespace Go.Proofs.Ytjfdbcmmmoipcaa.HanW
open Go.RowKit Go.Shelf Go.Lib Go.Sort
set_option linter.constructorNameAsVariable false in
set_option maxHeartbeats 2000000 in
theorem closure (x y : HanP.Ha) (W : World) : Calls Try.prog 28 #[.agg #[.int .i64 x.c, .int .i64 x.n, .int .i64 x.i], .agg #[.int .i64 y.c, .int .i64 y.n, .int .i64 y.i]] W fun e w' => e = .returned (.int .i64 (cfK x y)) ∧ ∃ q os', w' = grow (W.drewN q) os' := by
  have HA := fun W' => Try.cmp_Compare_int x.c y.c W'
  have HB := fun W' => Try.cmp_Compare_int x.n y.n W'
  have HE : Hid (cfK x y = orI (Lib.compareInt x.c y.c) (Lib.compareInt x.n y.n)) := Lib.hid rfl
  generalize Lib.compareInt x.c y.c = r at HA HE
  generalize Lib.compareInt x.n y.n = s at HB HE
  generalize cfK x y = t at HE ⊢
  go_enter Try.func28, Try.ntmps28
  go_wp2_with fail
  refine wp_region_still_tail 10 (by kernel_rfl) (by kernel_rfl) ?_
  change wpStill _ _ (World.drew _) (fun a' => wpList _ _ _ _ a' (World.drew _)) _ _
  simp only [List.take_succ_cons, List.take_zero, List.drop_succ_cons, List.drop_zero]
  repeat still_step
  still_call (HA _)
  repeat still_step
  still_call (HB _)
  repeat still_step
  refine wpStill_nil ?_
  go_wp2_with (go_at_call 29; refine (or_two _ _ _ r s _ (by go_simp) (by go_simp)).mono ?_; rintro e w' ⟨rfl, rfl⟩)
  go_ret
  exact ⟨ret_int HE.out.symm, 1, _, by simp only [alloc_eq_grow, grow_grow]; rfl⟩
end Go.Proofs.Ytjfdbcmmmoipcaa.HanW
