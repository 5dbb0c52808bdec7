/- Small helpers on records: within, LargeOp, CopyOp. -/
import Derived.Test.YthnkpoagpjnopaaDoorOpSt
namespace Go.Proofs.YthnkpoagpjnopaaDoor.OpW
set_option maxRecDepth 100000
open Go.RowKit OpP
theorem alloc_size (w : World) (o : Obj) : (w.alloc o).heap.size = w.heap.size + 1 := by simp
theorem two_new' (w : World) (o p : Obj) : Below w.heap.size w ((w.alloc o).alloc p) := bstep (below_alloc w o) (below_alloc _ p)
theorem below_setRow {B g : Nat} {w w' : World} (h : Below B w w') (hg : B ≤ g) (cs : Array Value) : Below B w (w'.setRow g cs) :=
  ⟨h.os, h.tape, h.output, by unfold World.setRow; simpa using h.size, fun k hk => by rw [← h.block k hk]; exact setRow_other _ _ _ _ (by omega)⟩
theorem setRow_only (w : World) (g : Nat) (cs : Array Value) : Only g w (w.setRow g cs) := ⟨rfl, rfl, rfl, by rw [setRow_size]; exact Nat.le_refl _, fun k _ hne => setRow_other w g k cs (fun e => hne (by rw [e]))⟩
theorem own_base {w : World} {base size n c : Nat} {e : TypeId} {oa : Option Addr} {xs : List Value} (h : w.ownsRow base e size (.slice oa n c) n xs) : (∀ a, oa = some a → base ≤ a.block ∧ a.block < w.heap.size) ∧ (oa = none → n = 0 ∧ c = 0) := by
  rcases h.2 with ⟨e, h0⟩ | ⟨g, cap, cur, e, h1, h2, _⟩
  · simp only [Value.slice.injEq] at e
    obtain ⟨rfl, _, rfl⟩ := e
    exact ⟨fun a ha => (by cases ha), fun _ => ⟨h0, rfl⟩⟩
  · simp only [Value.slice.injEq] at e
    obtain ⟨rfl, _, rfl⟩ := e
    refine ⟨fun a ha => ?_, fun ha => (by cases ha)⟩
    injection ha with ha
    subst ha
    exact ⟨h1, lt_of_block h2⟩
theorem MvAt.only {w w' : World} {c : Nat} {oa : Option Addr} {l : List Mv} (h : MvAt w oa l) (k : Only c w w') (hne : ∀ a, oa = some a → a.block ≠ c) : MvAt w' oa l := (KAt.only h k (Nat.le_refl _) hne).mono k.size
theorem mv_own {w : World} {base n c : Nat} {oa : Option Addr} {l : List Mv} (h : w.ownsRow base 69 4 (.slice oa n c) n (l.flatMap encM)) (hn : n = l.length) : MvAt w oa l := by
  subst hn
  exact RowK.pts (T := 69) encM_len (by decide) h
theorem within_any (n lo hi : Int) (w : World) : Calls Tryd.prog 43 #[.int .i64 n, .int .i64 lo, .int .i64 hi] w fun e w' => e = .returned (.bool (decide (lo ≤ n ∧ n ≤ hi))) ∧ w = w' := by
  by_cases h1 : lo ≤ n
  · by_cases h2 : n ≤ hi
    all_goals
      go_enter Tryd.func43, Tryd.ntmps43
      go_wp2_with fail
      go_ret
      first
        | exact ⟨ret_bool (decide_eq_true (by omega)).symm, rfl⟩
        | exact ⟨ret_bool (decide_eq_false (by omega)).symm, rfl⟩
  · go_enter Tryd.func43, Tryd.ntmps43
    go_wp2_with fail
    go_ret
    exact ⟨ret_bool (by rw [decide_eq_false (show ¬ lo ≤ n by omega)]; rfl), rfl⟩
theorem within_is (n lo hi : Int) (b : Bool) (hb : decide (lo ≤ n ∧ n ≤ hi) = b) (w : World) : Calls Tryd.prog 43 #[.int .i64 n, .int .i64 lo, .int .i64 hi] w fun e w' => e = .returned (.bool b) ∧ w = w' := by
  rw [← hb]; exact within_any n lo hi w
theorem in_any (n lo hi : Int) (w : World) : Calls Tryd.prog 47 #[.int .i64 n, .int .i64 lo, .int .i64 hi] w fun e w' => e = .returned (.bool (decide (lo ≤ n ∧ n ≤ hi))) ∧ w = w' := by
  by_cases h1 : lo ≤ n
  · by_cases h2 : n ≤ hi
    all_goals
      go_enter Tryd.func47, Tryd.ntmps47
      go_wp2_with fail
      go_ret
      first
        | exact ⟨ret_bool (decide_eq_true (by omega)).symm, rfl⟩
        | exact ⟨ret_bool (decide_eq_false (by omega)).symm, rfl⟩
  · go_enter Tryd.func47, Tryd.ntmps47
    go_wp2_with fail
    go_ret
    exact ⟨ret_bool (by rw [decide_eq_false (show ¬ lo ≤ n by omega)]; rfl), rfl⟩
theorem in_is (n lo hi : Int) (b : Bool) (hb : decide (lo ≤ n ∧ n ≤ hi) = b) (w : World) : Calls Tryd.prog 47 #[.int .i64 n, .int .i64 lo, .int .i64 hi] w fun e w' => e = .returned (.bool b) ∧ w = w' := by
  rw [← hb]; exact in_any n lo hi w
theorem known_any (k : Int) (w : World) : Calls Tryd.prog 42 #[.int .i64 k] w fun e w' => e = .returned (.bool (decide (1 ≤ k) && decide (k ≤ 14))) ∧ w = w' := by
  by_cases h1 : 0 < k
  · by_cases h2 : k < 15
    all_goals
      go_enter Tryd.func42, Tryd.ntmps42
      go_wp2_with fail
      go_ret
      refine ⟨ret_bool ?_, rfl⟩
      first
        | rw [decide_eq_true (show 1 ≤ k by omega), decide_eq_true (show k ≤ 14 by omega)]; rfl
        | rw [decide_eq_false (show ¬ k ≤ 14 by omega), Bool.and_false]
  · go_enter Tryd.func42, Tryd.ntmps42
    go_wp2_with fail
    go_ret
    exact ⟨ret_bool (by rw [decide_eq_false (show ¬ 1 ≤ k by omega)]; rfl), rfl⟩
theorem known_is (k : Int) (b : Bool) (hb : (decide (1 ≤ k) && decide (k ≤ 14)) = b) (w : World) : Calls Tryd.prog 42 #[.int .i64 k] w fun e w' => e = .returned (.bool b) ∧ w = w' := by
  rw [← hb]; exact known_any k w
/-- too large to be gone through? -/
def Small (r : Rec) : Prop := r.p.size ≤ 2000 ∧ r.t.size ≤ 2000 ∧ r.d.size ≤ 5000 ∧ r.m.length ≤ 100
def largeB (r : Rec) : Bool := decide (2000 < (r.p.size : Int)) || decide (2000 < (r.t.size : Int)) || decide (5000 < (r.d.size : Int)) || decide (100 < (r.m.length : Int))
theorem large_not {r : Rec} (h : largeB r = false) : Small r := by
  unfold largeB at h
  simp only [Bool.or_eq_false_iff, decide_eq_false_iff_not] at h
  unfold Small; omega
end Go.Proofs.YthnkpoagpjnopaaDoor.OpW
