/- The walks of ShiftBytes and ShiftFields. -/
import Derived.Test.YtlegggefgjlkbaaShiftLaw
namespace Go.Proofs.Ytlegggefgjlkbaa.ShiftW
open Go.RowKit

/-- an array's cell, and all that was there, behind a step more -/
def Kept (w : World) (i : Nat) (v : Value) (w' : World) : Prop := w'.cell? ⟨w.heap.size, i, none⟩ = some v ∧ Below w.heap.size w w' ∧ w.heap.size < w'.heap.size
theorem Kept.step {w a b : World} {i : Nat} {v : Value} (h : Kept w i v a) (k : Below a.heap.size a b) : Kept w i v b :=
  ⟨(k.cell (p := ⟨w.heap.size, i, none⟩) h.2.2).trans h.1, bstep h.2.1 k, Nat.lt_of_lt_of_le h.2.2 k.size⟩

def Kept2 (w : World) (u v : Value) (w' : World) : Prop := (w'.cell? ⟨w.heap.size, 0, none⟩ = some u ∧ w'.cell? ⟨w.heap.size, 1, none⟩ = some v) ∧ Below w.heap.size w w' ∧ w.heap.size < w'.heap.size
theorem Kept2.step {w a b : World} {u v : Value} (h : Kept2 w u v a) (k : Below a.heap.size a b) : Kept2 w u v b :=
  ⟨⟨(k.cell (p := ⟨w.heap.size, 0, none⟩) h.2.2).trans h.1.1, (k.cell (p := ⟨w.heap.size, 1, none⟩) h.2.2).trans h.1.2⟩, bstep h.2.1 k, Nat.lt_of_lt_of_le h.2.2 k.size⟩

set_option maxHeartbeats 1000000 in
theorem bytes_walk (v : Int) (hv : (Lit.int .u64 v).wf = true) (s : ByteArray) (hs : s.size ≤ maxLen) (x : Int) (_ : (Lit.int .i64 x).wf = true) (y : Int) (_ : (Lit.int .i64 y).wf = true) (w : World) :
    Calls Try.prog 3 #[.int .u64 v, .string s, .agg #[.int .i64 x, .int .i64 y]] w fun e w' => e = .returned (.bool true) ∧ Below w.heap.size w w' := by
  unfold maxLen at hs
  obtain ⟨v, hv2, rfl⟩ := u64_nat hv
  have HV := Lib.hid hv2
  clear hv hv2
  by_cases hl : 100000 < s.size
  · go_enter Try.func3, Try.ntmps3
    go_wp2_with (go_at_call 10; refine (wakes_any _).mono ?_; rintro e w' ⟨rfl, hb⟩)
    go_ret
    exact ⟨rfl, bstep (below_alloc w _) (by assumption)⟩
  · go_enter Try.func3, Try.ntmps3
    go_wp2_with (first
      | (go_at_call 11; refine (get_all _ _ _ (by omega) _).mono ?_; rintro e w' ⟨rfl, rfl⟩)
      | (go_at_call 12; refine (rget_all _ _ _ (by omega) _).mono ?_; rintro e w' ⟨rfl, rfl⟩))
    go_region_held3 (fun w' => w'.cell? ⟨w.heap.size, 1, none⟩ = some (.int .i64 y) ∧ Below w.heap.size w w' ∧ w.heap.size < w'.heap.size)
      (first
        | (refine ⟨by simp, ?_, by simp⟩; exact (below_alloc w _).drew)
        | (go_split_ands; exact Kept.step ⟨by assumption, by assumption, by assumption⟩ (by assumption)))
      (first
        | (go_at_call 13; refine (put_any _ HV.out _ _).mono ?_; rintro e w1 ⟨rfl, hb1⟩)
        | (go_at_call 14; refine (rput_any _ HV.out _ _).mono ?_; rintro e w1 ⟨rfl, hb1⟩)
        | (go_at_call 10; refine (wakes_any _).mono ?_; rintro e w1 ⟨rfl, hb1⟩))
    go_wp2
    go_ret
    refine ⟨rfl, ?_⟩
    go_split_ands
    assumption

set_option maxHeartbeats 1000000 in
theorem fields_walk (v : Int) (hv : (Lit.int .u64 v).wf = true) (f : Int) (hf : (Lit.int .u64 f).wf = true) (x : Int) (_ : (Lit.int .i64 x).wf = true) (y : Int) (_ : (Lit.int .i64 y).wf = true) (w : World) :
    Calls Try.prog 7 #[.int .u64 v, .int .u64 f, .agg #[.int .i64 x, .int .i64 y]] w fun e w' => e = .returned (.bool true) ∧ Below w.heap.size w w' := by
  obtain ⟨v, hv2, rfl⟩ := u64_nat hv
  obtain ⟨f, hf2, rfl⟩ := u64_nat hf
  have HV := Lib.hid hv2
  have HF := Lib.hid hf2
  clear hv hv2 hf hf2
  go_enter Try.func7, Try.ntmps7
  go_wp2_with fail
  go_region_held3 (fun w' => (w'.cell? ⟨w.heap.size, 0, none⟩ = some (.int .i64 x) ∧ w'.cell? ⟨w.heap.size, 1, none⟩ = some (.int .i64 y)) ∧ Below w.heap.size w w' ∧ w.heap.size < w'.heap.size)
      (first
        | (refine ⟨by simp, ?_, by simp⟩; exact (below_alloc w _).drew)
        | (go_split_ands; exact Kept2.step ⟨⟨by assumption, by assumption⟩, by assumption, by assumption⟩ (by first | assumption | exact below_refl _)))
      (first
        | (go_at_call 24; refine (field_all _ HV.out _ _ _).mono ?_; rintro e w1 ⟨rfl, hb1⟩)
        | (go_at_call 25; refine (rfield_all _ HV.out _ _ _).mono ?_; rintro e w1 ⟨rfl, rfl⟩)
        | (go_at_call 26; refine (with_all _ HV.out _ _ _ HF.out _).mono ?_; rintro e w1 ⟨rfl, hb1⟩)
        | (go_at_call 27; refine (rwith_all _ HV.out _ _ _ HF.out _).mono ?_; rintro e w1 ⟨rfl, rfl⟩)
        | (go_at_call 10; refine (wakes_any _).mono ?_; rintro e w1 ⟨rfl, hb1⟩))
  go_wp2
  go_ret
  refine ⟨rfl, ?_⟩
  go_split_ands
  assumption
end Go.Proofs.Ytlegggefgjlkbaa.ShiftW
