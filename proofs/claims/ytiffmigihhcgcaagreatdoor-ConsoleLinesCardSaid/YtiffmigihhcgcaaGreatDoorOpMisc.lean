/- Several texts in one, of what this seat needs. -/
import Derived.Test.YtiffmigihhcgcaaGreatDoorOpSt
namespace Go.Proofs.YtiffmigihhcgcaaGreatDoor.OpW
set_option maxRecDepth 100000
open Go.RowKit OpP
theorem alloc_size (w : World) (o : Obj) : (w.alloc o).heap.size = w.heap.size + 1 := by simp
theorem two_new' (w : World) (o p : Obj) : Below w.heap.size w ((w.alloc o).alloc p) := bstep (below_alloc w o) (below_alloc _ p)
theorem below_setRow {B g : Nat} {w w' : World} (h : Below B w w') (hg : B ≤ g) (cs : Array Value) : Below B w (w'.setRow g cs) :=
  ⟨h.os, h.tape, h.output, by unfold World.setRow; simpa using h.size, fun k hk => by rw [← h.block k hk]; exact setRow_other _ _ _ _ (by omega)⟩
theorem setRow_only (w : World) (g : Nat) (cs : Array Value) : Only g w (w.setRow g cs) := ⟨rfl, rfl, rfl, by rw [setRow_size]; exact Nat.le_refl _, fun k _ hne => setRow_other w g k cs (fun e => hne (by rw [e]))⟩
theorem own_base {w : World} {base size n c : Nat} {e : TypeId} {oa : Option Addr} {xs : List Value} (h : w.ownsRow base e size (.slice oa n c) n xs) : (∀ a, oa = some a → base ≤ a.block ∧ a.block < w.heap.size) ∧ (oa = none → n = 0 ∧ c = 0) := by
  rcases h.2 with ⟨e, h0⟩ | ⟨g, cap, cur, e, h1, h2, _⟩
  · simp only [Value.slice.injEq] at e
    obtain ⟨rfl, _, rfl⟩ := e
    exact ⟨fun a ha => (by cases ha), fun _ => ⟨h0, rfl⟩⟩
  · simp only [Value.slice.injEq] at e
    obtain ⟨rfl, _, rfl⟩ := e
    refine ⟨fun a ha => ?_, fun ha => (by cases ha)⟩
    injection ha with ha
    subst ha
    exact ⟨h1, lt_of_block h2⟩
theorem MvAt.only {w w' : World} {c : Nat} {oa : Option Addr} {l : List Mv} (h : MvAt w oa l) (k : Only c w w') (hne : ∀ a, oa = some a → a.block ≠ c) : MvAt w' oa l := (KAt.only h k (Nat.le_refl _) hne).mono k.size
theorem mv_own {w : World} {base n c : Nat} {oa : Option Addr} {l : List Mv} (h : w.ownsRow base 96 4 (.slice oa n c) n (l.flatMap encM)) (hn : n = l.length) : MvAt w oa l := by
  subst hn
  exact RowK.pts (T := 96) encM_len (by decide) h
/-- too large to be gone through? -/
def Small (r : Rec) : Prop := r.p.size ≤ 2000 ∧ r.t.size ≤ 2000 ∧ r.d.size ≤ 5000 ∧ r.m.length ≤ 100
def largeB (r : Rec) : Bool := decide (2000 < (r.p.size : Int)) || decide (2000 < (r.t.size : Int)) || decide (5000 < (r.d.size : Int)) || decide (100 < (r.m.length : Int))
theorem large_not {r : Rec} (h : largeB r = false) : Small r := by
  unfold largeB at h
  simp only [Bool.or_eq_false_iff, decide_eq_false_iff_not] at h
  unfold Small; omega
set_option maxHeartbeats 800000 in
theorem large_any (r : Rec) (oa : Option Addr) (n c : Nat) (hn : n = r.m.length) (w : World) :
    Calls Tryz.prog 18 #[.agg #[.int .i64 r.cl, .int .i64 r.sq, .int .i64 r.k, .string r.p, .string r.t, .int .i64 r.sz, .int .i64 r.h, .int .i64 r.o, .string r.d, .int .i64 r.tk, .int .i64 r.i, .slice oa n c]] w fun e w' => e = .returned (.bool (largeB r)) ∧ Below w.heap.size w w' := by
  have H1 : Hid (2000 < (r.p.size : Int) → largeB r = true) := Lib.hid fun h => by unfold largeB; rw [decide_eq_true h]; rfl
  have H2 : Hid (2000 < (r.t.size : Int) → largeB r = true) := Lib.hid fun h => by unfold largeB; rw [decide_eq_true h, Bool.or_true]; rfl
  have H3 : Hid (5000 < (r.d.size : Int) → largeB r = true) := Lib.hid fun h => by unfold largeB; rw [decide_eq_true h, Bool.or_true]; rfl
  have H4 : Hid ((decide (2000 < (r.p.size : Int)) || decide (2000 < (r.t.size : Int)) || decide (5000 < (r.d.size : Int)) || decide (100 < (n : Int))) = largeB r) := Lib.hid (by rw [hn]; rfl)
  clear hn
  go_enter Tryz.func18, Tryz.ntmps18
  go_wp2_with fail
  all_goals go_ret
  · exact ⟨ret_bool H4.out, below_alloc w _⟩
  · exact ⟨ret_bool (H3.out (by assumption)).symm, below_alloc w _⟩
  · exact ⟨ret_bool (H2.out (by assumption)).symm, below_alloc w _⟩
  · exact ⟨ret_bool (H1.out (by assumption)).symm, below_alloc w _⟩
theorem large_is (r : Rec) (oa : Option Addr) (n c : Nat) (b : Bool) (hb : largeB r = b) (hn : n = r.m.length) (w : World) :
    Calls Tryz.prog 18 #[.agg #[.int .i64 r.cl, .int .i64 r.sq, .int .i64 r.k, .string r.p, .string r.t, .int .i64 r.sz, .int .i64 r.h, .int .i64 r.o, .string r.d, .int .i64 r.tk, .int .i64 r.i, .slice oa n c]] w fun e w' => e = .returned (.bool b) ∧ Below w.heap.size w w' := by
  rw [← hb]; exact large_any r oa n c hn w
end Go.Proofs.YtiffmigihhcgcaaGreatDoor.OpW
