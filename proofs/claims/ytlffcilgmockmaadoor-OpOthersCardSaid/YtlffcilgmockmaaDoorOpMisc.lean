/- Small helpers on records: within, LargeOp, CopyOp. -/
import Derived.Test.YtlffcilgmockmaaDoorOpSt
namespace Go.Proofs.YtlffcilgmockmaaDoor.OpW
set_option maxRecDepth 100000
open Go.RowKit OpP
theorem alloc_size (w : World) (o : Obj) : (w.alloc o).heap.size = w.heap.size + 1 := by simp
theorem two_new' (w : World) (o p : Obj) : Below w.heap.size w ((w.alloc o).alloc p) := bstep (below_alloc w o) (below_alloc _ p)
theorem below_setRow {B g : Nat} {w w' : World} (h : Below B w w') (hg : B ≤ g) (cs : Array Value) : Below B w (w'.setRow g cs) :=
  ⟨h.os, h.tape, h.output, by unfold World.setRow; simpa using h.size, fun k hk => by rw [← h.block k hk]; exact setRow_other _ _ _ _ (by omega)⟩
theorem setRow_only (w : World) (g : Nat) (cs : Array Value) : Only g w (w.setRow g cs) := ⟨rfl, rfl, rfl, by rw [setRow_size]; exact Nat.le_refl _, fun k _ hne => setRow_other w g k cs (fun e => hne (by rw [e]))⟩
theorem own_base {w : World} {base size n c : Nat} {e : TypeId} {oa : Option Addr} {xs : List Value} (h : w.ownsRow base e size (.slice oa n c) n xs) : (∀ a, oa = some a → base ≤ a.block ∧ a.block < w.heap.size) ∧ (oa = none → n = 0 ∧ c = 0) := by
  rcases h.2 with ⟨e, h0⟩ | ⟨g, cap, cur, e, h1, h2, _⟩
  · simp only [Value.slice.injEq] at e
    obtain ⟨rfl, _, rfl⟩ := e
    exact ⟨fun a ha => (by cases ha), fun _ => ⟨h0, rfl⟩⟩
  · simp only [Value.slice.injEq] at e
    obtain ⟨rfl, _, rfl⟩ := e
    refine ⟨fun a ha => ?_, fun ha => (by cases ha)⟩
    injection ha with ha
    subst ha
    exact ⟨h1, lt_of_block h2⟩
theorem MvAt.only {w w' : World} {c : Nat} {oa : Option Addr} {l : List Mv} (h : MvAt w oa l) (k : Only c w w') (hne : ∀ a, oa = some a → a.block ≠ c) : MvAt w' oa l := (KAt.only h k (Nat.le_refl _) hne).mono k.size
theorem mv_own {w : World} {base n c : Nat} {oa : Option Addr} {l : List Mv} (h : w.ownsRow base 51 4 (.slice oa n c) n (l.flatMap encM)) (hn : n = l.length) : MvAt w oa l := by
  subst hn
  exact RowK.pts (T := 51) encM_len (by decide) h
theorem within_any (n lo hi : Int) (w : World) : Calls Tryd.prog 29 #[.int .i64 n, .int .i64 lo, .int .i64 hi] w fun e w' => e = .returned (.bool (decide (lo ≤ n ∧ n ≤ hi))) ∧ w = w' := by
  by_cases h1 : lo ≤ n
  · by_cases h2 : n ≤ hi
    all_goals
      go_enter Tryd.func29, Tryd.ntmps29
      go_wp2_with fail
      go_ret
      first
        | exact ⟨ret_bool (decide_eq_true (by omega)).symm, rfl⟩
        | exact ⟨ret_bool (decide_eq_false (by omega)).symm, rfl⟩
  · go_enter Tryd.func29, Tryd.ntmps29
    go_wp2_with fail
    go_ret
    exact ⟨ret_bool (by rw [decide_eq_false (show ¬ lo ≤ n by omega)]; rfl), rfl⟩
theorem within_is (n lo hi : Int) (b : Bool) (hb : decide (lo ≤ n ∧ n ≤ hi) = b) (w : World) : Calls Tryd.prog 29 #[.int .i64 n, .int .i64 lo, .int .i64 hi] w fun e w' => e = .returned (.bool b) ∧ w = w' := by
  rw [← hb]; exact within_any n lo hi w
theorem in_any (n lo hi : Int) (w : World) : Calls Tryd.prog 32 #[.int .i64 n, .int .i64 lo, .int .i64 hi] w fun e w' => e = .returned (.bool (decide (lo ≤ n ∧ n ≤ hi))) ∧ w = w' := by
  by_cases h1 : lo ≤ n
  · by_cases h2 : n ≤ hi
    all_goals
      go_enter Tryd.func32, Tryd.ntmps32
      go_wp2_with fail
      go_ret
      first
        | exact ⟨ret_bool (decide_eq_true (by omega)).symm, rfl⟩
        | exact ⟨ret_bool (decide_eq_false (by omega)).symm, rfl⟩
  · go_enter Tryd.func32, Tryd.ntmps32
    go_wp2_with fail
    go_ret
    exact ⟨ret_bool (by rw [decide_eq_false (show ¬ lo ≤ n by omega)]; rfl), rfl⟩
theorem in_is (n lo hi : Int) (b : Bool) (hb : decide (lo ≤ n ∧ n ≤ hi) = b) (w : World) : Calls Tryd.prog 32 #[.int .i64 n, .int .i64 lo, .int .i64 hi] w fun e w' => e = .returned (.bool b) ∧ w = w' := by
  rw [← hb]; exact in_any n lo hi w
theorem known_any (k : Int) (w : World) : Calls Tryd.prog 28 #[.int .i64 k] w fun e w' => e = .returned (.bool (decide (1 ≤ k) && decide (k ≤ 14))) ∧ w = w' := by
  by_cases h1 : 0 < k
  · by_cases h2 : k < 15
    all_goals
      go_enter Tryd.func28, Tryd.ntmps28
      go_wp2_with fail
      go_ret
      refine ⟨ret_bool ?_, rfl⟩
      first
        | rw [decide_eq_true (show 1 ≤ k by omega), decide_eq_true (show k ≤ 14 by omega)]; rfl
        | rw [decide_eq_false (show ¬ k ≤ 14 by omega), Bool.and_false]
  · go_enter Tryd.func28, Tryd.ntmps28
    go_wp2_with fail
    go_ret
    exact ⟨ret_bool (by rw [decide_eq_false (show ¬ 1 ≤ k by omega)]; rfl), rfl⟩
theorem known_is (k : Int) (b : Bool) (hb : (decide (1 ≤ k) && decide (k ≤ 14)) = b) (w : World) : Calls Tryd.prog 28 #[.int .i64 k] w fun e w' => e = .returned (.bool b) ∧ w = w' := by
  rw [← hb]; exact known_any k w
/-- too large to be gone through? -/
def Small (r : Rec) : Prop := r.p.size ≤ 2000 ∧ r.t.size ≤ 2000 ∧ r.d.size ≤ 5000 ∧ r.m.length ≤ 100
def largeB (r : Rec) : Bool := decide (2000 < (r.p.size : Int)) || decide (2000 < (r.t.size : Int)) || decide (5000 < (r.d.size : Int)) || decide (100 < (r.m.length : Int))
theorem large_not {r : Rec} (h : largeB r = false) : Small r := by
  unfold largeB at h
  simp only [Bool.or_eq_false_iff, decide_eq_false_iff_not] at h
  unfold Small; omega
set_option maxHeartbeats 800000 in
theorem large_any (r : Rec) (oa : Option Addr) (n c : Nat) (hn : n = r.m.length) (w : World) :
    Calls Tryd.prog 8 #[.agg #[.int .i64 r.cl, .int .i64 r.sq, .int .i64 r.k, .string r.p, .string r.t, .int .i64 r.sz, .int .i64 r.h, .int .i64 r.o, .string r.d, .int .i64 r.tk, .int .i64 r.i, .slice oa n c]] w fun e w' => e = .returned (.bool (largeB r)) ∧ Below w.heap.size w w' := by
  have H1 : Hid (2000 < (r.p.size : Int) → largeB r = true) := Lib.hid fun h => by unfold largeB; rw [decide_eq_true h]; rfl
  have H2 : Hid (2000 < (r.t.size : Int) → largeB r = true) := Lib.hid fun h => by unfold largeB; rw [decide_eq_true h, Bool.or_true]; rfl
  have H3 : Hid (5000 < (r.d.size : Int) → largeB r = true) := Lib.hid fun h => by unfold largeB; rw [decide_eq_true h, Bool.or_true]; rfl
  have H4 : Hid ((decide (2000 < (r.p.size : Int)) || decide (2000 < (r.t.size : Int)) || decide (5000 < (r.d.size : Int)) || decide (100 < (n : Int))) = largeB r) := Lib.hid (by rw [hn]; rfl)
  clear hn
  go_enter Tryd.func8, Tryd.ntmps8
  go_wp2_with fail
  all_goals go_ret
  · exact ⟨ret_bool H4.out, below_alloc w _⟩
  · exact ⟨ret_bool (H3.out (by assumption)).symm, below_alloc w _⟩
  · exact ⟨ret_bool (H2.out (by assumption)).symm, below_alloc w _⟩
  · exact ⟨ret_bool (H1.out (by assumption)).symm, below_alloc w _⟩
theorem large_is (r : Rec) (oa : Option Addr) (n c : Nat) (b : Bool) (hb : largeB r = b) (hn : n = r.m.length) (w : World) :
    Calls Tryd.prog 8 #[.agg #[.int .i64 r.cl, .int .i64 r.sq, .int .i64 r.k, .string r.p, .string r.t, .int .i64 r.sz, .int .i64 r.h, .int .i64 r.o, .string r.d, .int .i64 r.tk, .int .i64 r.i, .slice oa n c]] w fun e w' => e = .returned (.bool b) ∧ Below w.heap.size w w' := by
  rw [← hb]; exact large_any r oa n c hn w
set_option maxHeartbeats 800000 in
theorem copy_any (r : Rec) (oa : Option Addr) (n c : Nat) (hn : n = r.m.length) (hc : oa = none → n = 0 ∧ c = 0) (hl : r.m.length ≤ 1000000) (w : World) (h : MvAt w oa r.m) :
    Calls Tryd.prog 10 #[.agg #[.int .i64 r.cl, .int .i64 r.sq, .int .i64 r.k, .string r.p, .string r.t, .int .i64 r.sz, .int .i64 r.h, .int .i64 r.o, .string r.d, .int .i64 r.tk, .int .i64 r.i, .slice oa n c]] w fun e w' => ∃ oa' c', e = .returned (.agg #[.int .i64 r.cl, .int .i64 r.sq, .int .i64 r.k, .string r.p, .string r.t, .int .i64 r.sz, .int .i64 r.h, .int .i64 r.o, .string r.d, .int .i64 r.tk, .int .i64 r.i, .slice oa' r.m.length c']) ∧ (oa' = none → r.m.length = 0 ∧ c' = 0) ∧ MvAt w' oa' r.m ∧ Below w.heap.size w w' := by
  have HN := Lib.hid hn
  clear hn
  obtain ⟨i0, hi, hz0, hz1, hz2⟩ := info_parts mvinfo
  have HC := Lib.hid hc
  have HM : Hid (MvAt ((w.alloc (.cells #[.int .i64 r.cl, .int .i64 r.sq, .int .i64 r.k, .string r.p, .string r.t, .int .i64 r.sz, .int .i64 r.h, .int .i64 r.o, .string r.d, .int .i64 r.tk, .int .i64 r.i, .slice oa n c] 24)).alloc (.cells #[.int .i64 0, .int .i64 0, .int .i64 0, .string ⟨#[]⟩, .string ⟨#[]⟩, .int .i64 0, .int .i64 0, .int .i64 0, .string ⟨#[]⟩, .int .i64 0, .int .i64 0, .slice none 0 0] 24)) oa r.m) := Lib.hid (h.grow (two_new' w _ _))
  have HL : Hid ((r.m.flatMap encM).length = n * 4) := Lib.hid (by rw [flat_len encM_len, HN.out])
  have HZ : Hid (n ≤ maxLen ∧ n * 32 ≤ 140737488355328) := Lib.hid (by rw [HN.out]; unfold maxLen; omega)
  clear h hc hl
  go_enter Tryd.func10, Tryd.ntmps10
  go_wp2_with (first | (refine wpList_store_row rfl 24 (Operand.tmp 2) _ rfl (w.heap.size + 1) _ rfl rfl 24 _ ((Below.heap_setCell _ _ _ _ (by simp)).trans HZ2.out) opSize rfl (by simp [Value.oneCell']) ?_) | (at_builtin; go_loud (refine wpList_append_copy rfl _ _ 22 rfl 51 i0 (.agg #[.int .i64 0, .int .i64 0, .int .i64 0, .int .i64 0]) 4 32 Tryd.underlying22 hi hz0 hz1 hz2 rfl (by decide) (by rw [alloc_size, alloc_size]; rfl) oa n c (r.m.flatMap encM) (by rfl) HC.out HL.out (kat_news encM_len (by decide) HM.out) (encM_one r.m) HZ.out.1 HZ.out.2 ?_; intro oa2 cap2 w2 hown2 hb2; have HR2 := Lib.hid hown2; have HB2 := Lib.hid hb2; have hbx : OBox w2 w.heap.size r (.slice oa n c) := (hb2.block w.heap.size (by simp; omega)).trans ((heap_alloc_old _ _ (by simp)).trans (heap_alloc_new w _)); have HBX := Lib.hid hbx; obtain ⟨b0, b1, b2, b3, b4, b5, b6, b7, b8, b9, b10, b11⟩ := hbx.cells; have f11 := Lib.frozen_of_heap hbx 11; have hz2 : w2.heap[w.heap.size + 1]? = some (.cells #[.int .i64 0, .int .i64 0, .int .i64 0, .string ⟨#[]⟩, .string ⟨#[]⟩, .int .i64 0, .int .i64 0, .int .i64 0, .string ⟨#[]⟩, .int .i64 0, .int .i64 0, .slice none 0 0] 24 (0, 0)) := (hb2.block (w.heap.size + 1) (by simp)).trans (heap_alloc2_new w _ _); have HZ2 := Lib.hid hz2; clear hown2 hb2 hbx hz2)))
  have hq1 := own_base HR2.out
  have hq2 := mv_own HR2.out HN.out
  have hq3 : ∀ a, oa2 = some a → a.block ≠ w.heap.size ∧ a.block ≠ w.heap.size + 1 := fun a ha => by
    have := (hq1.1 a ha).1
    simp only [alloc_size] at this
    omega
  have hq4 : Only w.heap.size w2 (w2.setCell ⟨w.heap.size, 11, none⟩ (.slice oa2 n cap2)) := (Only.refl _ _).setCell 11 _
  refine ret_row1 (p := 2) rfl rfl rfl (setRow_heap _ _ _ _ _ _ ((Below.heap_setCell _ _ _ _ (by simp)).trans HZ2.out)) Tryd.underlying24 rfl opSize ?_
  refine ⟨oa2, cap2, by rw [HN.out], by rw [← HN.out]; exact hq1.2, ((hq2.only hq4 (fun a ha => (hq3 a ha).1)).only (setRow_only _ _ _) (fun a ha => (hq3 a ha).2)), ?_⟩
  exact below_setRow (((two_new' w _ _).trans (HB2.out.mono (by simp; omega))).setCell (p := ⟨w.heap.size, 11, none⟩) (Nat.le_refl _) _) (by omega) _
end Go.Proofs.YtlffcilgmockmaaDoor.OpW
