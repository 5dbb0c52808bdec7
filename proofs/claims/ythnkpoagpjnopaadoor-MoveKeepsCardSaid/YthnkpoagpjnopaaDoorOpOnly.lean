/- escheatref06.Only: just the fields that a kind has. -/
import Derived.Test.YthnkpoagpjnopaaDoorOpMisc
namespace Go.Proofs.YthnkpoagpjnopaaDoor.OpW
set_option maxRecDepth 100000
open Go.RowKit OpP
theorem kinds (k : Int) (h : 1 ≤ k ∧ k ≤ 14) : k = 1 ∨ k = 2 ∨ k = 3 ∨ k = 4 ∨ k = 5 ∨ k = 6 ∨ k = 7 ∨ k = 8 ∨ k = 9 ∨ k = 10 ∨ k = 11 ∨ k = 12 ∨ k = 13 ∨ k = 14 := by omega
theorem three_new (w : World) (o p q : Obj) : Below w.heap.size w (((w.alloc o).alloc p).alloc q) := bstep (two_new' w o p) (below_alloc _ q)
def onlyA (r : Rec) (oa : Option Addr) : Option Addr := if hasM r.k then oa else none
def onlyN (r : Rec) (n : Nat) : Nat := if hasM r.k then n else 0
theorem only_len (r : Rec) (n : Nat) (hn : n = r.m.length) : onlyN r n = (only r).m.length := by
  unfold onlyN only
  cases hasM r.k with
  | true => exact hn
  | false => rfl
theorem only_mv (r : Rec) (oa : Option Addr) (w : World) (h : MvAt w oa r.m) : MvAt w (onlyA r oa) (only r).m := by
  unfold onlyA only
  cases hasM r.k with
  | true => exact h
  | false => exact MvAt.nil _ _
def OnlyPost (r : Rec) (oa : Option Addr) (n c : Nat) (w : World) (e : Ending) (w' : World) : Prop := e = .returned (.agg #[.int .i64 (only r).cl, .int .i64 (only r).sq, .int .i64 (only r).k, .string (only r).p, .string (only r).t, .int .i64 (only r).sz, .int .i64 (only r).h, .int .i64 (only r).o, .string (only r).d, .int .i64 (only r).tk, .int .i64 (only r).i, .slice (onlyA r oa) (onlyN r n) (onlyN r c)]) ∧ Below w.heap.size w w' 
theorem only_is1 (r : Rec) (hk : r.k = 1) : only r = ⟨r.cl, r.sq, r.k, r.p, ⟨#[]⟩, 0, 0, 0, ⟨#[]⟩, 0, 0, []⟩ := by
  have hP : hasP r.k = true := by rw [hk]; rfl
  have hT : hasT r.k = false := by rw [hk]; rfl
  have hS : hasS r.k = false := by rw [hk]; rfl
  have hH : hasH r.k = false := by rw [hk]; rfl
  have hO : hasO r.k = false := by rw [hk]; rfl
  have hD : hasD r.k = false := by rw [hk]; rfl
  have hK : hasK r.k = false := by rw [hk]; rfl
  have hM : hasM r.k = false := by rw [hk]; rfl
  unfold only
  rw [hP, hT, hS, hH, hO, hD, hK, hM]
  rfl
set_option maxHeartbeats 1600000 in
theorem only_k1 (r : Rec) (hk : r.k = 1) (oa : Option Addr) (n c : Nat) (w : World) : Calls Tryd.prog 48 #[.agg #[.int .i64 r.cl, .int .i64 r.sq, .int .i64 r.k, .string r.p, .string r.t, .int .i64 r.sz, .int .i64 r.h, .int .i64 r.o, .string r.d, .int .i64 r.tk, .int .i64 r.i, .slice oa n c]] w (OnlyPost r oa n c w) := by
  have HE := Lib.hid (only_is1 r hk)
  have q1 : (r.k == 1) = true := by rw [hk]; rfl
  have q2 : (r.k == 2) = false := by rw [hk]; rfl
  have q3 : (r.k == 3) = false := by rw [hk]; rfl
  have q4 : (r.k == 4) = false := by rw [hk]; rfl
  have q5 : (r.k == 5) = false := by rw [hk]; rfl
  have q6 : (r.k == 6) = false := by rw [hk]; rfl
  have q7 : (r.k == 7) = false := by rw [hk]; rfl
  have q8 : (r.k == 8) = false := by rw [hk]; rfl
  have q9 : (r.k == 9) = false := by rw [hk]; rfl
  have q10 : (r.k == 10) = false := by rw [hk]; rfl
  have q11 : (r.k == 11) = false := by rw [hk]; rfl
  have q12 : (r.k == 12) = false := by rw [hk]; rfl
  have q13 : (r.k == 13) = false := by rw [hk]; rfl
  have q14 : (r.k == 14) = false := by rw [hk]; rfl
  have HO : Hid (onlyA r oa = none ∧ onlyN r n = 0 ∧ onlyN r c = 0) := Lib.hid (by unfold onlyA onlyN; rw [show hasM r.k = false by rw [hk]; rfl]; exact ⟨rfl, rfl, rfl⟩)
  clear hk
  go_enter Tryd.func48, Tryd.ntmps48
  go_wp2_with fail
  all_goals (refine ret_row1 (p := 2) rfl rfl rfl ((heap_alloc_old _ _ (by simp)).trans (heap_alloc2_new w _ _)) Tryd.underlying34 rfl opSize ?_)
  all_goals exact ⟨by rw [HE.out, HO.out.1, HO.out.2.1, HO.out.2.2], by first | exact three_new w _ _ _ | exact (three_new w _ _ _).drew⟩
theorem only_is2 (r : Rec) (hk : r.k = 2) : only r = ⟨r.cl, r.sq, r.k, r.p, ⟨#[]⟩, 0, 0, 0, ⟨#[]⟩, 0, 0, []⟩ := by
  have hP : hasP r.k = true := by rw [hk]; rfl
  have hT : hasT r.k = false := by rw [hk]; rfl
  have hS : hasS r.k = false := by rw [hk]; rfl
  have hH : hasH r.k = false := by rw [hk]; rfl
  have hO : hasO r.k = false := by rw [hk]; rfl
  have hD : hasD r.k = false := by rw [hk]; rfl
  have hK : hasK r.k = false := by rw [hk]; rfl
  have hM : hasM r.k = false := by rw [hk]; rfl
  unfold only
  rw [hP, hT, hS, hH, hO, hD, hK, hM]
  rfl
set_option maxHeartbeats 1600000 in
theorem only_k2 (r : Rec) (hk : r.k = 2) (oa : Option Addr) (n c : Nat) (w : World) : Calls Tryd.prog 48 #[.agg #[.int .i64 r.cl, .int .i64 r.sq, .int .i64 r.k, .string r.p, .string r.t, .int .i64 r.sz, .int .i64 r.h, .int .i64 r.o, .string r.d, .int .i64 r.tk, .int .i64 r.i, .slice oa n c]] w (OnlyPost r oa n c w) := by
  have HE := Lib.hid (only_is2 r hk)
  have q1 : (r.k == 1) = false := by rw [hk]; rfl
  have q2 : (r.k == 2) = true := by rw [hk]; rfl
  have q3 : (r.k == 3) = false := by rw [hk]; rfl
  have q4 : (r.k == 4) = false := by rw [hk]; rfl
  have q5 : (r.k == 5) = false := by rw [hk]; rfl
  have q6 : (r.k == 6) = false := by rw [hk]; rfl
  have q7 : (r.k == 7) = false := by rw [hk]; rfl
  have q8 : (r.k == 8) = false := by rw [hk]; rfl
  have q9 : (r.k == 9) = false := by rw [hk]; rfl
  have q10 : (r.k == 10) = false := by rw [hk]; rfl
  have q11 : (r.k == 11) = false := by rw [hk]; rfl
  have q12 : (r.k == 12) = false := by rw [hk]; rfl
  have q13 : (r.k == 13) = false := by rw [hk]; rfl
  have q14 : (r.k == 14) = false := by rw [hk]; rfl
  have HO : Hid (onlyA r oa = none ∧ onlyN r n = 0 ∧ onlyN r c = 0) := Lib.hid (by unfold onlyA onlyN; rw [show hasM r.k = false by rw [hk]; rfl]; exact ⟨rfl, rfl, rfl⟩)
  clear hk
  go_enter Tryd.func48, Tryd.ntmps48
  go_wp2_with fail
  all_goals (refine ret_row1 (p := 2) rfl rfl rfl ((heap_alloc_old _ _ (by simp)).trans (heap_alloc2_new w _ _)) Tryd.underlying34 rfl opSize ?_)
  all_goals exact ⟨by rw [HE.out, HO.out.1, HO.out.2.1, HO.out.2.2], by first | exact three_new w _ _ _ | exact (three_new w _ _ _).drew⟩
theorem only_is3 (r : Rec) (hk : r.k = 3) : only r = ⟨r.cl, r.sq, r.k, r.p, ⟨#[]⟩, 0, 0, 0, ⟨#[]⟩, 0, 0, []⟩ := by
  have hP : hasP r.k = true := by rw [hk]; rfl
  have hT : hasT r.k = false := by rw [hk]; rfl
  have hS : hasS r.k = false := by rw [hk]; rfl
  have hH : hasH r.k = false := by rw [hk]; rfl
  have hO : hasO r.k = false := by rw [hk]; rfl
  have hD : hasD r.k = false := by rw [hk]; rfl
  have hK : hasK r.k = false := by rw [hk]; rfl
  have hM : hasM r.k = false := by rw [hk]; rfl
  unfold only
  rw [hP, hT, hS, hH, hO, hD, hK, hM]
  rfl
set_option maxHeartbeats 1600000 in
theorem only_k3 (r : Rec) (hk : r.k = 3) (oa : Option Addr) (n c : Nat) (w : World) : Calls Tryd.prog 48 #[.agg #[.int .i64 r.cl, .int .i64 r.sq, .int .i64 r.k, .string r.p, .string r.t, .int .i64 r.sz, .int .i64 r.h, .int .i64 r.o, .string r.d, .int .i64 r.tk, .int .i64 r.i, .slice oa n c]] w (OnlyPost r oa n c w) := by
  have HE := Lib.hid (only_is3 r hk)
  have q1 : (r.k == 1) = false := by rw [hk]; rfl
  have q2 : (r.k == 2) = false := by rw [hk]; rfl
  have q3 : (r.k == 3) = true := by rw [hk]; rfl
  have q4 : (r.k == 4) = false := by rw [hk]; rfl
  have q5 : (r.k == 5) = false := by rw [hk]; rfl
  have q6 : (r.k == 6) = false := by rw [hk]; rfl
  have q7 : (r.k == 7) = false := by rw [hk]; rfl
  have q8 : (r.k == 8) = false := by rw [hk]; rfl
  have q9 : (r.k == 9) = false := by rw [hk]; rfl
  have q10 : (r.k == 10) = false := by rw [hk]; rfl
  have q11 : (r.k == 11) = false := by rw [hk]; rfl
  have q12 : (r.k == 12) = false := by rw [hk]; rfl
  have q13 : (r.k == 13) = false := by rw [hk]; rfl
  have q14 : (r.k == 14) = false := by rw [hk]; rfl
  have HO : Hid (onlyA r oa = none ∧ onlyN r n = 0 ∧ onlyN r c = 0) := Lib.hid (by unfold onlyA onlyN; rw [show hasM r.k = false by rw [hk]; rfl]; exact ⟨rfl, rfl, rfl⟩)
  clear hk
  go_enter Tryd.func48, Tryd.ntmps48
  go_wp2_with fail
  all_goals (refine ret_row1 (p := 2) rfl rfl rfl ((heap_alloc_old _ _ (by simp)).trans (heap_alloc2_new w _ _)) Tryd.underlying34 rfl opSize ?_)
  all_goals exact ⟨by rw [HE.out, HO.out.1, HO.out.2.1, HO.out.2.2], by first | exact three_new w _ _ _ | exact (three_new w _ _ _).drew⟩
theorem only_is4 (r : Rec) (hk : r.k = 4) : only r = ⟨r.cl, r.sq, r.k, r.p, r.t, 0, 0, 0, ⟨#[]⟩, 0, 0, []⟩ := by
  have hP : hasP r.k = true := by rw [hk]; rfl
  have hT : hasT r.k = true := by rw [hk]; rfl
  have hS : hasS r.k = false := by rw [hk]; rfl
  have hH : hasH r.k = false := by rw [hk]; rfl
  have hO : hasO r.k = false := by rw [hk]; rfl
  have hD : hasD r.k = false := by rw [hk]; rfl
  have hK : hasK r.k = false := by rw [hk]; rfl
  have hM : hasM r.k = false := by rw [hk]; rfl
  unfold only
  rw [hP, hT, hS, hH, hO, hD, hK, hM]
  rfl
set_option maxHeartbeats 1600000 in
theorem only_k4 (r : Rec) (hk : r.k = 4) (oa : Option Addr) (n c : Nat) (w : World) : Calls Tryd.prog 48 #[.agg #[.int .i64 r.cl, .int .i64 r.sq, .int .i64 r.k, .string r.p, .string r.t, .int .i64 r.sz, .int .i64 r.h, .int .i64 r.o, .string r.d, .int .i64 r.tk, .int .i64 r.i, .slice oa n c]] w (OnlyPost r oa n c w) := by
  have HE := Lib.hid (only_is4 r hk)
  have q1 : (r.k == 1) = false := by rw [hk]; rfl
  have q2 : (r.k == 2) = false := by rw [hk]; rfl
  have q3 : (r.k == 3) = false := by rw [hk]; rfl
  have q4 : (r.k == 4) = true := by rw [hk]; rfl
  have q5 : (r.k == 5) = false := by rw [hk]; rfl
  have q6 : (r.k == 6) = false := by rw [hk]; rfl
  have q7 : (r.k == 7) = false := by rw [hk]; rfl
  have q8 : (r.k == 8) = false := by rw [hk]; rfl
  have q9 : (r.k == 9) = false := by rw [hk]; rfl
  have q10 : (r.k == 10) = false := by rw [hk]; rfl
  have q11 : (r.k == 11) = false := by rw [hk]; rfl
  have q12 : (r.k == 12) = false := by rw [hk]; rfl
  have q13 : (r.k == 13) = false := by rw [hk]; rfl
  have q14 : (r.k == 14) = false := by rw [hk]; rfl
  have HO : Hid (onlyA r oa = none ∧ onlyN r n = 0 ∧ onlyN r c = 0) := Lib.hid (by unfold onlyA onlyN; rw [show hasM r.k = false by rw [hk]; rfl]; exact ⟨rfl, rfl, rfl⟩)
  clear hk
  go_enter Tryd.func48, Tryd.ntmps48
  go_wp2_with fail
  go_region
  all_goals go_wp2_with fail
  all_goals (refine ret_row1 (p := 2) rfl rfl rfl ((heap_alloc_old _ _ (by simp)).trans (heap_alloc2_new w _ _)) Tryd.underlying34 rfl opSize ?_)
  all_goals exact ⟨by rw [HE.out, HO.out.1, HO.out.2.1, HO.out.2.2], by first | exact three_new w _ _ _ | exact (three_new w _ _ _).drew⟩
theorem only_is5 (r : Rec) (hk : r.k = 5) : only r = ⟨r.cl, r.sq, r.k, r.p, ⟨#[]⟩, 0, 0, 0, ⟨#[]⟩, 0, 0, []⟩ := by
  have hP : hasP r.k = true := by rw [hk]; rfl
  have hT : hasT r.k = false := by rw [hk]; rfl
  have hS : hasS r.k = false := by rw [hk]; rfl
  have hH : hasH r.k = false := by rw [hk]; rfl
  have hO : hasO r.k = false := by rw [hk]; rfl
  have hD : hasD r.k = false := by rw [hk]; rfl
  have hK : hasK r.k = false := by rw [hk]; rfl
  have hM : hasM r.k = false := by rw [hk]; rfl
  unfold only
  rw [hP, hT, hS, hH, hO, hD, hK, hM]
  rfl
set_option maxHeartbeats 1600000 in
theorem only_k5 (r : Rec) (hk : r.k = 5) (oa : Option Addr) (n c : Nat) (w : World) : Calls Tryd.prog 48 #[.agg #[.int .i64 r.cl, .int .i64 r.sq, .int .i64 r.k, .string r.p, .string r.t, .int .i64 r.sz, .int .i64 r.h, .int .i64 r.o, .string r.d, .int .i64 r.tk, .int .i64 r.i, .slice oa n c]] w (OnlyPost r oa n c w) := by
  have HE := Lib.hid (only_is5 r hk)
  have q1 : (r.k == 1) = false := by rw [hk]; rfl
  have q2 : (r.k == 2) = false := by rw [hk]; rfl
  have q3 : (r.k == 3) = false := by rw [hk]; rfl
  have q4 : (r.k == 4) = false := by rw [hk]; rfl
  have q5 : (r.k == 5) = true := by rw [hk]; rfl
  have q6 : (r.k == 6) = false := by rw [hk]; rfl
  have q7 : (r.k == 7) = false := by rw [hk]; rfl
  have q8 : (r.k == 8) = false := by rw [hk]; rfl
  have q9 : (r.k == 9) = false := by rw [hk]; rfl
  have q10 : (r.k == 10) = false := by rw [hk]; rfl
  have q11 : (r.k == 11) = false := by rw [hk]; rfl
  have q12 : (r.k == 12) = false := by rw [hk]; rfl
  have q13 : (r.k == 13) = false := by rw [hk]; rfl
  have q14 : (r.k == 14) = false := by rw [hk]; rfl
  have HO : Hid (onlyA r oa = none ∧ onlyN r n = 0 ∧ onlyN r c = 0) := Lib.hid (by unfold onlyA onlyN; rw [show hasM r.k = false by rw [hk]; rfl]; exact ⟨rfl, rfl, rfl⟩)
  clear hk
  go_enter Tryd.func48, Tryd.ntmps48
  go_wp2_with fail
  all_goals (refine ret_row1 (p := 2) rfl rfl rfl ((heap_alloc_old _ _ (by simp)).trans (heap_alloc2_new w _ _)) Tryd.underlying34 rfl opSize ?_)
  all_goals exact ⟨by rw [HE.out, HO.out.1, HO.out.2.1, HO.out.2.2], by first | exact three_new w _ _ _ | exact (three_new w _ _ _).drew⟩
theorem only_is6 (r : Rec) (hk : r.k = 6) : only r = ⟨r.cl, r.sq, r.k, r.p, r.t, 0, 0, 0, ⟨#[]⟩, 0, 0, []⟩ := by
  have hP : hasP r.k = true := by rw [hk]; rfl
  have hT : hasT r.k = true := by rw [hk]; rfl
  have hS : hasS r.k = false := by rw [hk]; rfl
  have hH : hasH r.k = false := by rw [hk]; rfl
  have hO : hasO r.k = false := by rw [hk]; rfl
  have hD : hasD r.k = false := by rw [hk]; rfl
  have hK : hasK r.k = false := by rw [hk]; rfl
  have hM : hasM r.k = false := by rw [hk]; rfl
  unfold only
  rw [hP, hT, hS, hH, hO, hD, hK, hM]
  rfl
set_option maxHeartbeats 1600000 in
theorem only_k6 (r : Rec) (hk : r.k = 6) (oa : Option Addr) (n c : Nat) (w : World) : Calls Tryd.prog 48 #[.agg #[.int .i64 r.cl, .int .i64 r.sq, .int .i64 r.k, .string r.p, .string r.t, .int .i64 r.sz, .int .i64 r.h, .int .i64 r.o, .string r.d, .int .i64 r.tk, .int .i64 r.i, .slice oa n c]] w (OnlyPost r oa n c w) := by
  have HE := Lib.hid (only_is6 r hk)
  have q1 : (r.k == 1) = false := by rw [hk]; rfl
  have q2 : (r.k == 2) = false := by rw [hk]; rfl
  have q3 : (r.k == 3) = false := by rw [hk]; rfl
  have q4 : (r.k == 4) = false := by rw [hk]; rfl
  have q5 : (r.k == 5) = false := by rw [hk]; rfl
  have q6 : (r.k == 6) = true := by rw [hk]; rfl
  have q7 : (r.k == 7) = false := by rw [hk]; rfl
  have q8 : (r.k == 8) = false := by rw [hk]; rfl
  have q9 : (r.k == 9) = false := by rw [hk]; rfl
  have q10 : (r.k == 10) = false := by rw [hk]; rfl
  have q11 : (r.k == 11) = false := by rw [hk]; rfl
  have q12 : (r.k == 12) = false := by rw [hk]; rfl
  have q13 : (r.k == 13) = false := by rw [hk]; rfl
  have q14 : (r.k == 14) = false := by rw [hk]; rfl
  have HO : Hid (onlyA r oa = none ∧ onlyN r n = 0 ∧ onlyN r c = 0) := Lib.hid (by unfold onlyA onlyN; rw [show hasM r.k = false by rw [hk]; rfl]; exact ⟨rfl, rfl, rfl⟩)
  clear hk
  go_enter Tryd.func48, Tryd.ntmps48
  go_wp2_with fail
  go_region
  all_goals go_wp2_with fail
  all_goals (refine ret_row1 (p := 2) rfl rfl rfl ((heap_alloc_old _ _ (by simp)).trans (heap_alloc2_new w _ _)) Tryd.underlying34 rfl opSize ?_)
  all_goals exact ⟨by rw [HE.out, HO.out.1, HO.out.2.1, HO.out.2.2], by first | exact three_new w _ _ _ | exact (three_new w _ _ _).drew⟩
theorem only_is7 (r : Rec) (hk : r.k = 7) : only r = ⟨r.cl, r.sq, r.k, r.p, ⟨#[]⟩, r.sz, 0, 0, ⟨#[]⟩, 0, 0, []⟩ := by
  have hP : hasP r.k = true := by rw [hk]; rfl
  have hT : hasT r.k = false := by rw [hk]; rfl
  have hS : hasS r.k = true := by rw [hk]; rfl
  have hH : hasH r.k = false := by rw [hk]; rfl
  have hO : hasO r.k = false := by rw [hk]; rfl
  have hD : hasD r.k = false := by rw [hk]; rfl
  have hK : hasK r.k = false := by rw [hk]; rfl
  have hM : hasM r.k = false := by rw [hk]; rfl
  unfold only
  rw [hP, hT, hS, hH, hO, hD, hK, hM]
  rfl
set_option maxHeartbeats 1600000 in
theorem only_k7 (r : Rec) (hk : r.k = 7) (oa : Option Addr) (n c : Nat) (w : World) : Calls Tryd.prog 48 #[.agg #[.int .i64 r.cl, .int .i64 r.sq, .int .i64 r.k, .string r.p, .string r.t, .int .i64 r.sz, .int .i64 r.h, .int .i64 r.o, .string r.d, .int .i64 r.tk, .int .i64 r.i, .slice oa n c]] w (OnlyPost r oa n c w) := by
  have HE := Lib.hid (only_is7 r hk)
  have q1 : (r.k == 1) = false := by rw [hk]; rfl
  have q2 : (r.k == 2) = false := by rw [hk]; rfl
  have q3 : (r.k == 3) = false := by rw [hk]; rfl
  have q4 : (r.k == 4) = false := by rw [hk]; rfl
  have q5 : (r.k == 5) = false := by rw [hk]; rfl
  have q6 : (r.k == 6) = false := by rw [hk]; rfl
  have q7 : (r.k == 7) = true := by rw [hk]; rfl
  have q8 : (r.k == 8) = false := by rw [hk]; rfl
  have q9 : (r.k == 9) = false := by rw [hk]; rfl
  have q10 : (r.k == 10) = false := by rw [hk]; rfl
  have q11 : (r.k == 11) = false := by rw [hk]; rfl
  have q12 : (r.k == 12) = false := by rw [hk]; rfl
  have q13 : (r.k == 13) = false := by rw [hk]; rfl
  have q14 : (r.k == 14) = false := by rw [hk]; rfl
  have HO : Hid (onlyA r oa = none ∧ onlyN r n = 0 ∧ onlyN r c = 0) := Lib.hid (by unfold onlyA onlyN; rw [show hasM r.k = false by rw [hk]; rfl]; exact ⟨rfl, rfl, rfl⟩)
  clear hk
  go_enter Tryd.func48, Tryd.ntmps48
  go_wp2_with fail
  go_region
  all_goals go_wp2_with fail
  all_goals (refine ret_row1 (p := 2) rfl rfl rfl ((heap_alloc_old _ _ (by simp)).trans (heap_alloc2_new w _ _)) Tryd.underlying34 rfl opSize ?_)
  all_goals exact ⟨by rw [HE.out, HO.out.1, HO.out.2.1, HO.out.2.2], by first | exact three_new w _ _ _ | exact (three_new w _ _ _).drew⟩
theorem only_is8 (r : Rec) (hk : r.k = 8) : only r = ⟨r.cl, r.sq, r.k, r.p, ⟨#[]⟩, 0, 0, 0, ⟨#[]⟩, 0, 0, []⟩ := by
  have hP : hasP r.k = true := by rw [hk]; rfl
  have hT : hasT r.k = false := by rw [hk]; rfl
  have hS : hasS r.k = false := by rw [hk]; rfl
  have hH : hasH r.k = false := by rw [hk]; rfl
  have hO : hasO r.k = false := by rw [hk]; rfl
  have hD : hasD r.k = false := by rw [hk]; rfl
  have hK : hasK r.k = false := by rw [hk]; rfl
  have hM : hasM r.k = false := by rw [hk]; rfl
  unfold only
  rw [hP, hT, hS, hH, hO, hD, hK, hM]
  rfl
set_option maxHeartbeats 1600000 in
theorem only_k8 (r : Rec) (hk : r.k = 8) (oa : Option Addr) (n c : Nat) (w : World) : Calls Tryd.prog 48 #[.agg #[.int .i64 r.cl, .int .i64 r.sq, .int .i64 r.k, .string r.p, .string r.t, .int .i64 r.sz, .int .i64 r.h, .int .i64 r.o, .string r.d, .int .i64 r.tk, .int .i64 r.i, .slice oa n c]] w (OnlyPost r oa n c w) := by
  have HE := Lib.hid (only_is8 r hk)
  have q1 : (r.k == 1) = false := by rw [hk]; rfl
  have q2 : (r.k == 2) = false := by rw [hk]; rfl
  have q3 : (r.k == 3) = false := by rw [hk]; rfl
  have q4 : (r.k == 4) = false := by rw [hk]; rfl
  have q5 : (r.k == 5) = false := by rw [hk]; rfl
  have q6 : (r.k == 6) = false := by rw [hk]; rfl
  have q7 : (r.k == 7) = false := by rw [hk]; rfl
  have q8 : (r.k == 8) = true := by rw [hk]; rfl
  have q9 : (r.k == 9) = false := by rw [hk]; rfl
  have q10 : (r.k == 10) = false := by rw [hk]; rfl
  have q11 : (r.k == 11) = false := by rw [hk]; rfl
  have q12 : (r.k == 12) = false := by rw [hk]; rfl
  have q13 : (r.k == 13) = false := by rw [hk]; rfl
  have q14 : (r.k == 14) = false := by rw [hk]; rfl
  have HO : Hid (onlyA r oa = none ∧ onlyN r n = 0 ∧ onlyN r c = 0) := Lib.hid (by unfold onlyA onlyN; rw [show hasM r.k = false by rw [hk]; rfl]; exact ⟨rfl, rfl, rfl⟩)
  clear hk
  go_enter Tryd.func48, Tryd.ntmps48
  go_wp2_with fail
  all_goals (refine ret_row1 (p := 2) rfl rfl rfl ((heap_alloc_old _ _ (by simp)).trans (heap_alloc2_new w _ _)) Tryd.underlying34 rfl opSize ?_)
  all_goals exact ⟨by rw [HE.out, HO.out.1, HO.out.2.1, HO.out.2.2], by first | exact three_new w _ _ _ | exact (three_new w _ _ _).drew⟩
theorem only_is9 (r : Rec) (hk : r.k = 9) : only r = ⟨r.cl, r.sq, r.k, ⟨#[]⟩, ⟨#[]⟩, 0, r.h, 0, ⟨#[]⟩, 0, 0, []⟩ := by
  have hP : hasP r.k = false := by rw [hk]; rfl
  have hT : hasT r.k = false := by rw [hk]; rfl
  have hS : hasS r.k = false := by rw [hk]; rfl
  have hH : hasH r.k = true := by rw [hk]; rfl
  have hO : hasO r.k = false := by rw [hk]; rfl
  have hD : hasD r.k = false := by rw [hk]; rfl
  have hK : hasK r.k = false := by rw [hk]; rfl
  have hM : hasM r.k = false := by rw [hk]; rfl
  unfold only
  rw [hP, hT, hS, hH, hO, hD, hK, hM]
  rfl
set_option maxHeartbeats 1600000 in
theorem only_k9 (r : Rec) (hk : r.k = 9) (oa : Option Addr) (n c : Nat) (w : World) : Calls Tryd.prog 48 #[.agg #[.int .i64 r.cl, .int .i64 r.sq, .int .i64 r.k, .string r.p, .string r.t, .int .i64 r.sz, .int .i64 r.h, .int .i64 r.o, .string r.d, .int .i64 r.tk, .int .i64 r.i, .slice oa n c]] w (OnlyPost r oa n c w) := by
  have HE := Lib.hid (only_is9 r hk)
  have q1 : (r.k == 1) = false := by rw [hk]; rfl
  have q2 : (r.k == 2) = false := by rw [hk]; rfl
  have q3 : (r.k == 3) = false := by rw [hk]; rfl
  have q4 : (r.k == 4) = false := by rw [hk]; rfl
  have q5 : (r.k == 5) = false := by rw [hk]; rfl
  have q6 : (r.k == 6) = false := by rw [hk]; rfl
  have q7 : (r.k == 7) = false := by rw [hk]; rfl
  have q8 : (r.k == 8) = false := by rw [hk]; rfl
  have q9 : (r.k == 9) = true := by rw [hk]; rfl
  have q10 : (r.k == 10) = false := by rw [hk]; rfl
  have q11 : (r.k == 11) = false := by rw [hk]; rfl
  have q12 : (r.k == 12) = false := by rw [hk]; rfl
  have q13 : (r.k == 13) = false := by rw [hk]; rfl
  have q14 : (r.k == 14) = false := by rw [hk]; rfl
  have HO : Hid (onlyA r oa = none ∧ onlyN r n = 0 ∧ onlyN r c = 0) := Lib.hid (by unfold onlyA onlyN; rw [show hasM r.k = false by rw [hk]; rfl]; exact ⟨rfl, rfl, rfl⟩)
  clear hk
  go_enter Tryd.func48, Tryd.ntmps48
  go_wp2_with fail
  all_goals (refine ret_row1 (p := 2) rfl rfl rfl ((heap_alloc_old _ _ (by simp)).trans (heap_alloc2_new w _ _)) Tryd.underlying34 rfl opSize ?_)
  all_goals exact ⟨by rw [HE.out, HO.out.1, HO.out.2.1, HO.out.2.2], by first | exact three_new w _ _ _ | exact (three_new w _ _ _).drew⟩
theorem only_is10 (r : Rec) (hk : r.k = 10) : only r = ⟨r.cl, r.sq, r.k, ⟨#[]⟩, ⟨#[]⟩, 0, r.h, r.o, r.d, 0, 0, []⟩ := by
  have hP : hasP r.k = false := by rw [hk]; rfl
  have hT : hasT r.k = false := by rw [hk]; rfl
  have hS : hasS r.k = false := by rw [hk]; rfl
  have hH : hasH r.k = true := by rw [hk]; rfl
  have hO : hasO r.k = true := by rw [hk]; rfl
  have hD : hasD r.k = true := by rw [hk]; rfl
  have hK : hasK r.k = false := by rw [hk]; rfl
  have hM : hasM r.k = false := by rw [hk]; rfl
  unfold only
  rw [hP, hT, hS, hH, hO, hD, hK, hM]
  rfl
set_option maxHeartbeats 1600000 in
theorem only_k10 (r : Rec) (hk : r.k = 10) (oa : Option Addr) (n c : Nat) (w : World) : Calls Tryd.prog 48 #[.agg #[.int .i64 r.cl, .int .i64 r.sq, .int .i64 r.k, .string r.p, .string r.t, .int .i64 r.sz, .int .i64 r.h, .int .i64 r.o, .string r.d, .int .i64 r.tk, .int .i64 r.i, .slice oa n c]] w (OnlyPost r oa n c w) := by
  have HE := Lib.hid (only_is10 r hk)
  have q1 : (r.k == 1) = false := by rw [hk]; rfl
  have q2 : (r.k == 2) = false := by rw [hk]; rfl
  have q3 : (r.k == 3) = false := by rw [hk]; rfl
  have q4 : (r.k == 4) = false := by rw [hk]; rfl
  have q5 : (r.k == 5) = false := by rw [hk]; rfl
  have q6 : (r.k == 6) = false := by rw [hk]; rfl
  have q7 : (r.k == 7) = false := by rw [hk]; rfl
  have q8 : (r.k == 8) = false := by rw [hk]; rfl
  have q9 : (r.k == 9) = false := by rw [hk]; rfl
  have q10 : (r.k == 10) = true := by rw [hk]; rfl
  have q11 : (r.k == 11) = false := by rw [hk]; rfl
  have q12 : (r.k == 12) = false := by rw [hk]; rfl
  have q13 : (r.k == 13) = false := by rw [hk]; rfl
  have q14 : (r.k == 14) = false := by rw [hk]; rfl
  have HO : Hid (onlyA r oa = none ∧ onlyN r n = 0 ∧ onlyN r c = 0) := Lib.hid (by unfold onlyA onlyN; rw [show hasM r.k = false by rw [hk]; rfl]; exact ⟨rfl, rfl, rfl⟩)
  clear hk
  go_enter Tryd.func48, Tryd.ntmps48
  go_wp2_with fail
  go_region
  all_goals go_wp2_with fail
  all_goals (refine ret_row1 (p := 2) rfl rfl rfl ((heap_alloc_old _ _ (by simp)).trans (heap_alloc2_new w _ _)) Tryd.underlying34 rfl opSize ?_)
  all_goals exact ⟨by rw [HE.out, HO.out.1, HO.out.2.1, HO.out.2.2], by first | exact three_new w _ _ _ | exact (three_new w _ _ _).drew⟩
theorem only_is11 (r : Rec) (hk : r.k = 11) : only r = ⟨r.cl, r.sq, r.k, ⟨#[]⟩, ⟨#[]⟩, 0, 0, 0, ⟨#[]⟩, r.tk, 0, []⟩ := by
  have hP : hasP r.k = false := by rw [hk]; rfl
  have hT : hasT r.k = false := by rw [hk]; rfl
  have hS : hasS r.k = false := by rw [hk]; rfl
  have hH : hasH r.k = false := by rw [hk]; rfl
  have hO : hasO r.k = false := by rw [hk]; rfl
  have hD : hasD r.k = false := by rw [hk]; rfl
  have hK : hasK r.k = true := by rw [hk]; rfl
  have hM : hasM r.k = false := by rw [hk]; rfl
  unfold only
  rw [hP, hT, hS, hH, hO, hD, hK, hM]
  rfl
set_option maxHeartbeats 1600000 in
theorem only_k11 (r : Rec) (hk : r.k = 11) (oa : Option Addr) (n c : Nat) (w : World) : Calls Tryd.prog 48 #[.agg #[.int .i64 r.cl, .int .i64 r.sq, .int .i64 r.k, .string r.p, .string r.t, .int .i64 r.sz, .int .i64 r.h, .int .i64 r.o, .string r.d, .int .i64 r.tk, .int .i64 r.i, .slice oa n c]] w (OnlyPost r oa n c w) := by
  have HE := Lib.hid (only_is11 r hk)
  have q1 : (r.k == 1) = false := by rw [hk]; rfl
  have q2 : (r.k == 2) = false := by rw [hk]; rfl
  have q3 : (r.k == 3) = false := by rw [hk]; rfl
  have q4 : (r.k == 4) = false := by rw [hk]; rfl
  have q5 : (r.k == 5) = false := by rw [hk]; rfl
  have q6 : (r.k == 6) = false := by rw [hk]; rfl
  have q7 : (r.k == 7) = false := by rw [hk]; rfl
  have q8 : (r.k == 8) = false := by rw [hk]; rfl
  have q9 : (r.k == 9) = false := by rw [hk]; rfl
  have q10 : (r.k == 10) = false := by rw [hk]; rfl
  have q11 : (r.k == 11) = true := by rw [hk]; rfl
  have q12 : (r.k == 12) = false := by rw [hk]; rfl
  have q13 : (r.k == 13) = false := by rw [hk]; rfl
  have q14 : (r.k == 14) = false := by rw [hk]; rfl
  have HO : Hid (onlyA r oa = none ∧ onlyN r n = 0 ∧ onlyN r c = 0) := Lib.hid (by unfold onlyA onlyN; rw [show hasM r.k = false by rw [hk]; rfl]; exact ⟨rfl, rfl, rfl⟩)
  clear hk
  go_enter Tryd.func48, Tryd.ntmps48
  go_wp2_with fail
  all_goals (refine ret_row1 (p := 2) rfl rfl rfl ((heap_alloc_old _ _ (by simp)).trans (heap_alloc2_new w _ _)) Tryd.underlying34 rfl opSize ?_)
  all_goals exact ⟨by rw [HE.out, HO.out.1, HO.out.2.1, HO.out.2.2], by first | exact three_new w _ _ _ | exact (three_new w _ _ _).drew⟩
theorem only_is12 (r : Rec) (hk : r.k = 12) : only r = ⟨r.cl, r.sq, r.k, ⟨#[]⟩, ⟨#[]⟩, 0, 0, 0, ⟨#[]⟩, r.tk, 0, []⟩ := by
  have hP : hasP r.k = false := by rw [hk]; rfl
  have hT : hasT r.k = false := by rw [hk]; rfl
  have hS : hasS r.k = false := by rw [hk]; rfl
  have hH : hasH r.k = false := by rw [hk]; rfl
  have hO : hasO r.k = false := by rw [hk]; rfl
  have hD : hasD r.k = false := by rw [hk]; rfl
  have hK : hasK r.k = true := by rw [hk]; rfl
  have hM : hasM r.k = false := by rw [hk]; rfl
  unfold only
  rw [hP, hT, hS, hH, hO, hD, hK, hM]
  rfl
set_option maxHeartbeats 1600000 in
theorem only_k12 (r : Rec) (hk : r.k = 12) (oa : Option Addr) (n c : Nat) (w : World) : Calls Tryd.prog 48 #[.agg #[.int .i64 r.cl, .int .i64 r.sq, .int .i64 r.k, .string r.p, .string r.t, .int .i64 r.sz, .int .i64 r.h, .int .i64 r.o, .string r.d, .int .i64 r.tk, .int .i64 r.i, .slice oa n c]] w (OnlyPost r oa n c w) := by
  have HE := Lib.hid (only_is12 r hk)
  have q1 : (r.k == 1) = false := by rw [hk]; rfl
  have q2 : (r.k == 2) = false := by rw [hk]; rfl
  have q3 : (r.k == 3) = false := by rw [hk]; rfl
  have q4 : (r.k == 4) = false := by rw [hk]; rfl
  have q5 : (r.k == 5) = false := by rw [hk]; rfl
  have q6 : (r.k == 6) = false := by rw [hk]; rfl
  have q7 : (r.k == 7) = false := by rw [hk]; rfl
  have q8 : (r.k == 8) = false := by rw [hk]; rfl
  have q9 : (r.k == 9) = false := by rw [hk]; rfl
  have q10 : (r.k == 10) = false := by rw [hk]; rfl
  have q11 : (r.k == 11) = false := by rw [hk]; rfl
  have q12 : (r.k == 12) = true := by rw [hk]; rfl
  have q13 : (r.k == 13) = false := by rw [hk]; rfl
  have q14 : (r.k == 14) = false := by rw [hk]; rfl
  have HO : Hid (onlyA r oa = none ∧ onlyN r n = 0 ∧ onlyN r c = 0) := Lib.hid (by unfold onlyA onlyN; rw [show hasM r.k = false by rw [hk]; rfl]; exact ⟨rfl, rfl, rfl⟩)
  clear hk
  go_enter Tryd.func48, Tryd.ntmps48
  go_wp2_with fail
  all_goals (refine ret_row1 (p := 2) rfl rfl rfl ((heap_alloc_old _ _ (by simp)).trans (heap_alloc2_new w _ _)) Tryd.underlying34 rfl opSize ?_)
  all_goals exact ⟨by rw [HE.out, HO.out.1, HO.out.2.1, HO.out.2.2], by first | exact three_new w _ _ _ | exact (three_new w _ _ _).drew⟩
theorem only_is13 (r : Rec) (hk : r.k = 13) : only r = ⟨r.cl, r.sq, r.k, ⟨#[]⟩, ⟨#[]⟩, 0, 0, 0, r.d, 0, r.i, r.m⟩ := by
  have hP : hasP r.k = false := by rw [hk]; rfl
  have hT : hasT r.k = false := by rw [hk]; rfl
  have hS : hasS r.k = false := by rw [hk]; rfl
  have hH : hasH r.k = false := by rw [hk]; rfl
  have hO : hasO r.k = false := by rw [hk]; rfl
  have hD : hasD r.k = true := by rw [hk]; rfl
  have hK : hasK r.k = false := by rw [hk]; rfl
  have hM : hasM r.k = true := by rw [hk]; rfl
  unfold only
  rw [hP, hT, hS, hH, hO, hD, hK, hM]
  rfl
set_option maxHeartbeats 1600000 in
theorem only_k13 (r : Rec) (hk : r.k = 13) (oa : Option Addr) (n c : Nat) (w : World) : Calls Tryd.prog 48 #[.agg #[.int .i64 r.cl, .int .i64 r.sq, .int .i64 r.k, .string r.p, .string r.t, .int .i64 r.sz, .int .i64 r.h, .int .i64 r.o, .string r.d, .int .i64 r.tk, .int .i64 r.i, .slice oa n c]] w (OnlyPost r oa n c w) := by
  have HE := Lib.hid (only_is13 r hk)
  have q1 : (r.k == 1) = false := by rw [hk]; rfl
  have q2 : (r.k == 2) = false := by rw [hk]; rfl
  have q3 : (r.k == 3) = false := by rw [hk]; rfl
  have q4 : (r.k == 4) = false := by rw [hk]; rfl
  have q5 : (r.k == 5) = false := by rw [hk]; rfl
  have q6 : (r.k == 6) = false := by rw [hk]; rfl
  have q7 : (r.k == 7) = false := by rw [hk]; rfl
  have q8 : (r.k == 8) = false := by rw [hk]; rfl
  have q9 : (r.k == 9) = false := by rw [hk]; rfl
  have q10 : (r.k == 10) = false := by rw [hk]; rfl
  have q11 : (r.k == 11) = false := by rw [hk]; rfl
  have q12 : (r.k == 12) = false := by rw [hk]; rfl
  have q13 : (r.k == 13) = true := by rw [hk]; rfl
  have q14 : (r.k == 14) = false := by rw [hk]; rfl
  have HO : Hid (onlyA r oa = oa ∧ onlyN r n = n ∧ onlyN r c = c) := Lib.hid (by unfold onlyA onlyN; rw [show hasM r.k = true by rw [hk]; rfl]; exact ⟨rfl, rfl, rfl⟩)
  clear hk
  go_enter Tryd.func48, Tryd.ntmps48
  go_wp2_with fail
  go_region
  all_goals go_wp2_with fail
  all_goals (refine ret_row1 (p := 2) rfl rfl rfl ((heap_alloc_old _ _ (by simp)).trans (heap_alloc2_new w _ _)) Tryd.underlying34 rfl opSize ?_)
  all_goals exact ⟨by rw [HE.out, HO.out.1, HO.out.2.1, HO.out.2.2], by first | exact three_new w _ _ _ | exact (three_new w _ _ _).drew⟩
theorem only_is14 (r : Rec) (hk : r.k = 14) : only r = ⟨r.cl, r.sq, r.k, ⟨#[]⟩, ⟨#[]⟩, r.sz, 0, r.o, r.d, 0, 0, []⟩ := by
  have hP : hasP r.k = false := by rw [hk]; rfl
  have hT : hasT r.k = false := by rw [hk]; rfl
  have hS : hasS r.k = true := by rw [hk]; rfl
  have hH : hasH r.k = false := by rw [hk]; rfl
  have hO : hasO r.k = true := by rw [hk]; rfl
  have hD : hasD r.k = true := by rw [hk]; rfl
  have hK : hasK r.k = false := by rw [hk]; rfl
  have hM : hasM r.k = false := by rw [hk]; rfl
  unfold only
  rw [hP, hT, hS, hH, hO, hD, hK, hM]
  rfl
set_option maxHeartbeats 1600000 in
theorem only_k14 (r : Rec) (hk : r.k = 14) (oa : Option Addr) (n c : Nat) (w : World) : Calls Tryd.prog 48 #[.agg #[.int .i64 r.cl, .int .i64 r.sq, .int .i64 r.k, .string r.p, .string r.t, .int .i64 r.sz, .int .i64 r.h, .int .i64 r.o, .string r.d, .int .i64 r.tk, .int .i64 r.i, .slice oa n c]] w (OnlyPost r oa n c w) := by
  have HE := Lib.hid (only_is14 r hk)
  have q1 : (r.k == 1) = false := by rw [hk]; rfl
  have q2 : (r.k == 2) = false := by rw [hk]; rfl
  have q3 : (r.k == 3) = false := by rw [hk]; rfl
  have q4 : (r.k == 4) = false := by rw [hk]; rfl
  have q5 : (r.k == 5) = false := by rw [hk]; rfl
  have q6 : (r.k == 6) = false := by rw [hk]; rfl
  have q7 : (r.k == 7) = false := by rw [hk]; rfl
  have q8 : (r.k == 8) = false := by rw [hk]; rfl
  have q9 : (r.k == 9) = false := by rw [hk]; rfl
  have q10 : (r.k == 10) = false := by rw [hk]; rfl
  have q11 : (r.k == 11) = false := by rw [hk]; rfl
  have q12 : (r.k == 12) = false := by rw [hk]; rfl
  have q13 : (r.k == 13) = false := by rw [hk]; rfl
  have q14 : (r.k == 14) = true := by rw [hk]; rfl
  have HO : Hid (onlyA r oa = none ∧ onlyN r n = 0 ∧ onlyN r c = 0) := Lib.hid (by unfold onlyA onlyN; rw [show hasM r.k = false by rw [hk]; rfl]; exact ⟨rfl, rfl, rfl⟩)
  clear hk
  go_enter Tryd.func48, Tryd.ntmps48
  go_wp2_with fail
  go_region
  all_goals go_wp2_with fail
  all_goals (refine ret_row1 (p := 2) rfl rfl rfl ((heap_alloc_old _ _ (by simp)).trans (heap_alloc2_new w _ _)) Tryd.underlying34 rfl opSize ?_)
  all_goals exact ⟨by rw [HE.out, HO.out.1, HO.out.2.1, HO.out.2.2], by first | exact three_new w _ _ _ | exact (three_new w _ _ _).drew⟩
set_option linter.unusedSimpArgs false in
theorem only_is0 (r : Rec) (hk : ¬ (1 ≤ r.k ∧ r.k ≤ 14)) : only r = ⟨r.cl, r.sq, r.k, ⟨#[]⟩, ⟨#[]⟩, 0, 0, 0, ⟨#[]⟩, 0, 0, []⟩ := by
  have q1 : (r.k == 1) = false := beq_eq_false_iff_ne.2 (by omega)
  have q2 : (r.k == 2) = false := beq_eq_false_iff_ne.2 (by omega)
  have q3 : (r.k == 3) = false := beq_eq_false_iff_ne.2 (by omega)
  have q4 : (r.k == 4) = false := beq_eq_false_iff_ne.2 (by omega)
  have q5 : (r.k == 5) = false := beq_eq_false_iff_ne.2 (by omega)
  have q6 : (r.k == 6) = false := beq_eq_false_iff_ne.2 (by omega)
  have q7 : (r.k == 7) = false := beq_eq_false_iff_ne.2 (by omega)
  have q8 : (r.k == 8) = false := beq_eq_false_iff_ne.2 (by omega)
  have q9 : (r.k == 9) = false := beq_eq_false_iff_ne.2 (by omega)
  have q10 : (r.k == 10) = false := beq_eq_false_iff_ne.2 (by omega)
  have q11 : (r.k == 11) = false := beq_eq_false_iff_ne.2 (by omega)
  have q12 : (r.k == 12) = false := beq_eq_false_iff_ne.2 (by omega)
  have q13 : (r.k == 13) = false := beq_eq_false_iff_ne.2 (by omega)
  have q14 : (r.k == 14) = false := beq_eq_false_iff_ne.2 (by omega)
  have hP : hasP r.k = false := by unfold hasP; simp only [q1, q2, q3, q4, q5, q6, q7, q8, q9, q10, q11, q12, q13, q14, Bool.or_false]
  have hT : hasT r.k = false := by unfold hasT; simp only [q1, q2, q3, q4, q5, q6, q7, q8, q9, q10, q11, q12, q13, q14, Bool.or_false]
  have hS : hasS r.k = false := by unfold hasS; simp only [q1, q2, q3, q4, q5, q6, q7, q8, q9, q10, q11, q12, q13, q14, Bool.or_false]
  have hH : hasH r.k = false := by unfold hasH; simp only [q1, q2, q3, q4, q5, q6, q7, q8, q9, q10, q11, q12, q13, q14, Bool.or_false]
  have hO : hasO r.k = false := by unfold hasO; simp only [q1, q2, q3, q4, q5, q6, q7, q8, q9, q10, q11, q12, q13, q14, Bool.or_false]
  have hD : hasD r.k = false := by unfold hasD; simp only [q1, q2, q3, q4, q5, q6, q7, q8, q9, q10, q11, q12, q13, q14, Bool.or_false]
  have hK : hasK r.k = false := by unfold hasK; simp only [q1, q2, q3, q4, q5, q6, q7, q8, q9, q10, q11, q12, q13, q14, Bool.or_false]
  have hM : hasM r.k = false := by unfold hasM; simp only [q1, q2, q3, q4, q5, q6, q7, q8, q9, q10, q11, q12, q13, q14, Bool.or_false]
  unfold only
  rw [hP, hT, hS, hH, hO, hD, hK, hM]
  rfl
set_option maxHeartbeats 1600000 in
theorem only_k0 (r : Rec) (hk : ¬ (1 ≤ r.k ∧ r.k ≤ 14)) (oa : Option Addr) (n c : Nat) (w : World) : Calls Tryd.prog 48 #[.agg #[.int .i64 r.cl, .int .i64 r.sq, .int .i64 r.k, .string r.p, .string r.t, .int .i64 r.sz, .int .i64 r.h, .int .i64 r.o, .string r.d, .int .i64 r.tk, .int .i64 r.i, .slice oa n c]] w (OnlyPost r oa n c w) := by
  have HE := Lib.hid (only_is0 r hk)
  have q1 : (r.k == 1) = false := beq_eq_false_iff_ne.2 (by omega)
  have q2 : (r.k == 2) = false := beq_eq_false_iff_ne.2 (by omega)
  have q3 : (r.k == 3) = false := beq_eq_false_iff_ne.2 (by omega)
  have q4 : (r.k == 4) = false := beq_eq_false_iff_ne.2 (by omega)
  have q5 : (r.k == 5) = false := beq_eq_false_iff_ne.2 (by omega)
  have q6 : (r.k == 6) = false := beq_eq_false_iff_ne.2 (by omega)
  have q7 : (r.k == 7) = false := beq_eq_false_iff_ne.2 (by omega)
  have q8 : (r.k == 8) = false := beq_eq_false_iff_ne.2 (by omega)
  have q9 : (r.k == 9) = false := beq_eq_false_iff_ne.2 (by omega)
  have q10 : (r.k == 10) = false := beq_eq_false_iff_ne.2 (by omega)
  have q11 : (r.k == 11) = false := beq_eq_false_iff_ne.2 (by omega)
  have q12 : (r.k == 12) = false := beq_eq_false_iff_ne.2 (by omega)
  have q13 : (r.k == 13) = false := beq_eq_false_iff_ne.2 (by omega)
  have q14 : (r.k == 14) = false := beq_eq_false_iff_ne.2 (by omega)
  have HO : Hid (onlyA r oa = none ∧ onlyN r n = 0 ∧ onlyN r c = 0) := Lib.hid (by unfold onlyA onlyN; rw [show hasM r.k = false from q13]; exact ⟨rfl, rfl, rfl⟩)
  clear hk
  go_enter Tryd.func48, Tryd.ntmps48
  go_wp2_with fail
  all_goals (refine ret_row1 (p := 2) rfl rfl rfl ((heap_alloc_old _ _ (by simp)).trans (heap_alloc2_new w _ _)) Tryd.underlying34 rfl opSize ?_)
  all_goals exact ⟨by rw [HE.out, HO.out.1, HO.out.2.1, HO.out.2.2], by first | exact three_new w _ _ _ | exact (three_new w _ _ _).drew⟩
theorem only_any (r : Rec) (oa : Option Addr) (n c : Nat) (w : World) : Calls Tryd.prog 48 #[.agg #[.int .i64 r.cl, .int .i64 r.sq, .int .i64 r.k, .string r.p, .string r.t, .int .i64 r.sz, .int .i64 r.h, .int .i64 r.o, .string r.d, .int .i64 r.tk, .int .i64 r.i, .slice oa n c]] w (OnlyPost r oa n c w) := by
  by_cases hk : 1 ≤ r.k ∧ r.k ≤ 14
  · rcases kinds r.k hk with e | e | e | e | e | e | e | e | e | e | e | e | e | e
    · exact only_k1 r e oa n c w
    · exact only_k2 r e oa n c w
    · exact only_k3 r e oa n c w
    · exact only_k4 r e oa n c w
    · exact only_k5 r e oa n c w
    · exact only_k6 r e oa n c w
    · exact only_k7 r e oa n c w
    · exact only_k8 r e oa n c w
    · exact only_k9 r e oa n c w
    · exact only_k10 r e oa n c w
    · exact only_k11 r e oa n c w
    · exact only_k12 r e oa n c w
    · exact only_k13 r e oa n c w
    · exact only_k14 r e oa n c w
  · exact only_k0 r hk oa n c w
end Go.Proofs.YthnkpoagpjnopaaDoor.OpW
