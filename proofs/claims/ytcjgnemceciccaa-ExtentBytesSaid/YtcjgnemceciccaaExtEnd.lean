/- extent.End; the closure of Plan. -/
import Derived.Test.YtcjgnemceciccaaExtPut
namespace Go.Proofs.Ytcjgnemceciccaa.ExtW
open Go.RowKit
set_option maxHeartbeats 800000 in
theorem end_any (oa : Option Addr) (n cap : Nat) (l : List Pt) (hn : n = l.length) (hl : l.length ≤ 9223372036854775807) (w : World) (h : PtsAt w.heap.size oa l w) :
    Calls Try.prog 14 #[.slice oa n cap] w fun e w' => e = .returned (.int .i64 (endS l)) ∧ Below w.heap.size w w' := by
  subst hn
  have HP := Lib.hid h
  clear h
  by_cases hg : Good l
  · have HG : Hid (decide (Good l) = true) := Lib.hid (decide_eq_true hg)
    rcases snoc_cases l with rfl | ⟨l', x, rfl⟩
    · have HE : Hid (endS [] = 0) := Lib.hid (by unfold endS; rw [if_pos hg]; rfl)
      have HG2 := Lib.hid (good_is oa cap [] true HG.out (by omega) w HP.out)
      have e0 : ([] : List Pt).length = 0 := rfl
      rw [e0] at HG2 ⊢
      clear hg hl e0
      go_enter Try.func14, Try.ntmps14
      go_wp2_with (go_at_call 12; refine HG2.out.mono ?_; rintro e w1 ⟨rfl, hb1⟩; have HB1 := Lib.hid hb1; clear hb1)
      go_ret
      exact ⟨by rw [HE.out]; rfl, HB1.out⟩
    · have HE : Hid (endS (l' ++ [x]) = x.o + x.n) := Lib.hid (by unfold endS; rw [if_pos hg, endL_snoc])
      have hxs := (chain_ones hg.2 x (by simp)).small
      have hl64 := hg.1
      have HG2 := Lib.hid (good_is oa cap (l' ++ [x]) true HG.out (by omega) w HP.out)
      have HX : Hid ((l' ++ [x])[l'.length]? = some x) := Lib.hid (by simp)
      have hlen : (l' ++ [x]).length = l'.length + 1 := by simp
      generalize l' ++ [x] = L at *
      generalize hm : l'.length = m at *
      generalize hn : L.length = n at *
      have HN := Lib.hid hn
      have hz : ((n : Int) == 0) = false := by rw [beq_eq_false_iff_ne]; omega
      have hw : IntKind.i64.wrap ((n : Int) - 1) = (m : Int) := by rw [IntWalk.i64_in _ (by omega)]; omega
      have hw2 : IntKind.i64.wrap (x.o + x.n) = x.o + x.n := IntWalk.i64_in _ (by omega)
      have hm0 : (0 : Int) ≤ (m : Int) := by omega
      have hm1 : (m : Int) < (n : Int) := by omega
      have hm2 : m < n := by omega
      clear hg hl hlen hm hn
      go_enter Try.func14, Try.ntmps14
      go_wp2_with (go_at_call 12; refine HG2.out.mono ?_; rintro e w1 ⟨rfl, hb1⟩; have HB1 := Lib.hid hb1; obtain ⟨a, rfl, hab, c0, c1, c2, c3⟩ := (HP.out.grow hb1) m x HX.out; clear hb1)
      go_ret
      exact ⟨by rw [HE.out]; rfl, bstep HB1.out (below_alloc w1 _)⟩
  · have HG : Hid (decide (Good l) = false) := Lib.hid (decide_eq_false hg)
    have HE : Hid (endS l = 0) := Lib.hid (if_neg hg)
    clear hg
    go_enter Try.func14, Try.ntmps14
    go_wp2_with (go_at_call 12; refine (good_is _ _ _ _ HG.out hl _ HP.out).mono ?_; rintro e w1 ⟨rfl, hb1⟩; have HB1 := Lib.hid hb1; clear hb1)
    go_ret
    exact ⟨by rw [HE.out]; rfl, HB1.out⟩
/-- a plan under way: where it is, and what it holds -/
structure PS (C ba bo : Nat) (w : World) (at_ : Int) (v : Value) (L : List Pt) : Prop where
  pat : w.heap[ba]? = some (.cells #[.int .i64 at_] 3 (0, 0))
  out : w.heap[bo]? = some (.cells #[v] 22 (0, 0))
  row : Row C w v L
  lba : ba < C
  lbo : bo < C
  ne : ba ≠ bo
  le : C ≤ w.heap.size
/-- of all that is there only these three blocks turn -/
def Rest (ba bo : Nat) (v : Value) (w w' : World) : Prop := w.heap.size ≤ w'.heap.size ∧ w'.os = w.os ∧ w'.tape = w.tape ∧ w'.output = w.output ∧ ∀ k, k < w.heap.size → k ≠ ba → k ≠ bo → some k ≠ v.ownBlock → w'.heap[k]? = w.heap[k]?
theorem set_cells {w : World} {b : Nat} {u v : Value} {t : TypeId} (h : w.heap[b]? = some (.cells #[u] t (0, 0))) : (w.setCell ⟨b, 0, none⟩ v).heap[b]? = some (.cells #[v] t (0, 0)) :=
  heap_setCell_same w b 0 #[u] t v h
theorem far_set {w : World} {b i k : Nat} {v : Value} (h : k ≠ b) : (w.setCell ⟨b, i, none⟩ v).heap[k]? = w.heap[k]? := Below.heap_setCell w ⟨b, i, none⟩ v k h
def stepTo (at_ tt : Int) : Int := if at_ < tt then tt else at_
theorem row_far {C : Nat} {w : World} {v : Value} {L : List Pt} (h : Row C w v L) {b : Nat} (hb : b < C) : v.ownBlock ≠ some b := fun e => by
  have := (World.ownsRow.lt h) b e; omega
/-- one more part laid, and the place set -/
theorem PS.put {C ba bo : Nat} {w w5 : World} {at_ tt : Int} {v v' : Value} {L L' : List Pt} (h : PS C ba bo w at_ v L) (hr : Row C w5 v' L') (hb : Below C w w5) (hg : w.grownBy w5 v.ownBlock) :
    PS C ba bo ((w5.setCell ⟨bo, 0, none⟩ v').setCell ⟨ba, 0, none⟩ (.int .i64 tt)) tt v' L' ∧ Rest ba bo v w ((w5.setCell ⟨bo, 0, none⟩ v').setCell ⟨ba, 0, none⟩ (.int .i64 tt)) := by
  have K1 := (hb.block ba h.lba).trans h.pat
  have K2 := (hb.block bo h.lbo).trans h.out
  refine ⟨⟨?_, ?_, ?_, h.lba, h.lbo, h.ne, ?_⟩, ?_, ?_, ?_, ?_, ?_⟩
  · exact set_cells ((far_set h.ne).trans K1)
  · exact (far_set (fun e => h.ne e.symm)).trans (set_cells K2)
  · exact ((Only.refl ba _).setCell 0 _).keepRow (((Only.refl bo _).setCell 0 _).keepRow hr (row_far hr h.lbo)) (row_far hr h.lba)
  · have := h.le; have := hb.size; simp; omega
  · have := hb.size; simpa using this
  · exact hb.os
  · exact hb.tape
  · exact hb.output
  · intro k hk h1 h2 h3
    rw [far_set h1, far_set h2]
    exact hg.block k hk h3
/-- one more part laid -/
theorem PS.lay {C ba bo : Nat} {w w5 : World} {at_ : Int} {v v' : Value} {L L' : List Pt} (h : PS C ba bo w at_ v L) (hr : Row C w5 v' L') (hb : Below C w w5) (hg : w.grownBy w5 v.ownBlock) :
    PS C ba bo (w5.setCell ⟨bo, 0, none⟩ v') at_ v' L' ∧ Rest ba bo v w (w5.setCell ⟨bo, 0, none⟩ v') := by
  have K1 := (hb.block ba h.lba).trans h.pat
  have K2 := (hb.block bo h.lbo).trans h.out
  refine ⟨⟨?_, ?_, ?_, h.lba, h.lbo, h.ne, ?_⟩, ?_, ?_, ?_, ?_, ?_⟩
  · exact (far_set h.ne).trans K1
  · exact set_cells K2
  · exact ((Only.refl bo _).setCell 0 _).keepRow hr (row_far hr h.lbo)
  · have := h.le; have := hb.size; simp; omega
  · have := hb.size; simpa using this
  · exact hb.os
  · exact hb.tape
  · exact hb.output
  · intro k hk h1 h2 h3
    rw [far_set h2]
    exact hg.block k hk h3
theorem Rest.refl (ba bo : Nat) (v : Value) (w : World) : Rest ba bo v w w := ⟨Nat.le_refl _, rfl, rfl, rfl, fun _ _ _ _ _ => rfl⟩
set_option maxHeartbeats 1600000 in
theorem hole_any (C ba bo : Nat) (at_ tt : Int) (v : Value) (L : List Pt) (hat : 0 ≤ at_ ∧ at_ ≤ 8192) (htt : 0 ≤ tt ∧ tt ≤ 8192) (hL : L.length ≤ 1000) (w : World) (h : PS C ba bo w at_ v L) :
    Calls Try.prog 35 #[.int .i64 tt, .pointer (some ⟨ba, 0, none⟩), .pointer (some ⟨bo, 0, none⟩)] w fun e w' => e = .returned (.tuple #[]) ∧ ∃ v', PS C ba bo w' (stepTo at_ tt) v' (L ++ holeL at_ tt) ∧ Rest ba bo v w w' := by
  obtain ⟨i0, hi, hz0, hz1, hz2⟩ := info_parts partinfo
  have HPS := Lib.hid h
  obtain ⟨h1, h2, h3, h4, h5, h6, h7⟩ := h
  obtain ⟨c0, f0⟩ := new_cells h1 0 (by simp)
  obtain ⟨c1, f1⟩ := new_cells h2 0 (by simp)
  obtain ⟨oa, cap, rfl, hc, _, _⟩ := h3.form
  have H1 := Lib.hid h1
  have H2 := Lib.hid h2
  have H3 := Lib.hid h3
  have H6 := Lib.hid h6
  have l1 := lt_of_block h1
  have l2 := lt_of_block h2
  by_cases hlt : at_ < tt
  · have HE : Hid (stepTo at_ tt = tt ∧ holeL at_ tt = [⟨at_, tt - at_, -1, 0⟩]) := Lib.hid ⟨if_pos hlt, if_pos hlt⟩
    have hw : IntKind.i64.wrap (tt - at_) = tt - at_ := IntWalk.i64_in _ (by omega)
    have HOWN : Hid (w.ownsRow C 31 4 (.slice oa L.length cap) L.length (cellsOf L)) := Lib.hid h3
    have n1 : ¬ ba = bo := h6
    have n2 : ¬ bo = ba := fun e => h6 e.symm
    clear h1 h2 h3 h6
    go_enter Try.func35, Try.ntmps35
    go_wp2_with (at_builtin; go_loud (refine wpList_append_newB rfl _ _ 22 rfl C 31 i0 (.agg #[.int .i64 0, .int .i64 0, .int .i64 0, .int .i64 0]) 4 32 Try.underlying22 hi hz0 hz1 hz2 rfl (by decide) _ _ _ (by rfl) HOWN.out _ 1 1 (by rfl) rfl (cells_onecell [⟨at_, tt - at_, -1, 0⟩]) (by unfold maxLen; omega) (by omega) h7 (by simp) ?_; intro oa5 cap5 w5 hown5 hbel5 hg5; have HS5 := Lib.hid hown5; have HB5 := Lib.hid hbel5; have HG5 := Lib.hid hg5; have K1 := Lib.hid ((hbel5.block ba h4).trans H1.out); have K2 := Lib.hid ((hbel5.block bo h5).trans H2.out); clear hown5 hbel5 hg5 c0 f0 c1 f1; obtain ⟨c0, f0⟩ := new_cells K1.out 0 (by simp); obtain ⟨c1, f1⟩ := new_cells K2.out 0 (by simp)))
    go_end0
    obtain ⟨r1, r2⟩ := HPS.out.put (tt := tt) (Row.snoc ⟨at_, tt - at_, -1, 0⟩ HS5.out) HB5.out HG5.out
    refine ⟨rfl, ⟨.slice oa5 (L.length + 1) cap5, ?_⟩, r2⟩
    rw [HE.out.1, HE.out.2]
    exact r1
  · have HE : Hid (stepTo at_ tt = at_ ∧ holeL at_ tt = []) := Lib.hid ⟨if_neg hlt, if_neg hlt⟩
    clear h1 h2 h3 h6
    go_enter Try.func35, Try.ntmps35
    go_wp2_with fail
    go_end0
    refine ⟨rfl, ⟨.slice oa L.length cap, ?_⟩, Rest.refl _ _ _ _⟩
    rw [HE.out.1, HE.out.2, List.append_nil]
    exact HPS.out
end Go.Proofs.Ytcjgnemceciccaa.ExtW
