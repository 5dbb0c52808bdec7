/- extent.End; the closure of Plan. -/
import Derived.Test.YtappgelpigoknaaExtPut
namespace Go.Proofs.Ytappgelpigoknaa.ExtW
open Go.RowKit
set_option maxHeartbeats 800000 in
theorem end_any (oa : Option Addr) (n cap : Nat) (l : List Pt) (hn : n = l.length) (hl : l.length ≤ 9223372036854775807) (w : World) (h : PtsAt w.heap.size oa l w) :
    Calls Try.prog 56 #[.slice oa n cap] w fun e w' => e = .returned (.int .i64 (endS l)) ∧ Below w.heap.size w w' := by
  subst hn
  have HP := Lib.hid h
  clear h
  by_cases hg : Good l
  · have HG : Hid (decide (Good l) = true) := Lib.hid (decide_eq_true hg)
    rcases snoc_cases l with rfl | ⟨l', x, rfl⟩
    · have HE : Hid (endS [] = 0) := Lib.hid (by unfold endS; rw [if_pos hg]; rfl)
      have HG2 := Lib.hid (good_is oa cap [] true HG.out (by omega) w HP.out)
      have e0 : ([] : List Pt).length = 0 := rfl
      rw [e0] at HG2 ⊢
      clear hg hl e0
      go_enter Try.func56, Try.ntmps56
      go_wp2_with (go_at_call 48; refine HG2.out.mono ?_; rintro e w1 ⟨rfl, hb1⟩; have HB1 := Lib.hid hb1; clear hb1)
      go_ret
      exact ⟨by rw [HE.out]; rfl, HB1.out⟩
    · have HE : Hid (endS (l' ++ [x]) = x.o + x.n) := Lib.hid (by unfold endS; rw [if_pos hg, endL_snoc])
      have hxs := (chain_ones hg.2 x (by simp)).small
      have hl64 := hg.1
      have HG2 := Lib.hid (good_is oa cap (l' ++ [x]) true HG.out (by omega) w HP.out)
      have HX : Hid ((l' ++ [x])[l'.length]? = some x) := Lib.hid (by simp)
      have hlen : (l' ++ [x]).length = l'.length + 1 := by simp
      generalize l' ++ [x] = L at *
      generalize hm : l'.length = m at *
      generalize hn : L.length = n at *
      have HN := Lib.hid hn
      have hz : ((n : Int) == 0) = false := by rw [beq_eq_false_iff_ne]; omega
      have hw : IntKind.i64.wrap ((n : Int) - 1) = (m : Int) := by rw [IntWalk.i64_in _ (by omega)]; omega
      have hw2 : IntKind.i64.wrap (x.o + x.n) = x.o + x.n := IntWalk.i64_in _ (by omega)
      have hm0 : (0 : Int) ≤ (m : Int) := by omega
      have hm1 : (m : Int) < (n : Int) := by omega
      have hm2 : m < n := by omega
      clear hg hl hlen hm hn
      go_enter Try.func56, Try.ntmps56
      go_wp2_with (go_at_call 48; refine HG2.out.mono ?_; rintro e w1 ⟨rfl, hb1⟩; have HB1 := Lib.hid hb1; obtain ⟨a, rfl, hab, c0, c1, c2, c3⟩ := (HP.out.grow hb1) m x HX.out; clear hb1)
      go_ret
      exact ⟨by rw [HE.out]; rfl, bstep HB1.out (below_alloc w1 _)⟩
  · have HG : Hid (decide (Good l) = false) := Lib.hid (decide_eq_false hg)
    have HE : Hid (endS l = 0) := Lib.hid (if_neg hg)
    clear hg
    go_enter Try.func56, Try.ntmps56
    go_wp2_with (go_at_call 48; refine (good_is _ _ _ _ HG.out hl _ HP.out).mono ?_; rintro e w1 ⟨rfl, hb1⟩; have HB1 := Lib.hid hb1; clear hb1)
    go_ret
    exact ⟨by rw [HE.out]; rfl, HB1.out⟩
/-- a plan under way: where it is, and what it holds -/
structure PS (C ba bo : Nat) (w : World) (at_ : Int) (v : Value) (L : List Pt) : Prop where
  pat : w.heap[ba]? = some (.cells #[.int .i64 at_] 3 (0, 0))
  out : w.heap[bo]? = some (.cells #[v] 37 (0, 0))
  row : Row C w v L
  lba : ba < C
  lbo : bo < C
  ne : ba ≠ bo
  le : C ≤ w.heap.size
/-- of all that is there only these three blocks turn -/
def Rest (ba bo : Nat) (v : Value) (w w' : World) : Prop := w.heap.size ≤ w'.heap.size ∧ w'.os = w.os ∧ w'.tape = w.tape ∧ w'.output = w.output ∧ ∀ k, k < w.heap.size → k ≠ ba → k ≠ bo → some k ≠ v.ownBlock → w'.heap[k]? = w.heap[k]?
theorem set_cells {w : World} {b : Nat} {u v : Value} {t : TypeId} (h : w.heap[b]? = some (.cells #[u] t (0, 0))) : (w.setCell ⟨b, 0, none⟩ v).heap[b]? = some (.cells #[v] t (0, 0)) :=
  heap_setCell_same w b 0 #[u] t v h
theorem far_set {w : World} {b i k : Nat} {v : Value} (h : k ≠ b) : (w.setCell ⟨b, i, none⟩ v).heap[k]? = w.heap[k]? := Below.heap_setCell w ⟨b, i, none⟩ v k h
def stepTo (at_ tt : Int) : Int := if at_ < tt then tt else at_
theorem row_far {C : Nat} {w : World} {v : Value} {L : List Pt} (h : Row C w v L) {b : Nat} (hb : b < C) : v.ownBlock ≠ some b := fun e => by
  have := (World.ownsRow.lt h) b e; omega
/-- one more part laid, and the place set -/
theorem PS.put {C ba bo : Nat} {w w5 : World} {at_ tt : Int} {v v' : Value} {L L' : List Pt} (h : PS C ba bo w at_ v L) (hr : Row C w5 v' L') (hb : Below C w w5) (hg : w.grownBy w5 v.ownBlock) :
    PS C ba bo ((w5.setCell ⟨bo, 0, none⟩ v').setCell ⟨ba, 0, none⟩ (.int .i64 tt)) tt v' L' ∧ Rest ba bo v w ((w5.setCell ⟨bo, 0, none⟩ v').setCell ⟨ba, 0, none⟩ (.int .i64 tt)) := by
  have K1 := (hb.block ba h.lba).trans h.pat
  have K2 := (hb.block bo h.lbo).trans h.out
  refine ⟨⟨?_, ?_, ?_, h.lba, h.lbo, h.ne, ?_⟩, ?_, ?_, ?_, ?_, ?_⟩
  · exact set_cells ((far_set h.ne).trans K1)
  · exact (far_set (fun e => h.ne e.symm)).trans (set_cells K2)
  · exact ((Only.refl ba _).setCell 0 _).keepRow (((Only.refl bo _).setCell 0 _).keepRow hr (row_far hr h.lbo)) (row_far hr h.lba)
  · have := h.le; have := hb.size; simp; omega
  · have := hb.size; simpa using this
  · exact hb.os
  · exact hb.tape
  · exact hb.output
  · intro k hk h1 h2 h3
    rw [far_set h1, far_set h2]
    exact hg.block k hk h3
/-- one more part laid -/
theorem PS.lay {C ba bo : Nat} {w w5 : World} {at_ : Int} {v v' : Value} {L L' : List Pt} (h : PS C ba bo w at_ v L) (hr : Row C w5 v' L') (hb : Below C w w5) (hg : w.grownBy w5 v.ownBlock) :
    PS C ba bo (w5.setCell ⟨bo, 0, none⟩ v') at_ v' L' ∧ Rest ba bo v w (w5.setCell ⟨bo, 0, none⟩ v') := by
  have K1 := (hb.block ba h.lba).trans h.pat
  have K2 := (hb.block bo h.lbo).trans h.out
  refine ⟨⟨?_, ?_, ?_, h.lba, h.lbo, h.ne, ?_⟩, ?_, ?_, ?_, ?_, ?_⟩
  · exact (far_set h.ne).trans K1
  · exact set_cells K2
  · exact ((Only.refl bo _).setCell 0 _).keepRow hr (row_far hr h.lbo)
  · have := h.le; have := hb.size; simp; omega
  · have := hb.size; simpa using this
  · exact hb.os
  · exact hb.tape
  · exact hb.output
  · intro k hk h1 h2 h3
    rw [far_set h2]
    exact hg.block k hk h3
theorem Rest.refl (ba bo : Nat) (v : Value) (w : World) : Rest ba bo v w w := ⟨Nat.le_refl _, rfl, rfl, rfl, fun _ _ _ _ _ => rfl⟩
end Go.Proofs.Ytappgelpigoknaa.ExtW
