/- extent.Cut. -/
import Derived.Test.YtappgelpigoknaaExtJoined
namespace Go.Proofs.Ytappgelpigoknaa.ExtW
open Go.RowKit
theorem cut_app : ∀ (l l' : List Pt) (s : Int), cutL (l ++ l') s = cutL l s ++ cutL l' s
  | [], _, _ => rfl
  | x :: l, l', s => by
    have ih := cut_app l l' s
    simp only [List.cons_append, cutL, ih]
    split <;> rfl
theorem beh_app : ∀ (l l' : List Pt) (s : Int), behL (l ++ l') s = behL l s ++ behL l' s
  | [], _, _ => rfl
  | x :: l, l', s => by
    have ih := beh_app l l' s
    simp only [List.cons_append, behL, ih]
    split <;> rfl
theorem take_snoc {α : Type} {l : List α} {k : Nat} {x : α} (h : l[k]? = some x) : l.take (k + 1) = l.take k ++ [x] := by
  rw [List.take_add_one, h]; rfl
theorem good_is (oa : Option Addr) (cap : Nat) (l : List Pt) (b : Bool) (hb : decide (Good l) = b) (hl : l.length ≤ 9223372036854775807) (w : World) (h : PtsAt w.heap.size oa l w) :
    Calls Try.prog 48 #[.slice oa l.length cap] w fun e w' => e = .returned (.bool b) ∧ Below w.heap.size w w' := by
  rw [← hb]; exact good_any _ oa cap l hl w (Nat.le_refl _) h
theorem PtsAt.grow {oa : Option Addr} {l : List Pt} {w w' : World} (h : PtsAt w.heap.size oa l w) (hb : Below w.heap.size w w') : PtsAt w'.heap.size oa l w' := (h.below hb).mono hb.size
def cutS (l : List Pt) (s : Int) : List Pt := if Good l then cutL l s else []
set_option maxHeartbeats 1600000 in
theorem cut_any (oa : Option Addr) (cap : Nat) (l : List Pt) (s : Int) (hs : -9223372036854775808 ≤ s ∧ s ≤ 9223372036854775807) (hl : l.length ≤ 9223372036854775807) (w : World) (h : PtsAt w.heap.size oa l w) :
    Calls Try.prog 35 #[.slice oa l.length cap, .int .i64 s] w fun e w' => ∃ v, e = .returned v ∧ Row w.heap.size w' v (cutS l s) ∧ Below w.heap.size w w' := by
  obtain ⟨i0, hi, hz0, hz1, hz2⟩ := info_parts partinfo
  have HP := Lib.hid h
  clear h
  by_cases hg : Good l
  · have HG : Hid (decide (Good l) = true) := Lib.hid (decide_eq_true hg)
    have HS : Hid (cutS l s = cutL l s) := Lib.hid (if_pos hg)
    have HO : Hid (∀ x ∈ l, One x) := Lib.hid (chain_ones hg.2)
    have hl64 := hg.1
    clear hg hl
    go_enter Try.func35, Try.ntmps35
    go_wp2_with (go_at_call 48; refine (good_is _ _ _ _ HG.out (by omega) _ HP.out).mono ?_; rintro e w1 ⟨rfl, hb1⟩; have HP1 := Lib.hid (HP.out.grow hb1); have HB1 := Lib.hid hb1; clear hb1)
    go_loopw [5, 13] (fun v i wr => ∃ k : Nat, k ≤ l.length ∧ i = .int .i64 (k : Int) ∧ Row w1.heap.size wr v (cutL (l.take k) s) ∧ Below w1.heap.size w1 wr) (fun _ i _ => ((l.length : Int) - intOf i).toNat)
    case atStart => exact ⟨0, by omega, rfl, Row.nil _ _, Below.refl _ _⟩
    case round =>
      obtain ⟨k, hk, rfl, hrow, hbel⟩ := hrel
      have HB := Lib.hid hbel
      have HB0 : Hid (Below w.heap.size w wr) := Lib.hid (bstep HB1.out hbel)
      clear hbel
      by_cases hlt : k < l.length
      · obtain ⟨x, hx⟩ : ∃ x, l[k]? = some x := ⟨_, List.getElem?_eq_getElem hlt⟩
        obtain ⟨a, rfl, hab, c0, c1, c2, c3⟩ := (HP1.out.below HB.out) k x hx
        have hxs := (HO.out x (List.mem_of_getElem? hx)).small
        have HX1 : Hid (cutL (l.take (k + 1)) s = cutL (l.take k) s ++ cutL [x] s) := Lib.hid (by rw [take_snoc hx, cut_app])
        have HLEN : (cutL (l.take k) s).length ≤ k := by have := cut_len (l.take k) s; simp only [List.length_take] at this; omega
        generalize cutL (l.take k) s = J at hrow HX1 HLEN
        obtain ⟨oa2, cap2, rfl, hc2, _, _⟩ := hrow.form
        have HX := Lib.hid hx
        have HOWN : Hid (wr.ownsRow w1.heap.size 40 4 (.slice oa2 J.length cap2) J.length (cellsOf J)) := Lib.hid hrow
        clear hx hrow
        by_cases h1 : x.o < s
        · have hw : IntKind.i64.wrap (s - x.o) = s - x.o := IntWalk.i64_in _ (by omega)
          by_cases h2 : x.n ≤ s - x.o
          · have HC : Hid (cutL [x] s = [x]) := Lib.hid (by rw [cutL, if_pos h1, Int.min_eq_left h2]; rfl)
            go_wp2_with (at_builtin; refine wpList_append_newB rfl _ _ 37 rfl w1.heap.size 40 i0 (.agg #[.int .i64 0, .int .i64 0, .int .i64 0, .int .i64 0]) 4 32 Try.underlying37 hi hz0 hz1 hz2 rfl (by decide) _ _ _ (by rfl) (HOWN.out.alloc _) _ 1 1 (by rfl) rfl (cells_onecell [x]) (by unfold maxLen; omega) (by omega) (by have := HB.out.size; simp; omega) (by simp) ?_; intro oa5 cap5 w5 hown5 hbel5 _; have HS5 := Lib.hid hown5; have HB5 := Lib.hid hbel5; clear hown5 hbel5)
            exact ⟨⟨k + 1, by omega, by simp, by rw [HX1.out, HC.out]; exact Row.snoc x HS5.out, HB.out.trans (((below_alloc wr _).mono HB.out.size).trans HB5.out)⟩, by simp [intOf]; omega⟩
          · have h2' : s - x.o < x.n := by omega
            have HC : Hid (cutL [x] s = [⟨x.o, s - x.o, x.a, x.f⟩]) := Lib.hid (by rw [cutL, if_pos h1, Int.min_eq_right (by omega)]; rfl)
            clear h2
            go_wp2_with (at_builtin; refine wpList_append_newB rfl _ _ 37 rfl w1.heap.size 40 i0 (.agg #[.int .i64 0, .int .i64 0, .int .i64 0, .int .i64 0]) 4 32 Try.underlying37 hi hz0 hz1 hz2 rfl (by decide) _ _ _ (by rfl) (HOWN.out.alloc _) _ 1 1 (by rfl) rfl (cells_onecell [⟨x.o, s - x.o, x.a, x.f⟩]) (by unfold maxLen; omega) (by omega) (by have := HB.out.size; simp; omega) (by simp) ?_; intro oa5 cap5 w5 hown5 hbel5 _; have HS5 := Lib.hid hown5; have HB5 := Lib.hid hbel5; clear hown5 hbel5)
            exact ⟨⟨k + 1, by omega, by simp, by rw [HX1.out, HC.out]; exact Row.snoc ⟨x.o, s - x.o, x.a, x.f⟩ HS5.out, HB.out.trans (((below_alloc wr _).mono HB.out.size).trans HB5.out)⟩, by simp [intOf]; omega⟩
        · have HC : Hid (cutL [x] s = []) := Lib.hid (by rw [cutL, if_neg h1]; rfl)
          go_wp2_with fail
          exact ⟨⟨k + 1, by omega, by simp, by rw [HX1.out, HC.out, List.append_nil]; exact HOWN.out.alloc _, HB.out.trans ((below_alloc wr _).mono HB.out.size)⟩, by simp [intOf]; omega⟩
      · obtain rfl : k = l.length := by omega
        rw [List.take_length] at hrow
        obtain ⟨oa2, cap2, rfl, _, _, _⟩ := hrow.form
        have HR := Lib.hid hrow
        clear hrow
        go_wp2_with fail
        go_ret
        exact ⟨_, rfl, by rw [HS.out]; exact HR.out.mono HB1.out.size, HB0.out⟩
  · have HG : Hid (decide (Good l) = false) := Lib.hid (decide_eq_false hg)
    have HS : Hid (cutS l s = []) := Lib.hid (if_neg hg)
    clear hg
    go_enter Try.func35, Try.ntmps35
    go_wp2_with (go_at_call 48; refine (good_is _ _ _ _ HG.out (by omega) _ HP.out).mono ?_; rintro e w1 ⟨rfl, hb1⟩; have HB1 := Lib.hid hb1; clear hb1)
    go_ret
    exact ⟨_, rfl, by rw [HS.out]; exact Row.nil _ _, HB1.out⟩
end Go.Proofs.Ytappgelpigoknaa.ExtW
