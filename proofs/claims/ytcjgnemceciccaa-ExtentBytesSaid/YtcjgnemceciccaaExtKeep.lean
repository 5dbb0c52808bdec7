/- The statements' helpers: two lists alike, a copy, where a byte lies. -/
import Derived.Test.YtcjgnemceciccaaExtSpr
namespace Go.Proofs.Ytcjgnemceciccaa.ExtW
open Go.RowKit
set_option maxHeartbeats 1600000 in
theorem parts_same (oa ob : Option Addr) (na nb ca cb : Nat) (l : List Pt) (hna : na = l.length) (hnb : nb = l.length) (hl : l.length ≤ 1000000) (w : World) (h1 : PtsAt w.heap.size oa l w) (h2 : PtsAt w.heap.size ob l w) :
    Calls Try.prog 16 #[.slice oa na ca, .slice ob nb cb] w fun e w' => e = .returned (.bool true) ∧ Below w.heap.size w w' := by
  subst hna; subst hnb
  have HP := Lib.hid h1
  have HQ := Lib.hid h2
  clear h1 h2
  go_enter Try.func16, Try.ntmps16
  go_wp2_with fail
  go_loopw [5] (fun i wr => ∃ k : Nat, k ≤ l.length ∧ i = .int .i64 (k : Int) ∧ Below w.heap.size w wr) (fun i _ => ((l.length : Int) - intOf i).toNat)
  case atStart => exact ⟨0, by omega, rfl, Below.refl _ _⟩
  case round =>
    obtain ⟨k, hk, rfl, hbel⟩ := hrel
    have HB := Lib.hid hbel
    clear hbel
    by_cases hlt : k < l.length
    · obtain ⟨x, hx⟩ : ∃ x, l[k]? = some x := ⟨_, List.getElem?_eq_getElem hlt⟩
      obtain ⟨a, rfl, hab, c0, c1, c2, c3⟩ := (HP.out.below HB.out) k x hx
      obtain ⟨b, rfl, hbb, d0, d1, d2, d3⟩ := (HQ.out.below HB.out) k x hx
      have hk0 : (0 : Int) ≤ (k : Int) := by omega
      have hkl : (k : Int) < (l.length : Int) := by omega
      have z0 : (a.add (k * 4)).block < wr.heap.size := by rw [add_block]; have := HB.out.size; omega
      have z1 : (b.add (k * 4)).block < wr.heap.size := by rw [add_block]; have := HB.out.size; omega
      clear hx
      go_wp2_with fail
      go_region
      all_goals (go_wp2_with fail)
      all_goals exact ⟨⟨k + 1, by omega, by simp, (bstep (bstep HB.out (below_alloc wr _)) (below_alloc _ _)).drew⟩, by simp [intOf]; omega⟩
    · have hk1 : ¬ ((k : Int) < (l.length : Int)) := by omega
      go_wp2_with fail
      go_ret
      exact ⟨rfl, HB.out⟩
set_option maxHeartbeats 400000 in
theorem few_any (oa : Option Addr) (cap : Nat) (l : List Pt) (hl : l.length ≤ 1000000) (hn : oa = none → l.length = 0 ∧ cap = 0) (w : World) (h : PtsAt w.heap.size oa l w) :
    Calls Try.prog 11 #[.slice oa l.length cap] w fun e w' => ∃ oa' cap', e = .returned (.slice oa' l.length cap') ∧ Row w.heap.size w' (.slice oa' l.length cap') l ∧ Below w.heap.size w w' := by
  obtain ⟨i0, hi, hz0, hz1, hz2⟩ := info_parts partinfo
  have HP := Lib.hid h
  have HNI := Lib.hid hn
  clear h hn
  go_enter Try.func11, Try.ntmps11
  go_wp2_with (at_builtin; go_loud (refine wpList_append_copy rfl _ _ 22 rfl 31 i0 (.agg #[.int .i64 0, .int .i64 0, .int .i64 0, .int .i64 0]) 4 32 Try.underlying22 hi hz0 hz1 hz2 rfl (by decide) (by rfl) oa l.length cap (cellsOf l) (by rfl) HNI.out (cells_len l) (pts_news HP.out) (cells_onecell l) (by unfold maxLen; omega) (by omega) ?_; intro oa2 cap2 w2 hown2 hb2; have HR2 := Lib.hid hown2; have HB2 := Lib.hid hb2; clear hown2 hb2))
  go_ret
  exact ⟨oa2, cap2, rfl, HR2.out, HB2.out⟩
/-- where a byte lies, as the statements ask it -/
def atA (l : List Pt) (i : Int) : Int := match look l i with | some (a, _) => a | none => -1
def atF (l : List Pt) (i : Int) : Int := match look l i with | some (_, f) => f | none => 0
theorem at_cons_yes {x : Pt} {l : List Pt} {i : Int} (h : x.o ≤ i ∧ i < x.o + x.n) : atA (x :: l) i = x.a ∧ atF (x :: l) i = x.f + (i - x.o) := by
  unfold atA atF look; rw [if_pos h]; exact ⟨rfl, rfl⟩
theorem look_take_none {l : List Pt} {i : Int} {k : Nat} (h : look (l.take k) i = none) : look l i = look (l.drop k) i := by
  conv => lhs; rw [← List.take_append_drop k l]
  rw [look_append, h]; rfl
set_option maxHeartbeats 1600000 in
theorem at_any (oa : Option Addr) (n cap : Nat) (l : List Pt) (i : Int) (hn : n = l.length) (hi : -100000 ≤ i ∧ i ≤ 100000) (ho : ∀ x ∈ l, One x) (hl : l.length ≤ 1000000) (w : World) (h : PtsAt w.heap.size oa l w) :
    Calls Try.prog 25 #[.slice oa n cap, .int .i64 i] w fun e w' => e = .returned (.tuple #[.int .i64 (atA l i), .int .i64 (atF l i)]) ∧ Below w.heap.size w w' := by
  subst hn
  have HP := Lib.hid h
  have HO := Lib.hid ho
  clear h ho
  go_enter Try.func25, Try.ntmps25
  go_wp2_with fail
  go_loopw [6] (fun j wr => ∃ k : Nat, k ≤ l.length ∧ j = .int .i64 (k : Int) ∧ look (l.take k) i = none ∧ Below w.heap.size w wr) (fun j _ => ((l.length : Int) - intOf j).toNat)
  case atStart => exact ⟨0, by omega, rfl, rfl, Below.refl _ _⟩
  case round =>
    obtain ⟨k, hk, rfl, hnone, hbel⟩ := hrel
    have HB := Lib.hid hbel
    have HNO := Lib.hid hnone
    clear hbel hnone
    by_cases hlt : k < l.length
    · obtain ⟨x, hx⟩ : ∃ x, l[k]? = some x := ⟨_, List.getElem?_eq_getElem hlt⟩
      obtain ⟨a, rfl, hab, c0, c1, c2, c3⟩ := (HP.out.below HB.out) k x hx
      have hk0 : (0 : Int) ≤ (k : Int) := by omega
      have hkl : (k : Int) < (l.length : Int) := by omega
      have hxs := (HO.out x (List.mem_of_getElem? hx)).small
      have hw1 : IntKind.i64.wrap (x.o + x.n) = x.o + x.n := IntWalk.i64_in _ (by omega)
      have hw2 : IntKind.i64.wrap (x.f + i) = x.f + i := IntWalk.i64_in _ (by omega)
      have hw3 : IntKind.i64.wrap (x.f + i - x.o) = x.f + i - x.o := IntWalk.i64_in _ (by omega)
      have HD : Hid (l.drop k = x :: l.drop (k + 1)) := Lib.hid (by
        obtain ⟨_, rfl⟩ := List.getElem?_eq_some_iff.1 hx
        exact List.drop_eq_getElem_cons hlt)
      have MISS : Hid (¬ (x.o ≤ i ∧ i < x.o + x.n) → look (l.take (k + 1)) i = none) := Lib.hid fun hn => by
        rw [take_snoc hx, look_append, HNO.out, look, if_neg hn]; rfl
      have HIT : Hid (x.o ≤ i ∧ i < x.o + x.n → atA l i = x.a ∧ atF l i = x.f + i - x.o) := Lib.hid fun hy => by
        have e := look_take_none HNO.out
        rw [HD.out, look, if_pos hy] at e
        unfold atA atF
        rw [e]
        exact ⟨rfl, by show x.f + (i - x.o) = _; omega⟩
      clear hx hxs
      by_cases h1 : x.o ≤ i
      · by_cases h2 : i < x.o + x.n
        · have HH := Lib.hid (HIT.out ⟨h1, h2⟩)
          go_wp2_with fail
          refine held_below (by kernel_rfl) (by kernel_rfl) ?_
          repeat first
            | (refine held_skip ?_ ?_; (· first | rfl | (go_simp; done)); simp only [Act.put, List.setIfInBounds_toArray, List.set_cons_zero, List.set_cons_succ])
            | (refine held_val (v := ?_) ?_ ?_ ?_
               rotate_left
               · first | rfl | (go_simp; done)
               · intro wq hq
                 have e0 := cell_step hq c0
                 have e1 := cell_step hq c1
                 go_simp
                 with_reducible rfl
               simp only [Act.put, List.setIfInBounds_toArray, List.set_cons_zero, List.set_cons_succ])
          refine held_nil ?_
          intro w2 hb2
          have HB2 := Lib.hid (bstep HB.out hb2)
          replace c0 := cell_step hb2 c0
          replace c1 := cell_step hb2 c1
          replace c2 := cell_step hb2 c2
          replace c3 := cell_step hb2 c3
          clear hb2
          go_wp2_with fail
          refine held_below (by kernel_rfl) (by kernel_rfl) ?_
          repeat first
            | (refine held_skip ?_ ?_; (· first | rfl | (go_simp; done)); simp only [Act.put, List.setIfInBounds_toArray, List.set_cons_zero, List.set_cons_succ])
            | (refine held_val (v := ?_) ?_ ?_ ?_
               rotate_left
               · first | rfl | (go_simp; done)
               · intro wq hq
                 have e0 := cell_step hq c0
                 have e2 := cell_step hq c2
                 have e3 := cell_step hq c3
                 go_simp
                 with_reducible rfl
               simp only [Act.put, List.setIfInBounds_toArray, List.set_cons_zero, List.set_cons_succ])
          refine held_nil ?_
          intro w2 hb2
          have HB3 := Lib.hid (bstep HB2.out hb2)
          clear hb2
          go_wp2_with fail
          go_ret2
          exact ⟨by rw [HH.out.1, HH.out.2]; rfl, HB3.out⟩
        · have HM := Lib.hid (MISS.out (fun h => h2 h.2))
          have h2' : decide (i < x.o + x.n) = false := decide_eq_false h2
          clear h2
          go_wp2_with fail
          refine held_below (by kernel_rfl) (by kernel_rfl) ?_
          repeat first
            | (refine held_skip ?_ ?_; (· first | rfl | (go_simp; done)); simp only [Act.put, List.setIfInBounds_toArray, List.set_cons_zero, List.set_cons_succ])
            | (refine held_val (v := ?_) ?_ ?_ ?_
               rotate_left
               · first | rfl | (go_simp; done)
               · intro wq hq
                 have e0 := cell_step hq c0
                 have e1 := cell_step hq c1
                 go_simp
                 with_reducible rfl
               simp only [Act.put, List.setIfInBounds_toArray, List.set_cons_zero, List.set_cons_succ])
          refine held_nil ?_
          intro w2 hb2
          have HB2 := Lib.hid (bstep HB.out hb2)
          clear hb2
          go_wp2_with fail
          exact ⟨⟨k + 1, by omega, by simp, HM.out, HB2.out⟩, by simp [intOf]; omega⟩
      · have HM := Lib.hid (MISS.out (fun h => h1 h.1))
        have h1' : decide (x.o ≤ i) = false := decide_eq_false h1
        clear h1
        go_wp2_with fail
        refine held_below (by kernel_rfl) (by kernel_rfl) ?_
        repeat first
          | (refine held_skip ?_ ?_; (· first | rfl | (go_simp; done)); simp only [Act.put, List.setIfInBounds_toArray, List.set_cons_zero, List.set_cons_succ])
          | (refine held_val (v := ?_) ?_ ?_ ?_
             rotate_left
             · first | rfl | (go_simp; done)
             · intro wq hq
               have e0 := cell_step hq c0
               go_simp
               with_reducible rfl
             simp only [Act.put, List.setIfInBounds_toArray, List.set_cons_zero, List.set_cons_succ])
        refine held_nil ?_
        intro w2 hb2
        have HB2 := Lib.hid (bstep HB.out hb2)
        clear hb2
        go_wp2_with fail
        exact ⟨⟨k + 1, by omega, by simp, HM.out, HB2.out⟩, by simp [intOf]; omega⟩
    · obtain rfl : k = l.length := by omega
      have HH : Hid (atA l i = -1 ∧ atF l i = 0) := Lib.hid (by
        have e := HNO.out
        rw [List.take_length] at e
        unfold atA atF; rw [e]; exact ⟨rfl, rfl⟩)
      go_wp2_with fail
      go_ret2
      exact ⟨by rw [HH.out.1, HH.out.2]; rfl, HB.out⟩
end Go.Proofs.Ytcjgnemceciccaa.ExtW
