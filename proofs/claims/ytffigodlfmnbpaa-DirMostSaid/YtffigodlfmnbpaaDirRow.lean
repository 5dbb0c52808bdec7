/- ahead; Same, Own, Texts; the program's List. -/
import Derived.Test.YtffigodlfmnbpaaDirRef
namespace Go.Proofs.Ytffigodlfmnbpaa.DirW
open Go.RowKit DirP
open PathW (nameB)
set_option maxHeartbeats 400000 in
theorem ahead_is (x y : En) (r : Bool) (hr : decide (kl x.key y.key) = r) (w : World) : Calls Try.prog 30 #[.agg #[.int .i64 x.d, .string x.s, .int .i64 x.i], .agg #[.int .i64 y.d, .string y.s, .int .i64 y.i]] w fun e w' => e = .returned (.bool r) ∧ Below w.heap.size w w' := by
  have HB := Lib.hid (bstep (below_alloc w (.cells #[.int .i64 x.d, .string x.s, .int .i64 x.i] 66)) (below_alloc _ (.cells #[.int .i64 y.d, .string y.s, .int .i64 y.i] 66)))
  have HK : Hid (decide (kl x.key y.key) = (decide (x.d < y.d) || (decide (x.d = y.d) && lsB x.s y.s))) := Lib.hid (by
    rw [Bool.eq_iff_iff, decide_eq_true_iff]
    unfold kl En.key
    simp)
  by_cases h1 : x.d < y.d
  · obtain rfl : true = r := by rw [← hr, HK.out, decide_eq_true h1]; rfl
    clear hr
    go_enter Try.func30, Try.ntmps30
    go_wp2
    go_ret
    exact ⟨rfl, HB.out⟩
  · have d1 : decide (x.d < y.d) = false := decide_eq_false h1
    by_cases h2 : x.d = y.d
    · have d2 : (x.d == y.d) = true := by rw [beq_iff_eq]; exact h2
      have d3 : Op.bytesLess x.s.toList y.s.toList = r := by rw [← hr, HK.out, d1, decide_eq_true h2]; rfl
      clear hr h1 h2
      go_enter Try.func30, Try.ntmps30
      go_wp2
      go_ret
      exact ⟨rfl, HB.out⟩
    · have d2 : (x.d == y.d) = false := by simpa using h2
      obtain rfl : false = r := by rw [← hr, HK.out, d1, decide_eq_false h2]; rfl
      clear hr h1 h2
      go_enter Try.func30, Try.ntmps30
      go_wp2
      go_ret
      exact ⟨rfl, HB.out⟩
set_option maxHeartbeats 800000 in
theorem same_any (B : Nat) (oa ob : Option Addr) (ca cb : Nat) (L : List En) (hlen : L.length ≤ 100000) (w : World) (hBw : B ≤ w.heap.size) (ha : KAt encE 3 B oa L w) (hb : KAt encE 3 B ob L w) :
    Calls Try.prog 21 #[.slice oa L.length ca, .slice ob L.length cb] w fun e w' => e = .returned (.bool true) ∧ Below w.heap.size w w' := by
  have HA := Lib.hid ha
  have HB := Lib.hid hb
  have HBW := Lib.hid hBw
  clear ha hb hBw
  go_enter Try.func21, Try.ntmps21
  go_wp2_with fail
  go_loopw [5] (fun i wr => ∃ k : Nat, k ≤ L.length ∧ i = .int .i64 (k : Int) ∧ Below w.heap.size w wr) (fun i _ => ((L.length : Int) - intOf i).toNat)
  case atStart => exact ⟨0, by omega, rfl, Below.refl _ _⟩
  case round =>
    obtain ⟨k, hk, rfl, hbel⟩ := hrel
    have HBEL := Lib.hid hbel
    clear hbel
    by_cases hlt : k < L.length
    · obtain ⟨x, hx⟩ : ∃ x, L[k]? = some x := ⟨_, List.getElem?_eq_getElem hlt⟩
      obtain ⟨a, rfl, hab, c0, c1, c2⟩ := en_at (HA.out.below (HBEL.out.mono HBW.out)) hx
      obtain ⟨b, rfl, hbb, d0, d1, d2⟩ := en_at (HB.out.below (HBEL.out.mono HBW.out)) hx
      clear hx
      go_wp2_with fail
      go_quiet (fail)
      go_wp2_with fail
      exact ⟨⟨k + 1, by omega, by simp, below_drewN HBEL.out _⟩, by simp [intOf]; omega⟩
    · obtain rfl : k = L.length := by omega
      go_wp2_with fail
      go_ret
      exact ⟨rfl, HBEL.out⟩
set_option maxHeartbeats 800000 in
theorem own_any (B : Nat) (oa : Option Addr) (ca : Nat) (L : List En) (hlen : L.length ≤ 100000) (w : World) (hBw : B ≤ w.heap.size) (ha : KAt encE 3 B oa L w) :
    Calls Try.prog 22 #[.slice oa L.length ca] w fun e w' => ∃ v, e = .returned v ∧ RowK 66 encE 3 w.heap.size w' v L ∧ Below w.heap.size w w' := by
  obtain ⟨i0, hi, hz0, hz1, hz2⟩ := info_parts ren_info
  have HA := Lib.hid ha
  have HBW := Lib.hid hBw
  clear ha hBw
  go_enter Try.func22, Try.ntmps22
  go_wp2_with fail
  go_loopw [3, 4] (fun v i wr => ∃ k : Nat, k ≤ L.length ∧ i = .int .i64 (k : Int) ∧ RowK 66 encE 3 w.heap.size wr v (L.take k) ∧ Below w.heap.size w wr) (fun _ i _ => ((L.length : Int) - intOf i).toNat)
  case atStart => exact ⟨0, by omega, rfl, RowK.nil _ _, Below.refl _ _⟩
  case round =>
    obtain ⟨k, hk, rfl, hrow, hbel⟩ := hrel
    have HBEL := Lib.hid hbel
    have hsz := hbel.size
    clear hbel
    by_cases hlt : k < L.length
    · obtain ⟨x, hx⟩ : ∃ x, L[k]? = some x := ⟨_, List.getElem?_eq_getElem hlt⟩
      obtain ⟨a, rfl, hab, c0, c1, c2⟩ := en_at (HA.out.below (HBEL.out.mono HBW.out)) hx
      have HT := Lib.hid (take_snoc hx)
      have hlj : (L.take k).length ≤ k := List.length_take_le _ _
      obtain ⟨oa2, cap2, rfl, hcc, _, _⟩ := hrow.form
      generalize L.take k = J at hrow HT hlj hcc
      have HOWN : Hid (wr.ownsRow w.heap.size 66 3 (.slice oa2 J.length cap2) J.length (J.flatMap encE)) := Lib.hid hrow
      obtain ⟨xd, xs, xi⟩ := x
      simp only at c0 c1 c2
      have HX := Lib.hid hx
      clear hrow hx
      go_wp2_with fail
      go_region_law ((refine step_append_newD rfl _ _ 42 rfl w.heap.size 66 i0 (.agg #[.int .i64 0, .string ByteArray.empty, .int .i64 0]) 3 32 Try.underlying42 hi hz0 hz1 hz2 rfl (by decide) _ _ _ (by rfl) HOWN.out _ 1 1 (by rfl) rfl (en_one ⟨xd, xs, xi⟩) (by unfold maxLen; omega) (by omega) hsz (by simp) ?_; intro oa6 cap6 w6 hown6 hbel6; have HS6 := Lib.hid hown6; have HB6 := Lib.hid hbel6; clear hown6 hbel6))
      all_goals go_wp2_with fail
      all_goals exact ⟨⟨k + 1, by omega, by simp, by rw [HT.out]; exact RowK.snoc (enc := encE) (l := J) (⟨xd, xs, xi⟩ : En) rfl rfl HS6.out, HBEL.out.trans HB6.out⟩, by simp [intOf]; omega⟩
    · obtain rfl : k = L.length := by omega
      rw [List.take_length] at hrow
      have HR := Lib.hid hrow
      clear hrow
      go_wp2_with fail
      go_ret
      exact ⟨_, rfl, HR.out, HBEL.out⟩
theorem s_at {B : Nat} {oa : Option Addr} {l : List ByteArray} {w : World} (h : KAt encS 1 B oa l w) {i : Nat} {x : ByteArray} (hx : l[i]? = some x) :
    ∃ a, oa = some a ∧ a.block < B ∧ w.cell? (a.add i) = some (.string x) := by
  obtain ⟨a, h1, h2, h3⟩ := h i x hx
  exact ⟨a, h1, h2, by have := h3 0 _ rfl; rw [Nat.mul_one] at this; exact this⟩
set_option maxHeartbeats 800000 in
theorem texts_any (B : Nat) (oa ob : Option Addr) (ca cb : Nat) (L : List ByteArray) (hlen : L.length ≤ 100000) (w : World) (hBw : B ≤ w.heap.size) (ha : KAt encS 1 B oa L w) (hb : KAt encS 1 B ob L w) :
    Calls Try.prog 18 #[.slice oa L.length ca, .slice ob L.length cb] w fun e w' => e = .returned (.bool true) ∧ Below w.heap.size w w' := by
  have HA := Lib.hid ha
  have HB := Lib.hid hb
  have HBW := Lib.hid hBw
  clear ha hb hBw
  go_enter Try.func18, Try.ntmps18
  go_wp2_with fail
  go_loopw [5] (fun i wr => ∃ k : Nat, k ≤ L.length ∧ i = .int .i64 (k : Int) ∧ Below w.heap.size w wr) (fun i _ => ((L.length : Int) - intOf i).toNat)
  case atStart => exact ⟨0, by omega, rfl, Below.refl _ _⟩
  case round =>
    obtain ⟨k, hk, rfl, hbel⟩ := hrel
    have HBEL := Lib.hid hbel
    clear hbel
    by_cases hlt : k < L.length
    · obtain ⟨x, hx⟩ : ∃ x, L[k]? = some x := ⟨_, List.getElem?_eq_getElem hlt⟩
      obtain ⟨a, rfl, hab, c0⟩ := s_at (HA.out.below (HBEL.out.mono HBW.out)) hx
      obtain ⟨b, rfl, hbb, d0⟩ := s_at (HB.out.below (HBEL.out.mono HBW.out)) hx
      clear hx
      go_wp2_with fail
      go_quiet (fail)
      go_wp2_with fail
      exact ⟨⟨k + 1, by omega, by simp, below_drewN HBEL.out _⟩, by simp [intOf]; omega⟩
    · obtain rfl : k = L.length := by omega
      go_wp2_with fail
      go_ret
      exact ⟨rfl, HBEL.out⟩
set_option maxHeartbeats 1600000 in
theorem list_any (nb b c : Nat) (L : List En) (hlen : L.length ≤ 100000) (d : Int) (w : World) (h : DIs w nb b c L) :
    Calls Try.prog 19 #[.pointer (some ⟨nb, 0, none⟩), .int .i64 d] w fun e w' => ∃ v, e = .returned v ∧ RowK 9 encS 1 w.heap.size w' v (namesL L d) ∧ Below w.heap.size w w' := by
  obtain ⟨i0, hi, hz0, hz1, hz2⟩ := info_parts str_info
  have HS2 := Lib.hid (some_any nb b c L hlen _ #[.pointer (some ⟨w.heap.size, 0, none⟩)] (fun a => decide (a.d = d)) (w.alloc (.cells #[.int .i64 d] 3)) enter1 (such_dir _ d _ (alloc_cell w _ _ 0 _ rfl)) (h.grow (below_alloc _ _)))
  have HM : Hid (namesL L d = (L.filter fun a => decide (a.d = d)).map (·.s)) := Lib.hid rfl
  have hfl := List.length_filter_le (fun a : En => decide (a.d = d)) L
  clear h
  generalize L.filter (fun a => decide (a.d = d)) = F at HS2 HM hfl
  go_enter Try.func19, Try.ntmps19
  go_wp2_with (go_at_call 26; refine HS2.out.mono ?_; rintro e w1 ⟨v, rfl, hr, hb1⟩; obtain ⟨oa, cap, rfl, hc, hc2, hnone⟩ := hr.form; have HP := Lib.hid (hr.pts en_len (by omega)); have HB1 := Lib.hid (bstep (below_alloc w _) hb1); clear hr hb1 hnone)
  go_loopw [5, 12] (fun v i wr => ∃ k : Nat, k ≤ F.length ∧ i = .int .i64 (k : Int) ∧ RowK 9 encS 1 w1.heap.size wr v ((F.take k).map (·.s)) ∧ Below w1.heap.size w1 wr) (fun _ i _ => ((F.length : Int) - intOf i).toNat)
  case atStart => exact ⟨0, by omega, rfl, RowK.nil _ _, Below.refl _ _⟩
  case round =>
    obtain ⟨k, hk, rfl, hrow, hbel⟩ := hrel
    have HBEL := Lib.hid hbel
    have hsz := hbel.size
    clear hbel
    by_cases hlt : k < F.length
    · obtain ⟨x, hx⟩ : ∃ x, F[k]? = some x := ⟨_, List.getElem?_eq_getElem hlt⟩
      obtain ⟨a, rfl, hab, c0, c1, c2⟩ := en_at (HP.out.below HBEL.out) hx
      have HT : Hid ((F.take (k + 1)).map (·.s) = (F.take k).map (·.s) ++ [x.s]) := Lib.hid (by rw [take_snoc hx, List.map_append]; rfl)
      have hlj : ((F.take k).map (·.s)).length ≤ k := by rw [List.length_map]; exact List.length_take_le _ _
      obtain ⟨oa2, cap2, rfl, hcc, _, _⟩ := hrow.form
      generalize (F.take k).map (·.s) = J at hrow HT hlj hcc
      have HOWN : Hid (RowK 9 encS 1 w1.heap.size (wr.alloc (.cells (encE x).toArray 64)) (.slice oa2 J.length cap2) J) := Lib.hid (hrow.grow (below_alloc _ _))
      obtain ⟨xd, xs, xi⟩ := x
      simp only at c0 c1 c2 HT
      have hsz2 : w1.heap.size ≤ (wr.alloc (.cells #[.int .i64 xd, .string xs, .int .i64 xi] 64)).heap.size := by simp; omega
      have HX := Lib.hid hx
      clear hrow hx
      go_wp2_with (at_builtin; go_loud (refine wpList_append_newB rfl _ _ 48 rfl w1.heap.size 9 i0 (.string ByteArray.empty) 1 16 Try.underlying48 hi hz0 hz1 hz2 rfl (by decide) _ _ _ (by rfl) HOWN.out _ 1 1 (by rfl) rfl (st_one xs) (by unfold maxLen; omega) (by omega) hsz2 (by simp) ?_; intro oa6 cap6 w6 hown6 hbel6 _; have HS6 := Lib.hid hown6; have HB6 := Lib.hid hbel6; clear hown6 hbel6))
      exact ⟨⟨k + 1, by omega, by simp, by rw [HT.out]; exact RowK.snoc (enc := encS) (l := J) xs rfl rfl HS6.out, HBEL.out.trans (((below_alloc wr _).mono HBEL.out.size).trans HB6.out)⟩, by simp [intOf]; omega⟩
    · obtain rfl : k = F.length := by omega
      rw [List.take_length] at hrow
      have HR := Lib.hid hrow
      clear hrow
      go_wp2_with fail
      go_ret
      exact ⟨_, rfl, by rw [HM.out]; exact HR.out.mono HB1.out.size, bstep HB1.out HBEL.out⟩
end Go.Proofs.Ytffigodlfmnbpaa.DirW
