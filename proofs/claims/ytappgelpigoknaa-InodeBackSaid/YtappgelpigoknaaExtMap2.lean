/- extent: bytesOf, parts. -/
import Derived.Test.YtappgelpigoknaaExtMap
namespace Go.Proofs.Ytappgelpigoknaa.ExtW
set_option maxRecDepth 100000
open Go.RowKit
theorem fold_over : ∀ {lo : Int} {l : List Pt} {hi : Int} (_ : Sorted lo l hi) (g : Int → Option (Int × Int)) (i : Int), (l.foldl overG g) i = (look l i).or (g i)
  | _, [], _, _, g, i => by simp [look]
  | lo, x :: l, hi, h, g, i => by
    rw [List.foldl_cons, fold_over h.2.2, look]
    unfold overG
    by_cases c : x.o ≤ i ∧ i < x.o + x.n
    · rw [if_pos c, if_pos c, look_low h.2.2 i c.2]; rfl
    · rw [if_neg c, if_neg c]
theorem fold_look {lo : Int} {l : List Pt} {hi : Int} (h : Sorted lo l hi) : l.foldl overG (fun _ => none) = look l := by
  funext i
  rw [fold_over h]; simp
set_option maxHeartbeats 1600000 in
theorem bytesof_any (oa : Option Addr) (cap : Nat) (l : List Pt) (hg : Good l) (w : World) (h : PtsAt w.heap.size oa l w) :
    Calls Try.prog 59 #[.slice oa l.length cap] w fun e w' => ∃ b n, e = .returned (.map (some b)) ∧ PlIs w' b n (look l) ∧ w.heap.size ≤ b ∧ Below w.heap.size w w' := by
  have HP := Lib.hid h
  have HO : Hid (∀ y ∈ l, One y) := Lib.hid (chain_ones hg.2)
  have HS := Lib.hid (good_sorted hg)
  have hl64 := hg.1
  have hmm := @run_makeMap Try.prog
  have H0 : Hid (PlIs (w.alloc (.map #[] 0)) w.heap.size 0 (fun _ => none)) := Lib.hid (MapIs.made w)
  have HB0 := Lib.hid (below_alloc w (.map #[] 0))
  clear h hg
  go_enter Try.func59, Try.ntmps59
  go_wp2_with fail
  generalize hb : w.heap.size = b at H0 ⊢
  have HBB := Lib.hid hb
  generalize w.alloc (.map #[] 0) = w0 at *
  clear hb hmm
  go_loopw [9] (fun i wr => ∃ (k n : Nat), k ≤ l.length ∧ i = .int .i64 (k : Int) ∧ PlIs wr b n ((l.take k).foldl overG (fun _ => none)) ∧ Below w.heap.size w wr) (fun i _ => ((l.length : Int) - intOf i).toNat)
  case atStart => exact ⟨0, 0, by omega, rfl, H0.out, HB0.out⟩
  case round =>
    obtain ⟨k, n, hk, rfl, hm, hbel⟩ := hrel
    have HM := Lib.hid hm
    have HB := Lib.hid hbel
    clear hm hbel
    by_cases hlt : k < l.length
    · obtain ⟨x, hx⟩ : ∃ x, l[k]? = some x := ⟨_, List.getElem?_eq_getElem hlt⟩
      obtain ⟨a, rfl, hab, c0, c1, c2, c3⟩ := (HP.out.below HB.out) k x hx
      have HX1 : Hid ((l.take (k + 1)).foldl overG (fun _ => none) = overG ((l.take k).foldl overG (fun _ => none)) x) := Lib.hid (by rw [take_snoc hx, List.foldl_append]; rfl)
      have HOX := Lib.hid (HO.out x (List.mem_of_getElem? hx))
      have HX := Lib.hid hx
      clear hx
      go_wp2_with (go_at_call 71; refine (bput_any x HOX.out b n _ _ (MapIs.alloc HM.out _)).mono ?_; rintro e w5 ⟨rfl, hm5, ho5⟩; have HM5 := Lib.hid hm5; have HO5 := Lib.hid ho5; clear hm5 ho5)
      exact ⟨⟨k + 1, _, by omega, by simp, by rw [HX1.out]; exact HM5.out, (bstep HB.out (below_alloc wr _)).trans (HO5.out.below (by have := HBB.out; omega) (by have := HB.out.size; simp; omega))⟩, by simp [intOf]; omega⟩
    · obtain rfl : k = l.length := by omega
      rw [List.take_length] at HM
      go_wp2_with fail
      go_ret
      exact ⟨b, n, rfl, by rw [← fold_look HS.out]; exact HM.out, by rw [← HBB.out]; omega, HB.out⟩
set_option maxHeartbeats 1600000 in
theorem parts_any (b n : Nat) (g : Int → Option (Int × Int)) (ho : ∀ x ∈ units g 0 8192, One x) (w : World) (h : PlIs w b n g) :
    Calls Try.prog 60 #[.map (some b)] w fun e w' => ∃ v, e = .returned (.tuple #[v, .int .i64 (fewE (joinL (units g 0 8192)))]) ∧ Row w.heap.size w' v (fewL (joinL (units g 0 8192))) ∧ Below w.heap.size w w' := by
  obtain ⟨i0, hi, hz0, hz1, hz2⟩ := info_parts partinfo
  have HM0 := Lib.hid h
  obtain ⟨N, hN⟩ : ∃ N : Nat, N = 8192 := ⟨_, rfl⟩
  have hNi : (8192 : Int) = N := by omega
  have HN := Lib.hid hN
  rw [← hN] at ho ⊢
  have HO := Lib.hid ho
  clear h ho hN
  go_enter Try.func60, Try.ntmps60
  go_wp2_with fail
  have HNI := Lib.hid hNi
  clear hNi
  go_loopw [4, 8] (fun v i wr => ∃ k : Nat, k ≤ N ∧ i = .int .i64 (k : Int) ∧ Row w.heap.size wr v (units g 0 k) ∧ Below w.heap.size w wr) (fun _ i _ => ((N : Int) - intOf i).toNat)
  case atStart => exact ⟨0, by omega, rfl, Row.nil _ _, Below.refl _ _⟩
  case round =>
    obtain ⟨k, hk, rfl, hrow, hbel⟩ := hrel
    have HB := Lib.hid hbel
    have hn8 := HN.out
    have HLEN : Hid ((units g 0 k).length ≤ k) := Lib.hid (by
      have : ∀ k : Nat, (units g 0 k).length ≤ k := by
        intro k
        induction k with
        | zero => simp [units]
        | succ k ih =>
          rw [units, List.length_append]
          split <;> simp <;> omega
      exact this k)
    have HU : Hid (units g 0 (k + 1) = units g 0 k ++ (match g (0 + k) with | some (a, f) => [⟨0 + k, 1, a, f⟩] | none => [])) := Lib.hid rfl
    obtain ⟨oa2, cap2, rfl, hc2, _, _⟩ := hrow.form
    have HMR := Lib.hid (MapIs.keep HM0.out (hbel))
    clear hbel
    by_cases hlt : k < N
    · have hk8 : (k : Int) < 8192 := by omega
      have HK := Lib.hid (plOk_of (i := (k : Int)) (by omega))
      have HLEN2 := HLEN.out
      generalize units g 0 k = J at hrow HU HLEN hc2 HLEN2 ⊢
      have HOWN : Hid (wr.ownsRow w.heap.size 40 4 (.slice oa2 J.length cap2) J.length (cellsOf J)) := Lib.hid hrow
      clear hrow hn8
      rw [Int.zero_add] at HU
      cases hgk : g (k : Int) with
      | none =>
        rw [hgk] at HU
        have HG := Lib.hid hgk
        clear hgk
        go_wp2_with (at_lookup; go_loud (refine wpList_map_look_none _ rfl _ _ 107 112 true rfl plMK Try.underlying107 _ (spZero _) b n g HMR.out (by rfl) (k : Int) HK.out (by rfl) HG.out ?_; unfold spV; simp only [if_true]))
        exact ⟨⟨k + 1, by omega, by simp, by rw [HU.out, List.append_nil]; exact HOWN.out.alloc _, bstep HB.out (below_alloc wr _)⟩, by simp [intOf]; omega⟩
      | some y =>
        obtain ⟨a, f⟩ := y
        rw [hgk] at HU
        have HG := Lib.hid hgk
        clear hgk
        go_wp2_with (first
          | (at_lookup; go_loud (refine wpList_map_look_some _ rfl _ _ 107 112 true rfl plMK Try.underlying107 _ (spZero _) b n g HMR.out (by rfl) (k : Int) HK.out (by rfl) (a, f) HG.out (.agg #[.int .i64 a, .int .i64 f]) rfl ?_; simp only [if_true]))
          | (at_builtin; go_loud (refine wpList_append_newB rfl _ _ 37 rfl w.heap.size 40 i0 (.agg #[.int .i64 0, .int .i64 0, .int .i64 0, .int .i64 0]) 4 32 Try.underlying37 hi hz0 hz1 hz2 rfl (by decide) _ _ _ (by rfl) (HOWN.out.alloc _) _ 1 1 (by rfl) rfl (cells_onecell [⟨k, 1, a, f⟩]) (by unfold maxLen; omega) (by omega) (by have := HB.out.size; simp; omega) (by simp) ?_; intro oa5 cap5 w5 hown5 hbel5 _; have HS5 := Lib.hid hown5; have HB5 := Lib.hid hbel5; clear hown5 hbel5)))
        exact ⟨⟨k + 1, by omega, by simp, by rw [HU.out]; exact Row.snoc ⟨k, 1, a, f⟩ HS5.out, HB.out.trans (((below_alloc wr _).mono HB.out.size).trans HB5.out)⟩, by simp [intOf]; omega⟩
    · obtain rfl : k = N := by omega
      have hk8 : ¬ ((k : Int) < 8192) := by omega
      have HPT := Lib.hid (Row.pts hrow)
      have HSO : Hid (Sorted 0 (units g 0 k) 8192) := Lib.hid (by have := units_sorted g 0 k; rwa [show (0 : Int) + (k : Int) = 8192 by omega] at this)
      have HLN := Lib.hid (show (units g 0 k).length ≤ 100000 by have := HLEN.out; omega)
      obtain ⟨m, hm⟩ : ∃ m, (units g 0 k).length = m := ⟨_, rfl⟩
      rw [hm] at hc2 ⊢
      have HMM := Lib.hid hm.symm
      clear hrow hn8 hm HU
      go_wp2_with (go_at_call 50; refine (joined_is _ _ _ _ HMM.out HSO.out HO.out HLN.out _ HPT.out).mono ?_; rintro e w7 ⟨v7, rfl, hr7, hb7⟩; have HR7 := Lib.hid (hr7.mono HB.out.size); have HB7 := Lib.hid (bstep HB.out hb7); clear hr7 hb7)
      go_ret2
      exact ⟨v7, rfl, HR7.out, HB7.out⟩
end Go.Proofs.Ytappgelpigoknaa.ExtW
