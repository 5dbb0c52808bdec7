/- The law's own test that the code is awake. -/
import Derived.Test.YthnkpoagpjnopaaDoorMovBuild
namespace Go.Proofs.YthnkpoagpjnopaaDoor.MovW
set_option maxRecDepth 100000
open Go.RowKit MovP OpP OpW ExtW
def wkPts : List Pt := [⟨0, 2, 5, 1⟩, ⟨9, 3, 7, 0⟩]
def wkTx : List Tx := [⟨5, ⟨#[97, 98, 99]⟩⟩, ⟨7, ⟨#[120, 121, 122]⟩⟩]
def wkRec : Rec := ⟨1, 2, 13, ⟨#[]⟩, ⟨#[]⟩, 0, 0, 0, ⟨#[98, 99, 120, 121, 122]⟩, 0, 3, [⟨5, 1, 2, 0⟩, ⟨7, 0, 3, 2⟩]⟩
theorem wk_build : buildR 1 2 3 wkTx wkPts = (wkRec, 0) := by kernel_rfl
theorem wk_okI (x : Int) (h : 0 ≤ x ∧ x ≤ 100) : (Lit.int .i64 x).wf = true := by simp [Lit.wf, IntKind.min, IntKind.max, IntKind.signed, IntKind.bits]; omega
theorem wk_ok : ∀ x ∈ wkPts, PtOk x := by
  intro x hx
  simp only [wkPts, List.mem_cons, List.not_mem_nil, or_false] at hx
  rcases hx with rfl | rfl
  · exact ⟨wk_okI _ (by simp), wk_okI _ (by simp), wk_okI _ (by simp), wk_okI _ (by simp)⟩
  · exact ⟨wk_okI _ (by simp), wk_okI _ (by simp), wk_okI _ (by simp), wk_okI _ (by simp)⟩
theorem wk_len : ∀ d ∈ wkTx, d.s.size ≤ 3000 := by
  intro d hd
  simp only [wkTx, List.mem_cons, List.not_mem_nil, or_false] at hd
  rcases hd with rfl | rfl
  · show 3 ≤ 3000; omega
  · show 3 ≤ 3000; omega
theorem wk_txt : txt wkTx = fun z => if z = 7 then some ⟨#[120, 121, 122]⟩ else if z = 5 then some ⟨#[97, 98, 99]⟩ else none := by
  funext z
  unfold txt wkTx
  simp only [List.foldl_cons, List.foldl_nil]
  by_cases h7 : z = 7
  · subst h7; rfl
  · rw [if_neg (fun e => h7 e.symm), if_neg h7]
    by_cases h5 : z = 5
    · subst h5; rfl
    · rw [if_neg (fun e => h5 e.symm), if_neg h5]
theorem alloc_cell' (w : World) (cs : Array Value) (t : TypeId) (i : Nat) (v : Value) (h : cs[i]? = some v) : (w.alloc (.cells cs t)).cell? ⟨w.heap.size, i, none⟩ = some v := by
  unfold World.cell?
  rw [heap_alloc_new]
  exact h
theorem wk_pts (w : World) : PtsAt (w.alloc (.cells #[.int .i64 0, .int .i64 2, .int .i64 5, .int .i64 1, .int .i64 9, .int .i64 3, .int .i64 7, .int .i64 0] 64)).heap.size (some ⟨w.heap.size, 0, none⟩) wkPts (w.alloc (.cells #[.int .i64 0, .int .i64 2, .int .i64 5, .int .i64 1, .int .i64 9, .int .i64 3, .int .i64 7, .int .i64 0] 64)) := by
  intro i x hx
  obtain ⟨hi, rfl⟩ := List.getElem?_eq_some_iff.1 hx
  have h2 : i < 2 := hi
  have hi2 : i = 0 ∨ i = 1 := by omega
  rcases hi2 with rfl | rfl
  · exact ⟨_, rfl, by simp, alloc_cell' w _ _ 0 _ rfl, alloc_cell' w _ _ 1 _ rfl, alloc_cell' w _ _ 2 _ rfl, alloc_cell' w _ _ 3 _ rfl⟩
  · exact ⟨_, rfl, by simp, alloc_cell' w _ _ 4 _ rfl, alloc_cell' w _ _ 5 _ rfl, alloc_cell' w _ _ 6 _ rfl, alloc_cell' w _ _ 7 _ rfl⟩
theorem wk_moves {w : World} {a : Addr} (h : MvAt w (some a) wkRec.m) : w.cell? ⟨a.block, a.off + 1, none⟩ = some (.int .i64 1) ∧ w.cell? ⟨a.block, a.off + 4 + 3, none⟩ = some (.int .i64 2) := by
  obtain ⟨a0, e0, _, _, p1, _, _⟩ := mv_cells h (i := 0) (x := ⟨5, 1, 2, 0⟩) rfl
  obtain ⟨a1, e1, _, _, _, _, q3⟩ := mv_cells h (i := 1) (x := ⟨7, 0, 3, 2⟩) rfl
  injection e0 with e0
  injection e1 with e1
  subst e0
  subst e1
  exact ⟨p1, q3⟩
set_option maxHeartbeats 3200000 in
theorem wakes_any (w : World) (hf : Fl w) : Calls Tryd.prog 6 #[] w fun e w' => e = .returned (.bool true) ∧ Below w.heap.size w w' := by
  have hmm := @run_makeMap Tryd.prog
  obtain ⟨wa, hwa⟩ : ∃ wa, wa = w.alloc (.cells #[.int .i64 0, .int .i64 2, .int .i64 5, .int .i64 1, .int .i64 9, .int .i64 3, .int .i64 7, .int .i64 0] 64) := ⟨_, rfl⟩
  have hsa : wa.heap.size = w.heap.size + 1 := by rw [hwa]; simp
  have HBA : Hid (Below w.heap.size w wa) := Lib.hid (by rw [hwa]; exact below_alloc w _)
  have HPA : Hid (PtsAt wa.heap.size (some ⟨w.heap.size, 0, none⟩) wkPts wa) := Lib.hid (by rw [hwa]; exact wk_pts w)
  have H0 : Hid (TxIs (wa.alloc (.map #[] 0)) (w.heap.size + 1) 0 (fun _ => none)) := Lib.hid (by rw [← hsa]; exact MapIs.made wa)
  obtain ⟨w5, hrun5, hm5, ho5, hs5⟩ := MapIs.store H0.out aMK Tryd.underlying28 5 ⟨#[97, 98, 99]⟩ (wk_okI 5 (by simp))
  obtain ⟨w6, hrun6, hm6, ho6, hs6⟩ := MapIs.store hm5 aMK Tryd.underlying28 7 ⟨#[120, 121, 122]⟩ (wk_okI 7 (by simp))
  have r5 : (Instr.mapUpdate 28 (.map (some (w.heap.size + 1))) (.int .i64 5) (.string ⟨#[97, 98, 99]⟩)).run Tryd.prog (wa.alloc (.map #[] 0)) = .ok () w5 := hrun5
  have r6 : (Instr.mapUpdate 28 (.map (some (w.heap.size + 1))) (.int .i64 7) (.string ⟨#[120, 121, 122]⟩)).run Tryd.prog w5 = .ok () w6 := hrun6
  have HM6 : Hid (TxIs w6 (w.heap.size + 1) 2 (txt wkTx)) := Lib.hid (MapIs.congr hm6 wk_txt.symm)
  have HB6 : Hid (Below wa.heap.size wa w6) := Lib.hid ((below_alloc wa _).trans ((ho5.below (by omega) (by simp)).trans (ho6.below (by omega) (by rw [hs5]; simp))))
  have HBW6 : Hid (Below w.heap.size w w6) := Lib.hid (bstep HBA.out HB6.out)
  have HP6 : Hid (PtsAt w6.heap.size (some ⟨w.heap.size, 0, none⟩) wkPts w6) := Lib.hid ((HPA.out.below HB6.out).mono HB6.out.size)
  have HBUILD : Hid (Calls Tryd.prog 8 #[.int .i64 1, .int .i64 2, .int .i64 3, .slice (some ⟨w.heap.size, 0, none⟩) 2 2, .map (some (w.heap.size + 1))] w6 fun e w' => ∃ (oa : Option Addr) (cc : Nat), e = .returned (.tuple #[.agg #[.int .i64 1, .int .i64 2, .int .i64 13, .string ⟨#[]⟩, .string ⟨#[]⟩, .int .i64 0, .int .i64 0, .int .i64 0, .string ⟨#[98, 99, 120, 121, 122]⟩, .int .i64 0, .int .i64 3, .slice oa 2 cc], .int .i64 0]) ∧ MvAt w' oa wkRec.m ∧ Below w6.heap.size w6 w') := Lib.hid (by
    have := build_some 1 2 3 wkTx wk_len wkPts (by show 2 ≤ 60; omega) (by simp [wkPts]) wk_ok (some ⟨w.heap.size, 0, none⟩) 2 (w.heap.size + 1) 2 w6 (hf.keep HBW6.out) HM6.out HP6.out
    rw [wk_build] at this
    refine this.mono ?_
    rintro e w' ⟨oa, n, cc, rfl, hn, _, hm, hb⟩
    obtain rfl : n = 2 := hn
    exact ⟨oa, cc, rfl, hm, hb⟩)
  have HDATA : Hid (∀ (v : Value) (W : World), Calls Tryd.prog 10 #[.agg #[.int .i64 1, .int .i64 2, .int .i64 13, .string ⟨#[]⟩, .string ⟨#[]⟩, .int .i64 0, .int .i64 0, .int .i64 0, .string ⟨#[98, 99, 120, 121, 122]⟩, .int .i64 0, .int .i64 3, v]] W fun e w' => e = .returned (.tuple #[.string ⟨#[98, 99, 120, 121, 122]⟩, .bool true]) ∧ Below W.heap.size W w') := Lib.hid fun v W => data_any wkRec v W
  rw [hwa] at r5
  clear hf hm5 hm6 ho5 ho6 hs5 hs6 hrun5 hrun6
  go_enter Tryd.func6, Tryd.ntmps6
  go_wp2_with (first
    | (go_at_call 8; go_loud (refine HBUILD.out.mono ?_; rintro e w7 ⟨oa, cc, rfl, hm7, hb7⟩; obtain ⟨a, rfl, _⟩ := mv_cells hm7 (i := 0) rfl; have HM7 := Lib.hid hm7; have HB7 := Lib.hid hb7; clear hm7 hb7))
    | (go_at_call 10; go_loud (refine (HDATA.out (.slice (some a) 2 cc) _).mono ?_; rintro e w8 ⟨rfl, hb8⟩; have hx : w8.heap[w7.heap.size]? = some (.cells #[.int .i64 1, .int .i64 2, .int .i64 13, .string ⟨#[]⟩, .string ⟨#[]⟩, .int .i64 0, .int .i64 0, .int .i64 0, .string ⟨#[98, 99, 120, 121, 122]⟩, .int .i64 0, .int .i64 3, .slice (some a) 2 cc] 34 (0, 0)) := new_kept hb8; have c11 := (new_cells hx 11 (by simp)).1; simp only [List.getElem_toArray, List.getElem_cons_zero, List.getElem_cons_succ] at c11; have hm8 := (HM7.out.grow (below_alloc w7 (.cells #[.int .i64 1, .int .i64 2, .int .i64 13, .string ⟨#[]⟩, .string ⟨#[]⟩, .int .i64 0, .int .i64 0, .int .i64 0, .string ⟨#[98, 99, 120, 121, 122]⟩, .int .i64 0, .int .i64 3, .slice (some a) 2 cc] 34))).grow hb8; obtain ⟨p1, q3⟩ := wk_moves hm8; have HB8 := Lib.hid (bstep HB7.out (bstep (below_alloc w7 (.cells #[.int .i64 1, .int .i64 2, .int .i64 13, .string ⟨#[]⟩, .string ⟨#[]⟩, .int .i64 0, .int .i64 0, .int .i64 0, .string ⟨#[98, 99, 120, 121, 122]⟩, .int .i64 0, .int .i64 3, .slice (some a) 2 cc] 34)) hb8)); clear hb8 hx hm8)))
  go_ret
  exact ⟨rfl, bstep HBW6.out HB8.out⟩
end Go.Proofs.YthnkpoagpjnopaaDoor.MovW
