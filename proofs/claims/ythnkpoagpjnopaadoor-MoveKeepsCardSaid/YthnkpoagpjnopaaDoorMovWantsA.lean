/- Several texts in one. -/
import Derived.Test.YthnkpoagpjnopaaDoorMovBuild
import Derived.Test.YthnkpoagpjnopaaDoorMovInoA
import Derived.Test.YthnkpoagpjnopaaDoorRowAt
import Derived.Test.YthnkpoagpjnopaaDoorOpMisc
import Derived.Great.BuildSlice
import Derived.Test.YthnkpoagpjnopaaDoorMovInoL
import Derived.Test.YthnkpoagpjnopaaDoorOpenN
import Derived.Test.YthnkpoagpjnopaaDoorLaw
/- The law's own test that the code is awake. -/
namespace Go.Proofs.YthnkpoagpjnopaaDoor.MovW
set_option maxRecDepth 100000
open Go.RowKit MovP OpP OpW ExtW
def wkPts : List Pt := [⟨0, 2, 5, 1⟩, ⟨9, 3, 7, 0⟩]
def wkTx : List Tx := [⟨5, ⟨#[97, 98, 99]⟩⟩, ⟨7, ⟨#[120, 121, 122]⟩⟩]
def wkRec : Rec := ⟨1, 2, 13, ⟨#[]⟩, ⟨#[]⟩, 0, 0, 0, ⟨#[98, 99, 120, 121, 122]⟩, 0, 3, [⟨5, 1, 2, 0⟩, ⟨7, 0, 3, 2⟩]⟩
theorem wk_build : buildR 1 2 3 wkTx wkPts = (wkRec, 0) := by kernel_rfl
theorem wk_okI (x : Int) (h : 0 ≤ x ∧ x ≤ 100) : (Lit.int .i64 x).wf = true := by simp [Lit.wf, IntKind.min, IntKind.max, IntKind.signed, IntKind.bits]; omega
theorem wk_ok : ∀ x ∈ wkPts, PtOk x := by
  intro x hx
  simp only [wkPts, List.mem_cons, List.not_mem_nil, or_false] at hx
  rcases hx with rfl | rfl
  · exact ⟨wk_okI _ (by simp), wk_okI _ (by simp), wk_okI _ (by simp), wk_okI _ (by simp)⟩
  · exact ⟨wk_okI _ (by simp), wk_okI _ (by simp), wk_okI _ (by simp), wk_okI _ (by simp)⟩
theorem wk_len : ∀ d ∈ wkTx, d.s.size ≤ 3000 := by
  intro d hd
  simp only [wkTx, List.mem_cons, List.not_mem_nil, or_false] at hd
  rcases hd with rfl | rfl
  · show 3 ≤ 3000; omega
  · show 3 ≤ 3000; omega
theorem wk_txt : txt wkTx = fun z => if z = 7 then some ⟨#[120, 121, 122]⟩ else if z = 5 then some ⟨#[97, 98, 99]⟩ else none := by
  funext z
  unfold txt wkTx
  simp only [List.foldl_cons, List.foldl_nil]
  by_cases h7 : z = 7
  · subst h7; rfl
  · rw [if_neg (fun e => h7 e.symm), if_neg h7]
    by_cases h5 : z = 5
    · subst h5; rfl
    · rw [if_neg (fun e => h5 e.symm), if_neg h5]
theorem alloc_cell' (w : World) (cs : Array Value) (t : TypeId) (i : Nat) (v : Value) (h : cs[i]? = some v) : (w.alloc (.cells cs t)).cell? ⟨w.heap.size, i, none⟩ = some v := by
  unfold World.cell?
  rw [heap_alloc_new]
  exact h
theorem wk_pts (w : World) : PtsAt (w.alloc (.cells #[.int .i64 0, .int .i64 2, .int .i64 5, .int .i64 1, .int .i64 9, .int .i64 3, .int .i64 7, .int .i64 0] 64)).heap.size (some ⟨w.heap.size, 0, none⟩) wkPts (w.alloc (.cells #[.int .i64 0, .int .i64 2, .int .i64 5, .int .i64 1, .int .i64 9, .int .i64 3, .int .i64 7, .int .i64 0] 64)) := by
  intro i x hx
  obtain ⟨hi, rfl⟩ := List.getElem?_eq_some_iff.1 hx
  have h2 : i < 2 := hi
  have hi2 : i = 0 ∨ i = 1 := by omega
  rcases hi2 with rfl | rfl
  · exact ⟨_, rfl, by simp, alloc_cell' w _ _ 0 _ rfl, alloc_cell' w _ _ 1 _ rfl, alloc_cell' w _ _ 2 _ rfl, alloc_cell' w _ _ 3 _ rfl⟩
  · exact ⟨_, rfl, by simp, alloc_cell' w _ _ 4 _ rfl, alloc_cell' w _ _ 5 _ rfl, alloc_cell' w _ _ 6 _ rfl, alloc_cell' w _ _ 7 _ rfl⟩
theorem wk_moves {w : World} {a : Addr} (h : MvAt w (some a) wkRec.m) : w.cell? ⟨a.block, a.off + 1, none⟩ = some (.int .i64 1) ∧ w.cell? ⟨a.block, a.off + 4 + 3, none⟩ = some (.int .i64 2) := by
  obtain ⟨a0, e0, _, _, p1, _, _⟩ := mv_cells h (i := 0) (x := ⟨5, 1, 2, 0⟩) rfl
  obtain ⟨a1, e1, _, _, _, _, q3⟩ := mv_cells h (i := 1) (x := ⟨7, 0, 3, 2⟩) rfl
  injection e0 with e0
  injection e1 with e1
  subst e0
  subst e1
  exact ⟨p1, q3⟩
set_option maxHeartbeats 3200000 in
theorem wakes_any (w : World) (hf : Fl w) : Calls Tryd.prog 6 #[] w fun e w' => e = .returned (.bool true) ∧ Below w.heap.size w w' := by
  have hmm := @run_makeMap Tryd.prog
  obtain ⟨wa, hwa⟩ : ∃ wa, wa = w.alloc (.cells #[.int .i64 0, .int .i64 2, .int .i64 5, .int .i64 1, .int .i64 9, .int .i64 3, .int .i64 7, .int .i64 0] 64) := ⟨_, rfl⟩
  have hsa : wa.heap.size = w.heap.size + 1 := by rw [hwa]; simp
  have HBA : Hid (Below w.heap.size w wa) := Lib.hid (by rw [hwa]; exact below_alloc w _)
  have HPA : Hid (PtsAt wa.heap.size (some ⟨w.heap.size, 0, none⟩) wkPts wa) := Lib.hid (by rw [hwa]; exact wk_pts w)
  have H0 : Hid (TxIs (wa.alloc (.map #[] 0)) (w.heap.size + 1) 0 (fun _ => none)) := Lib.hid (by rw [← hsa]; exact MapIs.made wa)
  obtain ⟨w5, hrun5, hm5, ho5, hs5⟩ := MapIs.store H0.out aMK Tryd.underlying28 5 ⟨#[97, 98, 99]⟩ (wk_okI 5 (by simp))
  obtain ⟨w6, hrun6, hm6, ho6, hs6⟩ := MapIs.store hm5 aMK Tryd.underlying28 7 ⟨#[120, 121, 122]⟩ (wk_okI 7 (by simp))
  have r5 : (Instr.mapUpdate 28 (.map (some (w.heap.size + 1))) (.int .i64 5) (.string ⟨#[97, 98, 99]⟩)).run Tryd.prog (wa.alloc (.map #[] 0)) = .ok () w5 := hrun5
  have r6 : (Instr.mapUpdate 28 (.map (some (w.heap.size + 1))) (.int .i64 7) (.string ⟨#[120, 121, 122]⟩)).run Tryd.prog w5 = .ok () w6 := hrun6
  have HM6 : Hid (TxIs w6 (w.heap.size + 1) 2 (txt wkTx)) := Lib.hid (MapIs.congr hm6 wk_txt.symm)
  have HB6 : Hid (Below wa.heap.size wa w6) := Lib.hid ((below_alloc wa _).trans ((ho5.below (by omega) (by simp)).trans (ho6.below (by omega) (by rw [hs5]; simp))))
  have HBW6 : Hid (Below w.heap.size w w6) := Lib.hid (bstep HBA.out HB6.out)
  have HP6 : Hid (PtsAt w6.heap.size (some ⟨w.heap.size, 0, none⟩) wkPts w6) := Lib.hid ((HPA.out.below HB6.out).mono HB6.out.size)
  have HBUILD : Hid (Calls Tryd.prog 8 #[.int .i64 1, .int .i64 2, .int .i64 3, .slice (some ⟨w.heap.size, 0, none⟩) 2 2, .map (some (w.heap.size + 1))] w6 fun e w' => ∃ (oa : Option Addr) (cc : Nat), e = .returned (.tuple #[.agg #[.int .i64 1, .int .i64 2, .int .i64 13, .string ⟨#[]⟩, .string ⟨#[]⟩, .int .i64 0, .int .i64 0, .int .i64 0, .string ⟨#[98, 99, 120, 121, 122]⟩, .int .i64 0, .int .i64 3, .slice oa 2 cc], .int .i64 0]) ∧ MvAt w' oa wkRec.m ∧ Below w6.heap.size w6 w') := Lib.hid (by
    have := build_some 1 2 3 wkTx wk_len wkPts (by show 2 ≤ 60; omega) (by simp [wkPts]) wk_ok (some ⟨w.heap.size, 0, none⟩) 2 (w.heap.size + 1) 2 w6 (hf.keep HBW6.out) HM6.out HP6.out
    rw [wk_build] at this
    refine this.mono ?_
    rintro e w' ⟨oa, n, cc, rfl, hn, _, hm, hb⟩
    obtain rfl : n = 2 := hn
    exact ⟨oa, cc, rfl, hm, hb⟩)
  have HDATA : Hid (∀ (v : Value) (W : World), Calls Tryd.prog 10 #[.agg #[.int .i64 1, .int .i64 2, .int .i64 13, .string ⟨#[]⟩, .string ⟨#[]⟩, .int .i64 0, .int .i64 0, .int .i64 0, .string ⟨#[98, 99, 120, 121, 122]⟩, .int .i64 0, .int .i64 3, v]] W fun e w' => e = .returned (.tuple #[.string ⟨#[98, 99, 120, 121, 122]⟩, .bool true]) ∧ Below W.heap.size W w') := Lib.hid fun v W => data_any wkRec v W
  rw [hwa] at r5
  clear hf hm5 hm6 ho5 ho6 hs5 hs6 hrun5 hrun6
  go_enter Tryd.func6, Tryd.ntmps6
  go_wp2_with (first
    | (go_at_call 8; go_loud (refine HBUILD.out.mono ?_; rintro e w7 ⟨oa, cc, rfl, hm7, hb7⟩; obtain ⟨a, rfl, _⟩ := mv_cells hm7 (i := 0) rfl; have HM7 := Lib.hid hm7; have HB7 := Lib.hid hb7; clear hm7 hb7))
    | (go_at_call 10; go_loud (refine (HDATA.out (.slice (some a) 2 cc) _).mono ?_; rintro e w8 ⟨rfl, hb8⟩; have hx : w8.heap[w7.heap.size]? = some (.cells #[.int .i64 1, .int .i64 2, .int .i64 13, .string ⟨#[]⟩, .string ⟨#[]⟩, .int .i64 0, .int .i64 0, .int .i64 0, .string ⟨#[98, 99, 120, 121, 122]⟩, .int .i64 0, .int .i64 3, .slice (some a) 2 cc] 34 (0, 0)) := new_kept hb8; have c11 := (new_cells hx 11 (by simp)).1; simp only [List.getElem_toArray, List.getElem_cons_zero, List.getElem_cons_succ] at c11; have hm8 := (HM7.out.grow (below_alloc w7 (.cells #[.int .i64 1, .int .i64 2, .int .i64 13, .string ⟨#[]⟩, .string ⟨#[]⟩, .int .i64 0, .int .i64 0, .int .i64 0, .string ⟨#[98, 99, 120, 121, 122]⟩, .int .i64 0, .int .i64 3, .slice (some a) 2 cc] 34))).grow hb8; obtain ⟨p1, q3⟩ := wk_moves hm8; have HB8 := Lib.hid (bstep HB7.out (bstep (below_alloc w7 (.cells #[.int .i64 1, .int .i64 2, .int .i64 13, .string ⟨#[]⟩, .string ⟨#[]⟩, .int .i64 0, .int .i64 0, .int .i64 0, .string ⟨#[98, 99, 120, 121, 122]⟩, .int .i64 0, .int .i64 3, .slice (some a) 2 cc] 34)) hb8)); clear hb8 hx hm8)))
  go_ret
  exact ⟨rfl, bstep HBW6.out HB8.out⟩
end Go.Proofs.YthnkpoagpjnopaaDoor.MovW

/- What is wanted out of elder addresses: move.Want. -/
namespace Go.Proofs.YthnkpoagpjnopaaDoor.MovP
open ExtW InoP
/-- the parts of elder addresses, as many as fit -/
def wantF (b : Int) : List Pt → Int → Nat → List Pt
  | [], _, _ => []
  | x :: r, n, c => if b ≤ x.a then wantF b r n c else if 1024 < n + x.n ∨ c = 16 then [] else x :: wantF b r (n + x.n) (c + 1)
def wantA (b : Int) : List Ino → Int × List Pt
  | [] => (0, [])
  | x :: xs => if wantF b x.p 0 0 = [] then wantA b xs else (x.i, wantF b x.p 0 0)
theorem drop_cons {α : Type} {l : List α} {k : Nat} {x : α} (h : l[k]? = some x) : l.drop k = x :: l.drop (k + 1) := by
  obtain ⟨hk, rfl⟩ := List.getElem?_eq_some_iff.1 h
  exact List.drop_eq_getElem_cons hk
theorem wantA_none (b : Int) : ∀ {xs : List Ino}, (∀ x ∈ xs, wantF b x.p 0 0 = []) → wantA b xs = (0, [])
  | [], _ => rfl
  | x :: xs, h => by rw [wantA, if_pos (h x (by simp))]; exact wantA_none b fun y hy => h y (by simp [hy])
theorem wantA_some (b : Int) : ∀ {xs : List Ino} {k : Nat} {x : Ino}, xs[k]? = some x → (∀ y ∈ xs.take k, wantF b y.p 0 0 = []) → wantF b x.p 0 0 ≠ [] → wantA b xs = (x.i, wantF b x.p 0 0)
  | [], _, _, h, _, _ => by simp at h
  | y :: xs, 0, x, h, _, h3 => by
    simp at h; subst h
    rw [wantA, if_neg h3]
  | y :: xs, k + 1, x, h, h2, h3 => by
    rw [wantA, if_pos (h2 y (by simp))]
    exact wantA_some b (by simpa using h) (fun z hz => h2 z (by simp [hz])) h3
end Go.Proofs.YthnkpoagpjnopaaDoor.MovP
namespace Go.Proofs.YthnkpoagpjnopaaDoor.MovW
set_option maxRecDepth 100000
open Go.RowKit MovP InoP InoW ExtW
def encN (x : Int) : List Value := [.int .i64 x]
theorem encN_len (x : Int) : (encN x).length = 1 := rfl
theorem flat_encN : ∀ L : List Ino, ((L.map (·.i)).flatMap encN) = L.map fun x => Value.int .i64 x.i
  | [] => rfl
  | x :: L => by
    rw [List.map_cons, List.flatMap_cons, flat_encN L]; rfl
theorem all_row {L : List Ino} {B : Nat} {w : World} {oa : Option Addr} {cap : Nat} (h : w.ownsRow B 3 1 (.slice oa L.length cap) L.length (L.map fun x => Value.int .i64 x.i)) : RowK 3 encN 1 B w (.slice oa L.length cap) (L.map (·.i)) := by
  unfold RowK
  rw [flat_encN, List.length_map]; exact h
theorem partsL_mem {L : List Ino} (hr : Rises L) {x : Ino} (hx : x ∈ L) : partsL L x.i = x.p := by unfold partsL; rw [find_of_mem hr hx]; rfl
set_option maxHeartbeats 400000 in
theorem nall (w : World) : Calls Tryd.prog 31 #[.pointer none] w fun e w' => e = .returned (.slice none 0 0) ∧ Below w.heap.size w w' := by
  go_enter Tryd.func31, Tryd.ntmps31
  go_wp2_with fail
  go_ret
  exact ⟨rfl, Below.refl _ _⟩
set_option maxHeartbeats 400000 in
theorem nwant (b : Int) (w : World) : Calls Tryd.prog 15 #[.pointer none, .int .i64 b] w fun e w' => e = .returned (.tuple #[.int .i64 0, .slice none 0 0]) ∧ Below w.heap.size w w' := by
  go_enter Tryd.func15, Tryd.ntmps15
  go_wp2_with (go_at_call 31; refine (nall _).mono ?_; rintro e w1 ⟨rfl, hb1⟩; have HB1 := Lib.hid hb1; clear hb1)
  go_loopw [14] (fun i wr => i = .int .i64 0 ∧ wr = w1) (fun _ _ => 0)
  case atStart => exact ⟨rfl, rfl⟩
  case round =>
    obtain ⟨rfl, rfl⟩ := hrel
    go_wp2_with fail
    go_ret2
    exact ⟨rfl, HB1.out⟩
set_option maxHeartbeats 6400000 in
theorem want_any (b : Int) {tb mb : Nat} {L : List Ino} {next : Int} (w : World) (h : TIs w tb mb L next) :
    Calls Tryd.prog 15 #[.pointer (some ⟨tb, 0, none⟩), .int .i64 b] w fun e w' => ∃ o c, e = .returned (.tuple #[.int .i64 (wantA b L).1, .slice o (wantA b L).2.length c]) ∧ PtsAt w'.heap.size o (wantA b L).2 w' ∧ Below w.heap.size w w' := by
  have HT := Lib.hid h
  have HLL := Lib.hid h.good.len
  obtain ⟨i0, hi, hz0, hz1, hz2⟩ := info_parts partinfo
  clear h
  go_enter Tryd.func15, Tryd.ntmps15
  go_wp2_with (go_at_call 31; refine (all_any _ HT.out).mono ?_; rintro e w1 ⟨oa, cap, rfl, hown, hnil, hb1⟩; have HROW := Lib.hid (all_row hown); have HB1 := Lib.hid hb1; clear hown hnil hb1)
  go_loopw [5, 14] (fun v i wr => ∃ k : Nat, k ≤ L.length ∧ i = .int .i64 (k : Int) ∧ v = .slice none 0 0 ∧ (∀ x ∈ L.take k, wantF b x.p 0 0 = []) ∧ Below w1.heap.size w1 wr) (fun _ i _ => ((L.length : Int) - intOf i).toNat)
  case atStart => exact ⟨0, by omega, rfl, rfl, by simp, Below.refl _ _⟩
  case round =>
    obtain ⟨k, hk, rfl, rfl, hno, hbel⟩ := hrel
    have HNO := Lib.hid hno
    have HBEL := Lib.hid hbel
    have HBW : Hid (Below w.heap.size w wr) := Lib.hid (HB1.out.trans (hbel.mono HB1.out.size))
    have hll := HLL.out
    clear hno hbel
    by_cases hlt : k < L.length
    · have hlt1 : (k : Int) < (L.length : Int) := by omega
      obtain ⟨x, hx⟩ : ∃ x, L[k]? = some x := ⟨_, List.getElem?_eq_getElem hlt⟩
      have hxm : x ∈ L := List.mem_of_getElem? hx
      have HX := Lib.hid hx
      have HXG := Lib.hid (HT.out.good.all x hxm)
      have HXP := Lib.hid (partsL_mem HT.out.good.rises hxm)
      have HIR := Lib.hid (HROW.out.grow HBEL.out)
      obtain ⟨a, rfl, hab, hc⟩ := (RowK.pts encN_len (by omega) HIR.out) k x.i (by rw [List.getElem?_map, hx]; rfl)
      have c0 := hc 0 _ rfl
      simp only [fieldOf, Nat.mul_one] at c0
      have HIO : Hid (iOk x.i) := Lib.hid (iOk_of (by have := HT.out.good.num x hxm; have := HT.out.good.next; omega))
      have HTK : Hid (L.take (k + 1) = L.take k ++ [x]) := Lib.hid (by rw [List.take_add_one, hx]; rfl)
      clear hc hxm hx hab
      go_wp2_with (go_at_call 18; refine (parts_any x.i HIO.out _ (HT.out.grow HBW.out)).mono ?_; rintro e w3 ⟨oa', cap', rfl, hr3, hb3⟩; rw [HXP.out] at *; have HR3 := Lib.hid hr3; have HB3 := Lib.hid hb3; clear hr3 hb3)
      clear c0
      have HXL : Hid (x.p.length ≤ 64) := Lib.hid HXG.out.p.1
      have HON : Hid (∀ y ∈ x.p, One y) := Lib.hid (chain_ones HXG.out.p.2)
      have HB13 : Hid (Below w1.heap.size w1 w3) := Lib.hid (HBEL.out.trans (HB3.out.mono HBEL.out.size))
      have HB03 : Hid (Below w.heap.size w w3) := Lib.hid (bstep HBW.out HB3.out)
      clear HIR
      go_loopw [5, 8, 22] (fun v n j wr => ∃ (m : Nat) (t : Int) (A : List Pt), m ≤ x.p.length ∧ j = .int .i64 (m : Int) ∧ n = .int .i64 t ∧ (0 ≤ t ∧ t ≤ 1024) ∧ A.length ≤ 16 ∧ wantF b x.p 0 0 = A ++ wantF b (x.p.drop m) t A.length ∧ Row w3.heap.size wr v A ∧ (A = [] → v = .slice none 0 0) ∧ Below w3.heap.size w3 wr) (fun _ _ j _ => ((x.p.length : Int) - intOf j).toNat)
      case atStart => exact ⟨0, 0, [], by omega, rfl, rfl, by omega, by simp, by simp, Row.nil _ _, fun _ => rfl, Below.refl _ _⟩
      case round =>
        obtain ⟨m, t, A, hm, rfl, rfl, ht, hA, hw, hrow, hnil, hbq⟩ := hrel
        have HW := Lib.hid hw
        have HROWA := Lib.hid hrow
        have HNILA := Lib.hid hnil
        have HBQ := Lib.hid hbq
        obtain ⟨o5, c5, rfl, _⟩ := hrow.form
        have HB0Q : Hid (Below w.heap.size w wr) := Lib.hid (HB03.out.trans (hbq.mono HB03.out.size))
        have HB1Q : Hid (Below w1.heap.size w1 wr) := Lib.hid (HB13.out.trans (hbq.mono HB13.out.size))
        clear hw hrow hnil hbq
        have hxl := HXL.out
        by_cases hlm : m < x.p.length
        · have hlm1 : (m : Int) < (x.p.length : Int) := by omega
          obtain ⟨y, hy⟩ : ∃ y, x.p[m]? = some y := ⟨_, List.getElem?_eq_getElem hlm⟩
          have hys := (HON.out y (List.mem_of_getElem? hy)).small
          obtain ⟨ap, rfl, _, d0, d1, d2, d3⟩ := (HR3.out.grow HBQ.out).pts m y hy
          have HDC := Lib.hid (drop_cons hy)
          have HBX := Lib.hid (below_alloc wr (.cells #[.int .i64 y.o, .int .i64 y.n, .int .i64 y.a, .int .i64 y.f] 64))
          clear hy
          by_cases hb : b ≤ y.a
          · have HW2 : Hid (wantF b x.p 0 0 = A ++ wantF b (x.p.drop (m + 1)) t A.length) := Lib.hid (by rw [HW.out, HDC.out, wantF, if_pos hb])
            go_wp2_with fail
            exact ⟨⟨m + 1, t, A, by omega, by simp, rfl, ht, hA, HW2.out, HROWA.out.grow HBX.out, HNILA.out, bstep HBQ.out HBX.out⟩, by simp [intOf]; omega⟩
          · have hb1 : decide (b ≤ y.a) = false := decide_eq_false hb
            have hwn : IntKind.i64.wrap (t + y.n) = t + y.n := IntWalk.i64_in _ (by omega)
            have HWC : Hid (wantF b (x.p.drop m) t A.length = if 1024 < t + y.n ∨ A.length = 16 then [] else y :: wantF b (x.p.drop (m + 1)) (t + y.n) (A.length + 1)) := Lib.hid (by rw [HDC.out, wantF, if_neg hb])
            by_cases hn : 1024 < t + y.n
            · have HFIN : Hid (wantF b x.p 0 0 = A) := Lib.hid (by rw [HW.out, HWC.out, if_pos (Or.inl hn), List.append_nil])
              clear hb hys
              by_cases hA0 : A = []
              · have hv := HNILA.out hA0
                subst hA0
                simp only [List.length_nil, Value.slice.injEq] at hv
                obtain ⟨rfl, _, rfl⟩ := hv
                have HNO2 : Hid (∀ z ∈ L.take k ++ [x], wantF b z.p 0 0 = []) := Lib.hid fun z hz => by
                  rcases List.mem_append.1 hz with hz | hz
                  · exact HNO.out z hz
                  · rw [List.mem_singleton.1 hz]; exact HFIN.out
                go_wp2_with fail
                exact ⟨⟨k + 1, by omega, by simp, rfl, by rw [HTK.out]; exact HNO2.out, bstep HB1Q.out HBX.out⟩, by simp [intOf]; omega⟩
              · have HE : Hid (wantA b L = (x.i, A)) := Lib.hid (by rw [wantA_some b HX.out HNO.out (by rw [HFIN.out]; exact hA0), HFIN.out])
                have hpos : (0 : Int) < (A.length : Int) := by have := List.length_pos_iff.2 hA0; omega
                go_wp2_with fail
                try simp only [Exit.inBlock, Exit.then]
                go_ret2
                first | exact ⟨o5, c5, by rw [HE.out]; rfl, by rw [HE.out]; exact (HROWA.out.grow HBX.out).pts, bstep HB0Q.out HBX.out⟩ | exact ⟨o5, ⟨c5, by rw [HE.out]; rfl⟩, by rw [HE.out]; exact (HROWA.out.grow HBX.out).pts, bstep HB0Q.out HBX.out⟩
            · have hn1 : decide (1024 < t + y.n) = false := decide_eq_false hn
              by_cases h16 : A.length = 16
              · have HFIN : Hid (wantF b x.p 0 0 = A) := Lib.hid (by rw [HW.out, HWC.out, if_pos (Or.inr h16), List.append_nil])
                have hA0 : A ≠ [] := fun e => by rw [e] at h16; simp at h16
                have hl16 : ((A.length : Int) == 16) = true := by rw [beq_iff_eq]; omega
                clear h16
                have HE : Hid (wantA b L = (x.i, A)) := Lib.hid (by rw [wantA_some b HX.out HNO.out (by rw [HFIN.out]; exact hA0), HFIN.out])
                have hpos : (0 : Int) < (A.length : Int) := by have := List.length_pos_iff.2 hA0; omega
                go_wp2_with fail
                try simp only [Exit.inBlock, Exit.then]
                go_ret2
                first | exact ⟨o5, c5, by rw [HE.out]; rfl, by rw [HE.out]; exact (HROWA.out.grow HBX.out).pts, bstep HB0Q.out HBX.out⟩ | exact ⟨o5, ⟨c5, by rw [HE.out]; rfl⟩, by rw [HE.out]; exact (HROWA.out.grow HBX.out).pts, bstep HB0Q.out HBX.out⟩
              · have HW2 : Hid (wantF b x.p 0 0 = (A ++ [y]) ++ wantF b (x.p.drop (m + 1)) (t + y.n) (A ++ [y]).length) := Lib.hid (by rw [HW.out, HWC.out, if_neg (fun q => by rcases q with q | q; exact hn q; exact h16 q)]; simp)
                have hl16 : ((A.length : Int) == 16) = false := by rw [beq_eq_false_iff_ne]; omega
                have hbq : w3.heap.size ≤ (wr.alloc (.cells #[.int .i64 y.o, .int .i64 y.n, .int .i64 y.a, .int .i64 y.f] 64)).heap.size := by have := HBQ.out.size; simp; omega
                have HRA2 := Lib.hid (HROWA.out.grow HBX.out)
                have hA2 : A.length + 1 ≤ 16 := by omega
                clear hb h16
                go_wp2_with (at_builtin; go_loud (refine wpList_append_newB rfl _ _ 23 rfl w3.heap.size 64 i0 (.agg #[.int .i64 0, .int .i64 0, .int .i64 0, .int .i64 0]) 4 32 Tryd.underlying23 hi hz0 hz1 hz2 rfl (by decide) (.slice o5 A.length c5) A.length (cellsOf A) (by rfl) HRA2.out _ 1 1 (by rfl) rfl (by simp [Value.oneCell']) (by unfold maxLen; omega) (by omega) hbq (by simp) ?_; intro o6 c6 w6 hown6 hb6 _; have HR6 : Hid (Row w3.heap.size w6 (.slice o6 (A.length + 1) c6) (A ++ [y])) := Lib.hid (Row.snoc y hown6); have HB6 : Hid (Below w3.heap.size w3 w6) := Lib.hid ((bstep HBQ.out HBX.out).trans hb6); clear hown6 hb6))
                exact ⟨⟨m + 1, t + y.n, A ++ [y], by omega, by simp, rfl, by omega, by simp; omega, HW2.out, HR6.out, (fun e => by simp at e), HB6.out⟩, by simp [intOf]; omega⟩
        · obtain rfl : m = x.p.length := by omega
          have HFIN : Hid (wantF b x.p 0 0 = A) := Lib.hid (by rw [HW.out, List.drop_length, wantF, List.append_nil])
          by_cases hA0 : A = []
          · have hv := HNILA.out hA0
            subst hA0
            simp only [List.length_nil, Value.slice.injEq] at hv
            obtain ⟨rfl, _, rfl⟩ := hv
            have HNO2 : Hid (∀ z ∈ L.take k ++ [x], wantF b z.p 0 0 = []) := Lib.hid fun z hz => by
              rcases List.mem_append.1 hz with hz | hz
              · exact HNO.out z hz
              · rw [List.mem_singleton.1 hz]; exact HFIN.out
            go_wp2_with fail
            exact ⟨⟨k + 1, by omega, by simp, rfl, by rw [HTK.out]; exact HNO2.out, HB1Q.out⟩, by simp [intOf]; omega⟩
          · have HE : Hid (wantA b L = (x.i, A)) := Lib.hid (by rw [wantA_some b HX.out HNO.out (by rw [HFIN.out]; exact hA0), HFIN.out])
            have hpos : (0 : Int) < (A.length : Int) := by have := List.length_pos_iff.2 hA0; omega
            go_wp2_with fail
            try simp only [Exit.inBlock, Exit.then]
            go_ret2
            first | exact ⟨o5, c5, by rw [HE.out]; rfl, by rw [HE.out]; exact HROWA.out.pts, HB0Q.out⟩ | exact ⟨o5, ⟨c5, by rw [HE.out]; rfl⟩, by rw [HE.out]; exact HROWA.out.pts, HB0Q.out⟩
    · obtain rfl : k = L.length := by omega
      have HE : Hid (wantA b L = (0, [])) := Lib.hid (wantA_none b (by have := HNO.out; rwa [List.take_length] at this))
      go_wp2_with fail
      go_ret2
      exact ⟨none, 0, by rw [HE.out]; rfl, by rw [HE.out]; exact fun i x h => by simp at h, HBW.out⟩
end Go.Proofs.YthnkpoagpjnopaaDoor.MovW

/- What is wanted out of elder addresses: escheatref28.Want. -/
namespace Go.Proofs.YthnkpoagpjnopaaDoor.MovW
set_option maxRecDepth 100000
open Go.RowKit MovP InoP InoW ExtW
theorem waSize : (Tryd.prog.info? 53).map (·.size) = some 2 := by kernel_rfl
theorem pts_grow' {oa : Option Addr} {l : List Pt} {w w' : World} (h : PtsAt w.heap.size oa l w) (hb : Below w.heap.size w w') : PtsAt w'.heap.size oa l w' := (h.below hb).mono hb.size
def RWPost (b : Int) (L : List Ino) (w : World) (e : Ending) (w' : World) : Prop := ∃ o c, e = .returned (.agg #[.int .i64 (wantA b L).1, .slice o (wantA b L).2.length c]) ∧ PtsAt w'.heap.size o (wantA b L).2 w' ∧ Below w.heap.size w w'
set_option maxHeartbeats 6400000 in
theorem rwant_any (b : Int) {qb : Nat} {L : List Ino} {zs : List IV} {next : Int} {oq : Option Addr} {cq : Nat} (hgood : ∀ x ∈ L, IGood x) (hlen : L.length ≤ 64) (w : World) (h : IList w oq L zs) (hq : w.heap[qb]? = some (.cells #[.slice oq L.length cq, .int .i64 next] 60 (0, 0))) :
    Calls Tryd.prog 16 #[.pointer (some ⟨qb, 0, none⟩), .int .i64 b] w (RWPost b L w) := by
  have HG := Lib.hid hgood
  have HL := Lib.hid h
  have HQ := Lib.hid hq
  have HLEN := Lib.hid hlen
  have hzl := h.read.1
  have HB0 : Hid (Below w.heap.size w (w.alloc (.cells #[.int .i64 0, .slice none 0 0] 53))) := Lib.hid (below_alloc w _)
  have HR0 := Lib.hid (heap_alloc_new w (.cells #[.int .i64 0, .slice none 0 0] 53))
  have HS0 : Hid ((w.alloc (.cells #[.int .i64 0, .slice none 0 0] 53)).heap.size = w.heap.size + 1) := Lib.hid (by simp)
  obtain ⟨i0, hi, hz0, hz1, hz2⟩ := info_parts partinfo
  clear hgood h hq hlen
  go_enter Tryd.func16, Tryd.ntmps16
  go_wp2_with fail
  generalize w.alloc (.cells #[.int .i64 0, .slice none 0 0] 53) = w1 at *
  obtain ⟨rb, hrb⟩ : ∃ rb, rb = w.heap.size := ⟨_, rfl⟩
  rw [← hrb] at HR0 HS0 ⊢
  have HRB := Lib.hid hrb
  clear hrb
  go_loopw [5] (fun i wr => ∃ k : Nat, k ≤ L.length ∧ i = .int .i64 (k : Int) ∧ (∀ x ∈ L.take k, wantF b x.p 0 0 = []) ∧ Below w1.heap.size w1 wr) (fun i _ => ((L.length : Int) - intOf i).toNat)
  case atStart => exact ⟨0, by omega, rfl, by simp, Below.refl _ _⟩
  case round =>
    obtain ⟨k, hk, rfl, hno, hbel⟩ := hrel
    have HNO := Lib.hid hno
    have HBEL := Lib.hid hbel
    have HBW : Hid (Below w.heap.size w wr) := Lib.hid (bstep HB0.out hbel)
    have HRES : Hid (wr.heap[rb]? = some (.cells #[.int .i64 0, .slice none 0 0] 53 (0, 0))) := Lib.hid ((hbel.block rb (by have := HS0.out; omega)).trans HR0.out)
    have hq1 := (new_cells ((HBW.out.block qb (lt_of_block HQ.out)).trans HQ.out) 0 (by simp)).1
    simp only [List.getElem_toArray, List.getElem_cons_zero] at hq1
    have hll := HLEN.out
    clear hno hbel
    obtain ⟨wo, rfl⟩ : ∃ wo, wo = wr := ⟨_, rfl⟩
    by_cases hlt : k < L.length
    · have hlt1 : (k : Int) < (L.length : Int) := by omega
      obtain ⟨x, hx⟩ : ∃ x, L[k]? = some x := ⟨_, List.getElem?_eq_getElem hlt⟩
      obtain ⟨z, hz⟩ : ∃ z, zs[k]? = some z := ⟨_, List.getElem?_eq_getElem (by omega)⟩
      obtain ⟨zi, zk, zl, zo, zs', za, zn, zc⟩ := z
      have HX := Lib.hid hx
      have HZ := Lib.hid hz
      have HXG := Lib.hid (HG.out x (List.mem_of_getElem? hx))
      have hr := HL.out.read.2 k x _ hx hz
      obtain rfl : zn = x.p.length := hr.n
      obtain rfl : zi = x.i := hr.i
      have HPT := Lib.hid hr.pts
      have HTK : Hid (L.take (k + 1) = L.take k ++ [x]) := Lib.hid (by rw [List.take_add_one, hx]; rfl)
      have HXL : Hid (x.p.length ≤ 64) := Lib.hid HXG.out.p.1
      have HON : Hid (∀ y ∈ x.p, One y) := Lib.hid (chain_ones HXG.out.p.2)
      obtain ⟨a, rfl, hab, _⟩ := iv_at HL.out.at_ hz
      have HAB := Lib.hid hab
      clear hx hz hr hab
      go_wp2_with fail
      clear hq1
      go_loopw [6, 7, 8] (fun v n j wr => ∃ (m : Nat) (t : Int) (A : List Pt), m ≤ x.p.length ∧ j = .int .i64 (m : Int) ∧ n = .int .i64 t ∧ (0 ≤ t ∧ t ≤ 1024) ∧ A.length ≤ 16 ∧ wantF b x.p 0 0 = A ++ wantF b (x.p.drop m) t A.length ∧ Row w1.heap.size wr v A ∧ Below w1.heap.size w1 wr) (fun _ _ j _ => ((x.p.length : Int) - intOf j).toNat)
      case atStart => exact ⟨0, 0, [], by omega, rfl, rfl, by omega, by simp, by simp, Row.nil _ _, HBEL.out⟩
      case round =>
        obtain ⟨m, t, A, hm, rfl, rfl, ht, hA, hw, hrow, hbq⟩ := hrel
        have HW := Lib.hid hw
        have HROWA := Lib.hid hrow
        have HBQ := Lib.hid hbq
        obtain ⟨o5, c5, rfl, _⟩ := hrow.form
        have HB0Q : Hid (Below w.heap.size w wr) := Lib.hid (bstep HB0.out hbq)
        have HRQ : Hid (wr.heap[rb]? = some (.cells #[.int .i64 0, .slice none 0 0] 53 (0, 0))) := Lib.hid ((hbq.block rb (by have := HS0.out; omega)).trans HR0.out)
        have hq1 := (new_cells ((HB0Q.out.block qb (lt_of_block HQ.out)).trans HQ.out) 0 (by simp)).1
        simp only [List.getElem_toArray, List.getElem_cons_zero] at hq1
        obtain ⟨a', ea, _, g0, _, _, _, _, g5⟩ := iv_at (HL.out.at_.below HB0Q.out) HZ.out
        obtain rfl : a = a' := by simpa using ea
        simp only at g0 g5
        have hk0 : (0 : Int) ≤ (k : Int) := by omega
        clear hw hrow hbq ea
        have hxl := HXL.out
        by_cases hlm : m < x.p.length
        · have hlm1 : (m : Int) < (x.p.length : Int) := by omega
          have hm0 : (0 : Int) ≤ (m : Int) := by omega
          obtain ⟨y, hy⟩ : ∃ y, x.p[m]? = some y := ⟨_, List.getElem?_eq_getElem hlm⟩
          have hys := (HON.out y (List.mem_of_getElem? hy)).small
          obtain ⟨ap, rfl, _, d0, d1, d2, d3⟩ := (HPT.out.below HB0Q.out) m y hy
          have HDC := Lib.hid (drop_cons hy)
          have HBX := Lib.hid (below_alloc wr (.cells #[.int .i64 y.o, .int .i64 y.n, .int .i64 y.a, .int .i64 y.f] 64))
          have HRX : Hid ((wr.alloc (.cells #[.int .i64 y.o, .int .i64 y.n, .int .i64 y.a, .int .i64 y.f] 64)).heap[rb]? = some (.cells #[.int .i64 0, .slice none 0 0] 53 (0, 0))) := Lib.hid ((heap_alloc_old _ _ (lt_of_block HRQ.out)).trans HRQ.out)
          have e0 : (wr.alloc (.cells #[.int .i64 y.o, .int .i64 y.n, .int .i64 y.a, .int .i64 y.f] 64)).cell? (a.add (k * 6)) = some (.int .i64 x.i) := cell_step HBX.out g0
          have e1 := cell_step HBX.out hq1
          clear hy
          by_cases hb : b ≤ y.a
          · have HW2 : Hid (wantF b x.p 0 0 = A ++ wantF b (x.p.drop (m + 1)) t A.length) := Lib.hid (by rw [HW.out, HDC.out, wantF, if_pos hb])
            go_wp2_with fail
            exact ⟨⟨m + 1, t, A, by omega, by simp, rfl, ht, hA, HW2.out, HROWA.out.grow HBX.out, bstep HBQ.out HBX.out⟩, by simp [intOf]; omega⟩
          · have hb1 : decide (b ≤ y.a) = false := decide_eq_false hb
            have hwn : IntKind.i64.wrap (t + y.n) = t + y.n := IntWalk.i64_in _ (by omega)
            have HWC : Hid (wantF b (x.p.drop m) t A.length = if 1024 < t + y.n ∨ A.length = 16 then [] else y :: wantF b (x.p.drop (m + 1)) (t + y.n) (A.length + 1)) := Lib.hid (by rw [HDC.out, wantF, if_neg hb])
            by_cases h16 : A.length = 16
            · have HFIN : Hid (wantF b x.p 0 0 = A) := Lib.hid (by rw [HW.out, HWC.out, if_pos (Or.inr h16), List.append_nil])
              have hA0 : A ≠ [] := fun e => by rw [e] at h16; simp at h16
              have hl16 : ((A.length : Int) == 16) = true := by rw [beq_iff_eq]; omega
              clear h16 hb hys
              have HE : Hid (wantA b L = (x.i, A)) := Lib.hid (by rw [wantA_some b HX.out HNO.out (by rw [HFIN.out]; exact hA0), HFIN.out])
              have hpos : (0 : Int) < (A.length : Int) := by have := List.length_pos_iff.2 hA0; omega
              go_wp2_with ((with_reducible (refine wpList_store_rowTo rfl 53 (Operand.tmp 4) (Operand.tmp 77) rfl rfl rb #[.int .i64 x.i, .slice o5 A.length c5] ?_ ?_ 53 #[.int .i64 0, .slice none 0 0] ?_ ?_ ?_ ?_ ?_)); (· rfl); (· rfl); (· exact HRX.out); (· exact waSize); (· rfl); (· simp [Value.oneCell']))
              try simp only [Exit.inBlock, Exit.then]
              refine OpW.ret_row1 (p := 4) rfl rfl rfl (setRow_heap _ _ _ _ _ _ HRX.out) Tryd.underlying53 rfl waSize ?_
              have hpt := Row.pts (HROWA.out.grow HBX.out)
              exact ⟨o5, c5, by rw [HE.out], by rw [HE.out]; exact (pts_only hpt (OpW.setRow_only _ _ _) (Nat.le_refl _) (fun ad e => by have := ((OpW.own_base (HROWA.out.grow HBX.out)).1 ad e).1; have := HS0.out; omega)).mono (OpW.setRow_only _ _ _).size, OpW.below_setRow (bstep HB0Q.out HBX.out) (by rw [HRB.out]; exact Nat.le_refl _) _⟩
            · have hl16 : ((A.length : Int) == 16) = false := by rw [beq_eq_false_iff_ne]; omega
              by_cases hn : 1024 < t + y.n
              · have HFIN : Hid (wantF b x.p 0 0 = A) := Lib.hid (by rw [HW.out, HWC.out, if_pos (Or.inl hn), List.append_nil])
                clear hb hys h16
                by_cases hA0 : A = []
                · subst hA0
                  have HNO2 : Hid (∀ z ∈ L.take k ++ [x], wantF b z.p 0 0 = []) := Lib.hid fun z hz => by
                    rcases List.mem_append.1 hz with hz | hz
                    · exact HNO.out z hz
                    · rw [List.mem_singleton.1 hz]; exact HFIN.out
                  go_wp2_with fail
                  exact ⟨⟨k + 1, by omega, by simp, by rw [HTK.out]; exact HNO2.out, bstep HBQ.out HBX.out⟩, by simp [intOf]; omega⟩
                · have HE : Hid (wantA b L = (x.i, A)) := Lib.hid (by rw [wantA_some b HX.out HNO.out (by rw [HFIN.out]; exact hA0), HFIN.out])
                  have hpos : (0 : Int) < (A.length : Int) := by have := List.length_pos_iff.2 hA0; omega
                  go_wp2_with ((with_reducible (refine wpList_store_rowTo rfl 53 (Operand.tmp 4) (Operand.tmp 77) rfl rfl rb #[.int .i64 x.i, .slice o5 A.length c5] ?_ ?_ 53 #[.int .i64 0, .slice none 0 0] ?_ ?_ ?_ ?_ ?_)); (· rfl); (· rfl); (· exact HRX.out); (· exact waSize); (· rfl); (· simp [Value.oneCell']))
                  try simp only [Exit.inBlock, Exit.then]
                  refine OpW.ret_row1 (p := 4) rfl rfl rfl (setRow_heap _ _ _ _ _ _ HRX.out) Tryd.underlying53 rfl waSize ?_
                  have hpt := Row.pts (HROWA.out.grow HBX.out)
                  exact ⟨o5, c5, by rw [HE.out], by rw [HE.out]; exact (pts_only hpt (OpW.setRow_only _ _ _) (Nat.le_refl _) (fun ad e => by have := ((OpW.own_base (HROWA.out.grow HBX.out)).1 ad e).1; have := HS0.out; omega)).mono (OpW.setRow_only _ _ _).size, OpW.below_setRow (bstep HB0Q.out HBX.out) (by rw [HRB.out]; exact Nat.le_refl _) _⟩
              · have hn1 : decide (1024 < t + y.n) = false := decide_eq_false hn
                have HW2 : Hid (wantF b x.p 0 0 = (A ++ [y]) ++ wantF b (x.p.drop (m + 1)) (t + y.n) (A ++ [y]).length) := Lib.hid (by rw [HW.out, HWC.out, if_neg (fun q => by rcases q with q | q; exact hn q; exact h16 q)]; simp)
                have hbq : w1.heap.size ≤ (wr.alloc (.cells #[.int .i64 y.o, .int .i64 y.n, .int .i64 y.a, .int .i64 y.f] 64)).heap.size := by have := HBQ.out.size; simp; omega
                have HRA2 := Lib.hid (HROWA.out.grow HBX.out)
                have hxb := heap_alloc_new wr (.cells #[.int .i64 y.o, .int .i64 y.n, .int .i64 y.a, .int .i64 y.f] 64)
                have HNX : Hid (some wr.heap.size ≠ (Value.slice o5 A.length c5).ownBlock) := Lib.hid (by
                  intro e
                  cases o5 with
                  | none => simp [Value.ownBlock] at e
                  | some ad => have := ((OpW.own_base HROWA.out).1 ad rfl).2; simp [Value.ownBlock] at e; omega)
                have HXB := Lib.hid hxb
                have hA2 : A.length + 1 ≤ 16 := by omega
                clear hb h16 hxb
                go_wp2_with (at_builtin; go_loud (refine wpList_append_newB rfl _ _ 23 rfl w1.heap.size 64 i0 (.agg #[.int .i64 0, .int .i64 0, .int .i64 0, .int .i64 0]) 4 32 Tryd.underlying23 hi hz0 hz1 hz2 rfl (by decide) (.slice o5 A.length c5) A.length (cellsOf A) (by rfl) HRA2.out _ 1 1 (by rfl) rfl (by simp [Value.oneCell']) (by unfold maxLen; omega) (by omega) hbq (by simp) ?_; intro o6 c6 w6 hown6 hb6 hg6; have HR6 : Hid (Row w1.heap.size w6 (.slice o6 (A.length + 1) c6) (A ++ [y])) := Lib.hid (Row.snoc y hown6); have HB6 : Hid (Below w1.heap.size w1 w6) := Lib.hid ((bstep HBQ.out HBX.out).trans hb6); have hy6 := (hg6.block wr.heap.size (by simp) (HNX.out)).trans HXB.out; have p1 := (new_cells hy6 1 (by simp)).1; simp only [List.getElem_toArray, List.getElem_cons_zero, List.getElem_cons_succ] at p1; clear hown6 hb6 hg6 hy6))
                exact ⟨⟨m + 1, t + y.n, A ++ [y], by omega, by simp, rfl, by omega, by simp; omega, HW2.out, HR6.out, HB6.out⟩, by simp [intOf]; omega⟩
        · obtain rfl : m = x.p.length := by omega
          have HFIN : Hid (wantF b x.p 0 0 = A) := Lib.hid (by rw [HW.out, List.drop_length, wantF, List.append_nil])
          by_cases hA0 : A = []
          · subst hA0
            have HNO2 : Hid (∀ z ∈ L.take k ++ [x], wantF b z.p 0 0 = []) := Lib.hid fun z hz => by
              rcases List.mem_append.1 hz with hz | hz
              · exact HNO.out z hz
              · rw [List.mem_singleton.1 hz]; exact HFIN.out
            go_wp2_with fail
            exact ⟨⟨k + 1, by omega, by simp, by rw [HTK.out]; exact HNO2.out, HBQ.out⟩, by simp [intOf]; omega⟩
          · have HE : Hid (wantA b L = (x.i, A)) := Lib.hid (by rw [wantA_some b HX.out HNO.out (by rw [HFIN.out]; exact hA0), HFIN.out])
            have hpos : (0 : Int) < (A.length : Int) := by have := List.length_pos_iff.2 hA0; omega
            go_wp2_with ((with_reducible (refine wpList_store_rowTo rfl 53 (Operand.tmp 4) (Operand.tmp 77) rfl rfl rb #[.int .i64 x.i, .slice o5 A.length c5] ?_ ?_ 53 #[.int .i64 0, .slice none 0 0] ?_ ?_ ?_ ?_ ?_)); (· rfl); (· rfl); (· exact HRQ.out); (· exact waSize); (· rfl); (· simp [Value.oneCell']))
            try simp only [Exit.inBlock, Exit.then]
            refine OpW.ret_row1 (p := 4) rfl rfl rfl (setRow_heap _ _ _ _ _ _ HRQ.out) Tryd.underlying53 rfl waSize ?_
            have hpt := Row.pts (HROWA.out)
            exact ⟨o5, c5, by rw [HE.out], by rw [HE.out]; exact (pts_only hpt (OpW.setRow_only _ _ _) (Nat.le_refl _) (fun ad e => by have := ((OpW.own_base (HROWA.out)).1 ad e).1; have := HS0.out; omega)).mono (OpW.setRow_only _ _ _).size, OpW.below_setRow (HB0Q.out) (by rw [HRB.out]; exact Nat.le_refl _) _⟩
    · obtain rfl : k = L.length := by omega
      have HE : Hid (wantA b L = (0, [])) := Lib.hid (wantA_none b (by have := HNO.out; rwa [List.take_length] at this))
      go_wp2_with ((with_reducible (refine wpList_store_rowTo rfl 53 (Operand.tmp 4) (Operand.tmp 78) rfl rfl rb #[.int .i64 0, .slice none 0 0] ?_ ?_ 53 #[.int .i64 0, .slice none 0 0] ?_ ?_ ?_ ?_ ?_)); (· rfl); (· rfl); (· exact HRES.out); (· exact waSize); (· rfl); (· simp [Value.oneCell']))
      try simp only [Exit.inBlock, Exit.then]
      refine OpW.ret_row1 (p := 4) rfl rfl rfl (setRow_heap _ _ _ _ _ _ HRES.out) Tryd.underlying53 rfl waSize ?_
      exact ⟨none, 0, by rw [HE.out]; rfl, by rw [HE.out]; exact fun i x h => by simp at h, OpW.below_setRow HBW.out (by rw [HRB.out]; exact Nat.le_refl _) _⟩
end Go.Proofs.YthnkpoagpjnopaaDoor.MovW

/- MoveWants: what is wanted out of elder addresses, of any table. -/
namespace Go.Proofs.YthnkpoagpjnopaaDoor.MovW
set_option maxRecDepth 100000
open Go.RowKit MovP InoP InoW ExtW LivW
theorem wantF_len (b : Int) : ∀ (l : List Pt) (n : Int) (c : Nat), (wantF b l n c).length ≤ l.length
  | [], _, _ => by simp [wantF]
  | x :: l, n, c => by
    rw [wantF]
    split
    · have := wantF_len b l n c; simp only [List.length_cons]; omega
    · split
      · simp
      · have := wantF_len b l (n + x.n) (c + 1); simp only [List.length_cons]; omega
theorem wantA_len (b : Int) : ∀ {xs : List Ino}, (∀ x ∈ xs, x.p.length ≤ 64) → (wantA b xs).2.length ≤ 64
  | [], _ => by simp [wantA]
  | x :: xs, h => by
    rw [wantA]
    split
    · exact wantA_len b fun y hy => h y (by simp [hy])
    · exact Nat.le_trans (wantF_len b _ _ _) (h x (by simp))
set_option maxHeartbeats 3200000 in
theorem wants_walk (oa : Option Addr) (cap : Nat) (xs : List Ino) (ys : List IV) (_ : xs.length ≤ maxLen) (hpl : ∀ x ∈ xs, x.p.length ≤ maxLen) (nx : Int) (_ : (Lit.int .i64 nx).wf = true) (bl : Int) (_ : (Lit.int .i64 bl).wf = true) (W : World) (hf : OpW.Fl W) (h : IList W oa xs ys) :
    Calls Tryd.prog 4 #[.slice oa xs.length cap, .int .i64 nx, .int .i64 bl] W fun e w' => e = .returned (.bool true) ∧ Below W.heap.size W w' := by
  have HLD := Lib.hid (loaded_any nx oa cap xs ys hpl W h)
  have HF := Lib.hid hf
  clear h hpl hf
  go_enter Tryd.func4, Tryd.ntmps4
  go_wp2_with fail
  refine HLD.out.mono ?_
  rintro e w3 (⟨rfl, hb3⟩ | ⟨hg, tb, mb, qb, oq, cq, zs, rfl, ht, hl, hq, hb3⟩)
  · have HB3 := Lib.hid hb3
    clear hb3
    go_wp2_with (first
      | (go_at_call 15; refine (nwant bl _).mono ?_; rintro e w4 ⟨rfl, hb4⟩; have HB4 := Lib.hid (bstep HB3.out hb4); clear hb4)
      | (go_at_call 6; refine (wakes_any _ (HF.out.keep HB4.out)).mono ?_; rintro e w5 ⟨rfl, hb5⟩; have HB5 := Lib.hid (bstep HB4.out hb5); clear hb5))
    go_ret
    exact ⟨rfl, HB5.out⟩
  · have HB3 := Lib.hid hb3
    have HT := Lib.hid ht
    have HL := Lib.hid hl
    have HQ := Lib.hid hq
    have HWL : Hid ((wantA bl xs).2.length ≤ 64) := Lib.hid (wantA_len bl fun x hx => (ht.good.all x hx).p.1)
    have HIG : Hid (∀ x ∈ xs, IGood x) := Lib.hid ht.good.all
    have HXL : Hid (xs.length ≤ 64) := Lib.hid ht.good.len
    have HWA := Lib.hid fun w (k : Below w3.heap.size w3 w) => want_any bl w (HT.out.grow k)
    have HRW := Lib.hid fun w (k : Below w3.heap.size w3 w) => rwant_any bl HIG.out HXL.out w (HL.out.grow k) ((k.block qb (lt_of_block HQ.out)).trans HQ.out)
    unfold RWPost at HRW
    generalize wantA bl xs = wa at *
    obtain ⟨i0, l0⟩ := wa
    simp only at HWL HWA HRW
    have tok1 : True := trivial
    clear hb3 ht hl hq hg
    go_wp2_with (first
      | (go_at_call 15; have _t := tok1; clear _t tok1; go_loud (refine (nwant bl _).mono ?_; rintro e w4 ⟨rfl, hb4⟩; have HB4 := Lib.hid hb4; clear hb4))
      | (go_at_call 15; go_loud (refine (HWA.out _ HB4.out).mono ?_; rintro e w5 ⟨o5, c5, rfl, hp5, hb5⟩; have HP5 := Lib.hid hp5; have HB5 := Lib.hid (bstep HB4.out hb5); clear hp5 hb5))
      | (go_at_call 16; go_loud (refine (HRW.out _ HB5.out).mono ?_; rintro e w6 ⟨o6, c6, rfl, hp6, hb6⟩; have HP6 := Lib.hid (pts_grow' hp6 (below_alloc w6 (.cells #[.int .i64 i0, .slice o6 l0.length c6] 53))); have HP56 := Lib.hid (pts_grow' (pts_grow' HP5.out hb6) (below_alloc w6 (.cells #[.int .i64 i0, .slice o6 l0.length c6] 53))); have HB6 := Lib.hid (bstep HB5.out (bstep hb6 (below_alloc w6 (.cells #[.int .i64 i0, .slice o6 l0.length c6] 53)))); clear hp6 hb6))
      | (go_at_call 13; go_loud (refine (parts_same o5 o6 _ _ c5 c6 l0 rfl rfl (by have := HWL.out; omega) _ HP56.out HP6.out).mono ?_; rintro e w7 ⟨rfl, hb7⟩; have HB7 := Lib.hid (bstep HB6.out hb7); clear hb7))
      | (go_at_call 17; go_loud (refine (lsame_any qb cq oq zs _ (HT.out.grow HB7.out) (HL.out.grow HB7.out) (new_cells ((HB7.out.block qb (lt_of_block HQ.out)).trans HQ.out) 0 (by simp)).1 (new_cells ((HB7.out.block qb (lt_of_block HQ.out)).trans HQ.out) 1 (by simp)).1).mono ?_; rintro e w8 ⟨rfl, hb8⟩; have HB8 := Lib.hid (bstep HB7.out hb8); clear hb8))
      | (go_at_call 6; go_loud (refine (wakes_any _ (HF.out.keep (bstep HB3.out HB8.out))).mono ?_; rintro e w9 ⟨rfl, hb9⟩; have HB9 := Lib.hid (bstep HB8.out hb9); clear hb9)))
    go_ret
    exact ⟨rfl, bstep HB3.out HB9.out⟩
end Go.Proofs.YthnkpoagpjnopaaDoor.MovW
