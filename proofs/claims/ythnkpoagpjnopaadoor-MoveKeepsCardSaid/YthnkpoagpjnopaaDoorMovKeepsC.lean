/- MoveKeeps: several texts in one. -/
import Derived.Test.YthnkpoagpjnopaaDoorMovInoA
import Derived.Test.YthnkpoagpjnopaaDoorMaps
import Derived.Test.YthnkpoagpjnopaaDoorRowAt
import Derived.Lib.BufferMore
import Derived.Test.YthnkpoagpjnopaaDoorMovWantsA
import Derived.Test.YthnkpoagpjnopaaDoorBase
import Derived.Lib.ConvBytes
import Derived.Laws.BytesArg
import Derived.Test.YthnkpoagpjnopaaDoorHeld
import Derived.Test.YthnkpoagpjnopaaDoorMovInoL
import Derived.Test.YthnkpoagpjnopaaDoorMovBuild
/- Several texts in one, of what this seat needs. -/
namespace Go.Proofs.YthnkpoagpjnopaaDoor.ExtW
set_option maxRecDepth 100000
open Go.RowKit
open Go.Maps (Keyed)
def plV (i : Int) : Value := .agg #[.int .i64 i]
def spV (y : Int × Int) : Value := .agg #[.int .i64 y.1, .int .i64 y.2]
def plOk (i : Int) : Prop := (Lit.int .i64 i).wf = true
theorem plOk_of {i : Int} (h : -1000000 ≤ i ∧ i ≤ 1000000) : plOk i := by
  unfold plOk; simp [Lit.wf, IntKind.min, IntKind.max, IntKind.signed, IntKind.bits]; omega
theorem extLaid : laidOutB Tryd.prog = true := by kernel_rfl
theorem plType : Tryd.prog.keyType 117 = true := by kernel_rfl
theorem plRow : (117 : TypeId) < Tryd.prog.types.size := of_decide_eq_true (by kernel_rfl)
theorem plWide : (match Tryd.prog.underlying 117 with | some (.array _ _) | some (.struct _) => true | _ => false) = true := by rw [Tryd.underlying117]
theorem plKeyed : Keyed Tryd.prog 117 := Keyed.of_law (deep_law_laid extLaid (m := 2) (by omega) plRow (by kernel_rfl) plWide)
theorem plCells : Tryd.prog.cellsOf 117 = 1 := by kernel_rfl
theorem intCells : Tryd.prog.cellsOf 3 = 1 := by kernel_rfl
theorem plFormed (i : Int) : (plV i).formed Tryd.prog 117 = true := by simp [plV, Value.formed, Tryd.underlying117, plCells]
theorem tsize : ∃ m, Tryd.prog.types.size = m + 1 := ⟨Tryd.prog.types.size - 1, by kernel_rfl⟩
theorem plKey (i : Int) (h : plOk i) : ∃ l, keyOf Tryd.prog 117 (plV i) = some l := by
  obtain ⟨m, hm⟩ := tsize
  unfold keyOf
  rw [Tryd.underlying117]
  simp only [plType, plFormed, Bool.and_self, if_true]
  unfold Program.keyLits
  rw [Tryd.underlying117]
  unfold plOk at h
  simp [plV, Value.cells, plCells, hm, Program.keyLits, Tryd.underlying3, h, intCells]
theorem plMK : MK Tryd.prog 117 plV plOk := ⟨plKeyed, plKey, fun x y h => by simpa [plV] using h⟩
theorem spZero (w : World) : (zeroValue 119).run Tryd.prog w = .ok (spV (0, 0)) w := by kernel_rfl
def PlIs (w : World) (b n : Nat) (g : Int → Option (Int × Int)) : Prop := MapIs plV plOk spV w b n g
theorem over_more (g : Int → Option (Int × Int)) (x : Pt) (k : Nat) : (fun z => if z = x.o + k then some (x.a, x.f + k) else overG g ⟨x.o, k, x.a, x.f⟩ z) = overG g ⟨x.o, (k + 1 : Nat), x.a, x.f⟩ := by
  funext z
  unfold overG
  simp only
  by_cases h : z = x.o + k
  · subst h
    rw [if_pos rfl, if_pos (by omega)]
    congr 2; omega
  · rw [if_neg h]
    by_cases h2 : x.o ≤ z ∧ z < x.o + k
    · rw [if_pos h2, if_pos (by omega)]
    · rw [if_neg h2, if_neg (by omega)]
set_option maxHeartbeats 1600000 in
theorem bput_any (x : Pt) (hx : One x) (b n : Nat) (g : Int → Option (Int × Int)) (w : World) (h : PlIs w b n g) :
    Calls Tryd.prog 83 #[.map (some b), .agg #[.int .i64 x.o, .int .i64 x.n, .int .i64 x.a, .int .i64 x.f]] w fun e w' => e = .returned (.tuple #[]) ∧ PlIs w' b (n + x.n.toNat) (overG g x) ∧ Only b w w' := by
  have hxs := hx.small
  have hlt := MapIs.lt h
  have HBX := Lib.hid (Box.made w x)
  have H0 : Hid (PlIs (w.alloc (.cells #[.int .i64 x.o, .int .i64 x.n, .int .i64 x.a, .int .i64 x.f] 64)) b n g) := Lib.hid (MapIs.alloc h _)
  obtain ⟨N, hN⟩ : ∃ N : Nat, x.n = N := ⟨x.n.toNat, by omega⟩
  have HN := Lib.hid hN
  have hN2 : N ≤ 1024 := by omega
  have HL := Lib.hid hlt
  have hS : w.heap.size < (w.alloc (.cells #[.int .i64 x.o, .int .i64 x.n, .int .i64 x.a, .int .i64 x.f] 64)).heap.size := by simp
  have HO0 : Hid (Only b w (w.alloc (.cells #[.int .i64 x.o, .int .i64 x.n, .int .i64 x.a, .int .i64 x.f] 64))) := Lib.hid (Only.of_below (below_alloc w _))
  clear h hlt hN
  go_enter Tryd.func83, Tryd.ntmps83
  go_wp2_with fail
  generalize w.alloc (.cells #[.int .i64 x.o, .int .i64 x.n, .int .i64 x.a, .int .i64 x.f] 64) = w0 at *
  go_loopw [7] (fun i wr => ∃ k : Nat, k ≤ N ∧ i = .int .i64 (k : Int) ∧ PlIs wr b (n + k) (overG g ⟨x.o, k, x.a, x.f⟩) ∧ Only b w0 wr) (fun i _ => ((N : Int) - intOf i).toNat)
  case atStart => exact ⟨0, by omega, rfl, MapIs.congr H0.out (by funext z; unfold overG; rw [if_neg (by simp only; omega)]), Only.refl _ _⟩
  case round =>
    obtain ⟨k, hk, rfl, hm, ho⟩ := hrel
    have HM := Lib.hid hm
    have HO := Lib.hid ho
    have HB2 : Hid (Box wr w.heap.size x) := Lib.hid (Only.heap ho HBX.out (by have := HL.out; omega))
    obtain ⟨p0, p1, p2, p3⟩ := HB2.out.cells
    clear hm ho
    have hn := HN.out
    by_cases hlt : k < N
    · have hlt2 : (k : Int) < x.n := by omega
      have hw1 : IntKind.i64.wrap (x.o + k) = x.o + k := IntWalk.i64_in _ (by omega)
      have hw2 : IntKind.i64.wrap (x.f + k) = x.f + k := IntWalk.i64_in _ (by omega)
      have hok : plOk (x.o + k) := plOk_of (by omega)
      have HK := Lib.hid hok
      clear hn hxs hok
      go_wp2_with (at_mapUpdate; go_loud (refine wpList_map_store _ rfl _ _ _ 114 119 rfl plMK Tryd.underlying114 b (n + k) _ HM.out (by rfl) (x.o + k) (x.a, x.f + k) HK.out (by rfl) (by rfl) ?_; intro w5 hm5 ho5 hs5; have HM5 := Lib.hid hm5; have HO5 := Lib.hid ho5; clear hm5 ho5))
      exact ⟨⟨k + 1, by omega, by simp, MapIs.congr HM5.out (over_more g x k), HO.out.trans HO5.out⟩, by simp [intOf]; omega⟩
    · obtain rfl : k = N := by omega
      have hlt2 : ¬ ((k : Int) < x.n) := by omega
      clear hn hxs
      go_wp2_with fail
      go_end0
      exact ⟨rfl, by rw [HN.out]; exact MapIs.congr HM.out (by rw [← HN.out]), HO0.out.trans HO.out⟩
end Go.Proofs.YthnkpoagpjnopaaDoor.ExtW

namespace Go.Proofs.YthnkpoagpjnopaaDoor.ExtW
set_option maxRecDepth 100000
open Go.RowKit
theorem fold_over : ∀ {lo : Int} {l : List Pt} {hi : Int} (_ : Sorted lo l hi) (g : Int → Option (Int × Int)) (i : Int), (l.foldl overG g) i = (look l i).or (g i)
  | _, [], _, _, g, i => by simp [look]
  | lo, x :: l, hi, h, g, i => by
    rw [List.foldl_cons, fold_over h.2.2, look]
    unfold overG
    by_cases c : x.o ≤ i ∧ i < x.o + x.n
    · rw [if_pos c, if_pos c, look_low h.2.2 i c.2]; rfl
    · rw [if_neg c, if_neg c]
theorem fold_look {lo : Int} {l : List Pt} {hi : Int} (h : Sorted lo l hi) : l.foldl overG (fun _ => none) = look l := by
  funext i
  rw [fold_over h]; simp
set_option maxHeartbeats 1600000 in
theorem bytesof_any (oa : Option Addr) (cap : Nat) (l : List Pt) (hg : Good l) (w : World) (h : PtsAt w.heap.size oa l w) :
    Calls Tryd.prog 58 #[.slice oa l.length cap] w fun e w' => ∃ b n, e = .returned (.map (some b)) ∧ PlIs w' b n (look l) ∧ w.heap.size ≤ b ∧ Below w.heap.size w w' := by
  have HP := Lib.hid h
  have HO : Hid (∀ y ∈ l, One y) := Lib.hid (chain_ones hg.2)
  have HS := Lib.hid (good_sorted hg)
  have hl64 := hg.1
  have hmm := @run_makeMap Tryd.prog
  have H0 : Hid (PlIs (w.alloc (.map #[] 0)) w.heap.size 0 (fun _ => none)) := Lib.hid (MapIs.made w)
  have HB0 := Lib.hid (below_alloc w (.map #[] 0))
  clear h hg
  go_enter Tryd.func58, Tryd.ntmps58
  go_wp2_with fail
  generalize hb : w.heap.size = b at H0 ⊢
  have HBB := Lib.hid hb
  generalize w.alloc (.map #[] 0) = w0 at *
  clear hb hmm
  go_loopw [9] (fun i wr => ∃ (k n : Nat), k ≤ l.length ∧ i = .int .i64 (k : Int) ∧ PlIs wr b n ((l.take k).foldl overG (fun _ => none)) ∧ Below w.heap.size w wr) (fun i _ => ((l.length : Int) - intOf i).toNat)
  case atStart => exact ⟨0, 0, by omega, rfl, H0.out, HB0.out⟩
  case round =>
    obtain ⟨k, n, hk, rfl, hm, hbel⟩ := hrel
    have HM := Lib.hid hm
    have HB := Lib.hid hbel
    clear hm hbel
    by_cases hlt : k < l.length
    · obtain ⟨x, hx⟩ : ∃ x, l[k]? = some x := ⟨_, List.getElem?_eq_getElem hlt⟩
      obtain ⟨a, rfl, hab, c0, c1, c2, c3⟩ := (HP.out.below HB.out) k x hx
      have HX1 : Hid ((l.take (k + 1)).foldl overG (fun _ => none) = overG ((l.take k).foldl overG (fun _ => none)) x) := Lib.hid (by rw [take_snoc hx, List.foldl_append]; rfl)
      have HOX := Lib.hid (HO.out x (List.mem_of_getElem? hx))
      have HX := Lib.hid hx
      clear hx
      go_wp2_with (go_at_call 83; refine (bput_any x HOX.out b n _ _ (MapIs.alloc HM.out _)).mono ?_; rintro e w5 ⟨rfl, hm5, ho5⟩; have HM5 := Lib.hid hm5; have HO5 := Lib.hid ho5; clear hm5 ho5)
      exact ⟨⟨k + 1, _, by omega, by simp, by rw [HX1.out]; exact HM5.out, (bstep HB.out (below_alloc wr _)).trans (HO5.out.below (by have := HBB.out; omega) (by have := HB.out.size; simp; omega))⟩, by simp [intOf]; omega⟩
    · obtain rfl : k = l.length := by omega
      rw [List.take_length] at HM
      go_wp2_with fail
      go_ret
      exact ⟨b, n, rfl, by rw [← fold_look HS.out]; exact HM.out, by rw [← HBB.out]; omega, HB.out⟩
set_option maxHeartbeats 1600000 in
theorem parts_any (b n : Nat) (g : Int → Option (Int × Int)) (ho : ∀ x ∈ units g 0 8192, One x) (w : World) (h : PlIs w b n g) :
    Calls Tryd.prog 59 #[.map (some b)] w fun e w' => ∃ v, e = .returned (.tuple #[v, .int .i64 (fewE (joinL (units g 0 8192)))]) ∧ Row w.heap.size w' v (fewL (joinL (units g 0 8192))) ∧ Below w.heap.size w w' := by
  obtain ⟨i0, hi, hz0, hz1, hz2⟩ := info_parts partinfo
  have HM0 := Lib.hid h
  obtain ⟨N, hN⟩ : ∃ N : Nat, N = 8192 := ⟨_, rfl⟩
  have hNi : (8192 : Int) = N := by omega
  have HN := Lib.hid hN
  rw [← hN] at ho ⊢
  have HO := Lib.hid ho
  clear h ho hN
  go_enter Tryd.func59, Tryd.ntmps59
  go_wp2_with fail
  have HNI := Lib.hid hNi
  clear hNi
  go_loopw [4, 8] (fun v i wr => ∃ k : Nat, k ≤ N ∧ i = .int .i64 (k : Int) ∧ Row w.heap.size wr v (units g 0 k) ∧ Below w.heap.size w wr) (fun _ i _ => ((N : Int) - intOf i).toNat)
  case atStart => exact ⟨0, by omega, rfl, Row.nil _ _, Below.refl _ _⟩
  case round =>
    obtain ⟨k, hk, rfl, hrow, hbel⟩ := hrel
    have HB := Lib.hid hbel
    have hn8 := HN.out
    have HLEN : Hid ((units g 0 k).length ≤ k) := Lib.hid (by
      have : ∀ k : Nat, (units g 0 k).length ≤ k := by
        intro k
        induction k with
        | zero => simp [units]
        | succ k ih =>
          rw [units, List.length_append]
          split <;> simp <;> omega
      exact this k)
    have HU : Hid (units g 0 (k + 1) = units g 0 k ++ (match g (0 + k) with | some (a, f) => [⟨0 + k, 1, a, f⟩] | none => [])) := Lib.hid rfl
    obtain ⟨oa2, cap2, rfl, hc2, _, _⟩ := hrow.form
    have HMR := Lib.hid (MapIs.keep HM0.out (hbel))
    clear hbel
    by_cases hlt : k < N
    · have hk8 : (k : Int) < 8192 := by omega
      have HK := Lib.hid (plOk_of (i := (k : Int)) (by omega))
      have HLEN2 := HLEN.out
      generalize units g 0 k = J at hrow HU HLEN hc2 HLEN2 ⊢
      have HOWN : Hid (wr.ownsRow w.heap.size 64 4 (.slice oa2 J.length cap2) J.length (cellsOf J)) := Lib.hid hrow
      clear hrow hn8
      rw [Int.zero_add] at HU
      cases hgk : g (k : Int) with
      | none =>
        rw [hgk] at HU
        have HG := Lib.hid hgk
        clear hgk
        go_wp2_with (at_lookup; go_loud (refine wpList_map_look_none _ rfl _ _ 114 119 true rfl plMK Tryd.underlying114 _ (spZero _) b n g HMR.out (by rfl) (k : Int) HK.out (by rfl) HG.out ?_; unfold spV; simp only [if_true]))
        exact ⟨⟨k + 1, by omega, by simp, by rw [HU.out, List.append_nil]; exact HOWN.out.alloc _, bstep HB.out (below_alloc wr _)⟩, by simp [intOf]; omega⟩
      | some y =>
        obtain ⟨a, f⟩ := y
        rw [hgk] at HU
        have HG := Lib.hid hgk
        clear hgk
        go_wp2_with (first
          | (at_lookup; go_loud (refine wpList_map_look_some _ rfl _ _ 114 119 true rfl plMK Tryd.underlying114 _ (spZero _) b n g HMR.out (by rfl) (k : Int) HK.out (by rfl) (a, f) HG.out (.agg #[.int .i64 a, .int .i64 f]) rfl ?_; simp only [if_true]))
          | (at_builtin; go_loud (refine wpList_append_newB rfl _ _ 23 rfl w.heap.size 64 i0 (.agg #[.int .i64 0, .int .i64 0, .int .i64 0, .int .i64 0]) 4 32 Tryd.underlying23 hi hz0 hz1 hz2 rfl (by decide) _ _ _ (by rfl) (HOWN.out.alloc _) _ 1 1 (by rfl) rfl (cells_onecell [⟨k, 1, a, f⟩]) (by unfold maxLen; omega) (by omega) (by have := HB.out.size; simp; omega) (by simp) ?_; intro oa5 cap5 w5 hown5 hbel5 _; have HS5 := Lib.hid hown5; have HB5 := Lib.hid hbel5; clear hown5 hbel5)))
        exact ⟨⟨k + 1, by omega, by simp, by rw [HU.out]; exact Row.snoc ⟨k, 1, a, f⟩ HS5.out, HB.out.trans (((below_alloc wr _).mono HB.out.size).trans HB5.out)⟩, by simp [intOf]; omega⟩
    · obtain rfl : k = N := by omega
      have hk8 : ¬ ((k : Int) < 8192) := by omega
      have HPT := Lib.hid (Row.pts hrow)
      have HSO : Hid (Sorted 0 (units g 0 k) 8192) := Lib.hid (by have := units_sorted g 0 k; rwa [show (0 : Int) + (k : Int) = 8192 by omega] at this)
      have HLN := Lib.hid (show (units g 0 k).length ≤ 100000 by have := HLEN.out; omega)
      obtain ⟨m, hm⟩ : ∃ m, (units g 0 k).length = m := ⟨_, rfl⟩
      rw [hm] at hc2 ⊢
      have HMM := Lib.hid hm.symm
      clear hrow hn8 hm HU
      go_wp2_with (go_at_call 84; refine (joined_is _ _ _ _ HMM.out HSO.out HO.out HLN.out _ HPT.out).mono ?_; rintro e w7 ⟨v7, rfl, hr7, hb7⟩; have HR7 := Lib.hid (hr7.mono HB.out.size); have HB7 := Lib.hid (bstep HB.out hb7); clear hr7 hb7)
      go_ret2
      exact ⟨v7, rfl, HR7.out, HB7.out⟩
end Go.Proofs.YthnkpoagpjnopaaDoor.ExtW

namespace Go.Proofs.YthnkpoagpjnopaaDoor.ExtW
set_option maxRecDepth 100000
open Go.RowKit
def addrB (n : Int) : Bool := decide (0 ≤ n ∧ n < 16384)
theorem addr_any (n : Int) (w : World) : Calls Tryd.prog 55 #[.int .i64 n] w fun e w' => e = .returned (.bool (addrB n)) ∧ w = w' := by
  have key : ∀ b : Bool, addrB n = b → Calls Tryd.prog 55 #[.int .i64 n] w fun e w' => e = .returned (.bool b) ∧ w = w' := by
    intro b hb
    by_cases h1 : 0 ≤ n
    · by_cases h2 : n < 16384
      · obtain rfl : b = true := by rw [← hb]; exact decide_eq_true ⟨h1, h2⟩
        clear hb
        go_enter Tryd.func55, Tryd.ntmps55
        go_wp2
        go_ret
        exact ⟨rfl, rfl⟩
      · obtain rfl : b = false := by rw [← hb]; exact decide_eq_false fun h => h2 h.2
        have h2' : decide (n < 16384) = false := decide_eq_false h2
        clear hb h2
        go_enter Tryd.func55, Tryd.ntmps55
        go_wp2
        go_ret
        exact ⟨rfl, rfl⟩
    · obtain rfl : b = false := by rw [← hb]; exact decide_eq_false fun h => h1 h.1
      clear hb
      go_enter Tryd.func55, Tryd.ntmps55
      go_wp2
      go_ret
      exact ⟨rfl, rfl⟩
  exact key _ rfl
theorem addr_is (n : Int) (b : Bool) (hb : addrB n = b) (w : World) : Calls Tryd.prog 55 #[.int .i64 n] w fun e w' => e = .returned (.bool b) ∧ w = w' := by
  rw [← hb]; exact addr_any n w
/-- a move boxed -/
def MBox (w : World) (b : Nat) (ma mf mn mt : Int) : Prop := w.heap[b]? = some (.cells #[.int .i64 ma, .int .i64 mf, .int .i64 mn, .int .i64 mt] 69 (0, 0))
theorem MBox.grow {w w' : World} {b : Nat} {ma mf mn mt : Int} (h : MBox w b ma mf mn mt) (hb : Below w.heap.size w w') : MBox w' b ma mf mn mt := (hb.block b (lt_of_block h)).trans h
theorem MBox.only {w w' : World} {b c : Nat} {ma mf mn mt : Int} (h : MBox w b ma mf mn mt) (k : Only c w w') (hne : b ≠ c) : MBox w' b ma mf mn mt := Only.heap k h hne
theorem MBox.made (w : World) (ma mf mn mt : Int) : MBox (w.alloc (.cells #[.int .i64 ma, .int .i64 mf, .int .i64 mn, .int .i64 mt] 69)) w.heap.size ma mf mn mt := heap_alloc_new w _
theorem MBox.cells {w : World} {b : Nat} {ma mf mn mt : Int} (h : MBox w b ma mf mn mt) : w.cell? ⟨b, 0, none⟩ = some (.int .i64 ma) ∧ w.cell? ⟨b, 1, none⟩ = some (.int .i64 mf) ∧ w.cell? ⟨b, 2, none⟩ = some (.int .i64 mn) ∧ w.cell? ⟨b, 3, none⟩ = some (.int .i64 mt) :=
  ⟨(new_cells h 0 (by simp)).1, (new_cells h 1 (by simp)).1, (new_cells h 2 (by simp)).1, (new_cells h 3 (by simp)).1⟩
def moveE (l : List Pt) (ma mf mn mt tt : Int) : Int := if Good l then if May ma mf mn mt tt then fewE (movL l ma mf mn mt tt) else 1 else 11
def moveL (l : List Pt) (ma mf mn mt tt : Int) : List Pt := if Good l then if May ma mf mn mt tt then fewL (movL l ma mf mn mt tt) else [] else []
/-- some were moved already -/
def movS (l : List Pt) (ma mf mn mt tt : Int) (seen : Int → Bool) (i : Int) : Option (Int × Int) := if seen i then movG (look l) ma mf mn mt tt i else look l i
theorem movS_done {l : List Pt} {ma mf mn mt tt : Int} {seen : Int → Bool} (h : ∀ i, movS l ma mf mn mt tt seen i ≠ none → seen i = true) : movS l ma mf mn mt tt seen = movG (look l) ma mf mn mt tt := by
  funext i
  have hi := h i
  unfold movS at hi ⊢
  by_cases c : seen i = true
  · rw [if_pos c]
  · rw [if_neg c] at hi ⊢
    have : look l i = none := by
      cases hl : look l i with
      | none => rfl
      | some y => exact absurd (hi (by rw [hl]; simp)) c
    rw [this]; unfold movG; rw [this]
theorem movS_yes {l : List Pt} {ma mf mn mt tt x a f : Int} {seen : Int → Bool} (hx : look l x = some (a, f)) (h : a = ma ∧ mf ≤ f ∧ f < mf + mn) :
    (fun z => if z = x then some (tt, f - mf + mt) else movS l ma mf mn mt tt seen z) = movS l ma mf mn mt tt (fun z => seen z || decide (z = x)) := by
  funext z
  unfold movS
  by_cases c : z = x
  · subst c
    rw [if_pos rfl, if_pos (by simp)]
    unfold movG; rw [hx]; simp only; rw [if_pos h]
  · rw [if_neg c]
    simp [c]
theorem movS_no {l : List Pt} {ma mf mn mt tt x a f : Int} {seen : Int → Bool} (hx : look l x = some (a, f)) (hs : seen x = false) (h : ¬ (a = ma ∧ mf ≤ f ∧ f < mf + mn)) :
    movS l ma mf mn mt tt seen = movS l ma mf mn mt tt (fun z => seen z || decide (z = x)) := by
  funext z
  unfold movS
  by_cases c : z = x
  · subst c
    rw [if_neg (by rw [hs]; simp), if_pos (by simp)]
    unfold movG; rw [hx]; simp only; rw [if_neg h]
  · simp [c]
def PlRange (w : World) (b r n : Nat) (g : Int → Option (Int × Int)) (seen : Int → Bool) (cnt : Nat) : Prop := RangeIs plV plOk spV w b r n g seen cnt
set_option maxHeartbeats 3200000 in
theorem move_any (oa : Option Addr) (cap : Nat) (l : List Pt) (ma mf mn mt tt : Int) (hb : (-9223372036854775808 ≤ mf ∧ mf ≤ 9223372036854775807)) (hl : l.length ≤ 9223372036854775807) (w : World) (h : PtsAt w.heap.size oa l w) :
    Calls Tryd.prog 38 #[.slice oa l.length cap, .agg #[.int .i64 ma, .int .i64 mf, .int .i64 mn, .int .i64 mt], .int .i64 tt] w fun e w' => ∃ v, e = .returned (.tuple #[v, .int .i64 (moveE l ma mf mn mt tt)]) ∧ Row w.heap.size w' v (moveL l ma mf mn mt tt) ∧ Below w.heap.size w w' := by
  have HP := Lib.hid (h.grow (below_alloc w (.cells #[.int .i64 ma, .int .i64 mf, .int .i64 mn, .int .i64 mt] 69)))
  have HBX := Lib.hid (MBox.made w ma mf mn mt)
  clear h
  by_cases hg : Good l
  · have HG : Hid (decide (Good l) = true) := Lib.hid (decide_eq_true hg)
    have hl64 := hg.1
    have HMay : Hid (May ma mf mn mt tt ↔ (addrB ma = true ∧ addrB tt = true ∧ decide (Whole mf mn 1024) = true ∧ decide (Whole mt mn 1024) = true)) := Lib.hid (by unfold May addrB; simp)
    have BAD : Hid (¬ May ma mf mn mt tt → moveE l ma mf mn mt tt = 1 ∧ moveL l ma mf mn mt tt = []) := Lib.hid fun hm => by
      unfold moveE moveL; rw [if_pos hg, if_pos hg, if_neg hm, if_neg hm]; exact ⟨rfl, rfl⟩
    cases hA : addrB ma with
    | false =>
      have HE := Lib.hid (BAD.out (by rw [HMay.out, hA]; simp))
      have HA := Lib.hid hA
      clear hg hA hl
      go_enter Tryd.func38, Tryd.ntmps38
      go_wp2_with (first
        | (go_at_call 56; refine (good_is _ _ _ _ HG.out (by omega) _ HP.out).mono ?_; rintro e w1 ⟨rfl, hb1⟩; have HBX1 := Lib.hid (HBX.out.grow hb1); have HB1 := Lib.hid (bstep (below_alloc w _) hb1); clear hb1; obtain ⟨p0, p1, p2, p3⟩ := HBX1.out.cells)
        | (go_at_call 55; refine (addr_is _ _ HA.out _).mono ?_; rintro e w2 ⟨rfl, rfl⟩))
      go_ret2
      exact ⟨.slice none 0 0, by rw [HE.out.1]; rfl, by rw [HE.out.2]; exact Row.nil _ _, HB1.out⟩
    | true =>
      cases hB : addrB tt with
      | false =>
        have HE := Lib.hid (BAD.out (by rw [HMay.out, hB]; simp))
        have HA := Lib.hid hA
        have HBd := Lib.hid hB
        clear hg hA hB hl
        go_enter Tryd.func38, Tryd.ntmps38
        go_wp2_with (first
          | (go_at_call 56; refine (good_is _ _ _ _ HG.out (by omega) _ HP.out).mono ?_; rintro e w1 ⟨rfl, hb1⟩; have HBX1 := Lib.hid (HBX.out.grow hb1); have HB1 := Lib.hid (bstep (below_alloc w _) hb1); clear hb1; obtain ⟨p0, p1, p2, p3⟩ := HBX1.out.cells)
          | (go_at_call_of 55 (Value.int IntKind.i64 ma); refine (addr_is _ _ HA.out _).mono ?_; rintro e w2 ⟨rfl, rfl⟩)
          | (go_at_call_of 55 (Value.int IntKind.i64 tt); refine (addr_is _ _ HBd.out _).mono ?_; rintro e w2 ⟨rfl, rfl⟩))
        go_ret2
        exact ⟨.slice none 0 0, by rw [HE.out.1]; rfl, by rw [HE.out.2]; exact Row.nil _ _, HB1.out⟩
      | true =>
        cases hC : decide (Whole mf mn 1024) with
        | false =>
          have HE := Lib.hid (BAD.out (by rw [HMay.out, hC]; simp))
          have HA := Lib.hid hA
          have HBd := Lib.hid hB
          have HC := Lib.hid hC
          clear hg hA hB hC hl
          go_enter Tryd.func38, Tryd.ntmps38
          go_wp2_with (first
            | (go_at_call 56; refine (good_is _ _ _ _ HG.out (by omega) _ HP.out).mono ?_; rintro e w1 ⟨rfl, hb1⟩; have HBX1 := Lib.hid (HBX.out.grow hb1); have HB1 := Lib.hid (bstep (below_alloc w _) hb1); clear hb1; obtain ⟨p0, p1, p2, p3⟩ := HBX1.out.cells)
            | (go_at_call_of 55 (Value.int IntKind.i64 ma); refine (addr_is _ _ HA.out _).mono ?_; rintro e w2 ⟨rfl, rfl⟩)
            | (go_at_call_of 55 (Value.int IntKind.i64 tt); refine (addr_is _ _ HBd.out _).mono ?_; rintro e w2 ⟨rfl, rfl⟩)
            | (go_at_call 57; refine (whole_is _ _ _ _ (.inr rfl) HC.out _).mono ?_; rintro e w2 ⟨rfl, rfl⟩))
          go_ret2
          exact ⟨.slice none 0 0, by rw [HE.out.1]; rfl, by rw [HE.out.2]; exact Row.nil _ _, HB1.out⟩
        | true =>
          cases hD : decide (Whole mt mn 1024) with
          | false =>
            have HE := Lib.hid (BAD.out (by rw [HMay.out, hD]; simp))
            have HA := Lib.hid hA
            have HBd := Lib.hid hB
            have HC := Lib.hid hC
            have HD := Lib.hid hD
            clear hg hA hB hC hD hl
            go_enter Tryd.func38, Tryd.ntmps38
            go_wp2_with (first
              | (go_at_call 56; refine (good_is _ _ _ _ HG.out (by omega) _ HP.out).mono ?_; rintro e w1 ⟨rfl, hb1⟩; have HBX1 := Lib.hid (HBX.out.grow hb1); have HB1 := Lib.hid (bstep (below_alloc w _) hb1); clear hb1; obtain ⟨p0, p1, p2, p3⟩ := HBX1.out.cells)
              | (go_at_call_of 55 (Value.int IntKind.i64 ma); refine (addr_is _ _ HA.out _).mono ?_; rintro e w2 ⟨rfl, rfl⟩)
              | (go_at_call_of 55 (Value.int IntKind.i64 tt); refine (addr_is _ _ HBd.out _).mono ?_; rintro e w2 ⟨rfl, rfl⟩)
              | (go_at_call_of 57 (Value.int IntKind.i64 mf); refine (whole_is _ _ _ _ (.inr rfl) HC.out _).mono ?_; rintro e w2 ⟨rfl, rfl⟩)
              | (go_at_call_of 57 (Value.int IntKind.i64 mt); refine (whole_is _ _ _ _ (.inr rfl) HD.out _).mono ?_; rintro e w2 ⟨rfl, rfl⟩))
            go_ret2
            exact ⟨.slice none 0 0, by rw [HE.out.1]; rfl, by rw [HE.out.2]; exact Row.nil _ _, HB1.out⟩
          | true =>
            have hmay : May ma mf mn mt tt := HMay.out.2 ⟨hA, hB, hC, hD⟩
            have HE : Hid (moveE l ma mf mn mt tt = fewE (movL l ma mf mn mt tt) ∧ moveL l ma mf mn mt tt = fewL (movL l ma mf mn mt tt)) := Lib.hid (by
              unfold moveE moveL; rw [if_pos hg, if_pos hg, if_pos hmay, if_pos hmay]; exact ⟨rfl, rfl⟩)
            have HONES := Lib.hid (mov_ones hg hmay)
            have HGL := Lib.hid hg
            have hmb : 0 ≤ mf ∧ 1 ≤ mn ∧ mf + mn ≤ 1024 ∧ 0 ≤ mt ∧ mt + mn ≤ 1024 := by unfold May Whole at hmay; omega
            have HLB : Hid (∀ (i a f : Int), look l i = some (a, f) → plOk i ∧ 0 ≤ f ∧ f ≤ 1024) := Lib.hid fun i a f hi => by
              obtain ⟨p, hp, b1, b2, rfl, rfl⟩ := look_some hi
              have := (chain_ones hg.2 p hp).small
              exact ⟨plOk_of (by omega), by omega, by omega⟩
            have HA := Lib.hid hA
            have HBd := Lib.hid hB
            have HC := Lib.hid hC
            have HD := Lib.hid hD
            clear hg hA hB hC hD hl hmay
            go_enter Tryd.func38, Tryd.ntmps38
            go_wp2_with (first
              | (go_at_call 56; refine (good_is _ _ _ _ HG.out (by omega) _ HP.out).mono ?_; rintro e w1 ⟨rfl, hb1⟩; have HP1 := Lib.hid (HP.out.grow hb1); have HBX1 := Lib.hid (HBX.out.grow hb1); have HB1 := Lib.hid (bstep (below_alloc w _) hb1); clear hb1; obtain ⟨p0, p1, p2, p3⟩ := HBX1.out.cells)
              | (go_at_call_of 55 (Value.int IntKind.i64 ma); refine (addr_is _ _ HA.out _).mono ?_; rintro e w2 ⟨rfl, rfl⟩)
              | (go_at_call_of 55 (Value.int IntKind.i64 tt); refine (addr_is _ _ HBd.out _).mono ?_; rintro e w2 ⟨rfl, rfl⟩)
              | (go_at_call_of 57 (Value.int IntKind.i64 mf); refine (whole_is _ _ _ _ (.inr rfl) HC.out _).mono ?_; rintro e w2 ⟨rfl, rfl⟩)
              | (go_at_call_of 57 (Value.int IntKind.i64 mt); refine (whole_is _ _ _ _ (.inr rfl) HD.out _).mono ?_; rintro e w2 ⟨rfl, rfl⟩)
              | (go_at_call 58; refine (bytesof_any _ _ _ HGL.out _ HP1.out).mono ?_; rintro e w3 ⟨b, n, rfl, hm3, hbz, hb3⟩; have HBX3 := Lib.hid (HBX1.out.grow hb3); have HBZ := Lib.hid hbz; have HM3 := Lib.hid hm3; have HB3 := Lib.hid (bstep HB1.out hb3); clear hm3 hb3 hbz p0 p1 p2 p3)
              | (at_range; go_loud (refine wpList_map_range _ rfl _ 114 119 rfl Tryd.underlying114 b n _ HM3.out (by rfl) ?_; intro w4 cnt4 hr4 hc4 hb4 hs4; have HR4 := Lib.hid hr4; have HBX4 := Lib.hid (HBX3.out.grow hb4); have HB4 := Lib.hid (bstep HB3.out hb4); clear hr4 hb4 hc4)))
            go_frame
            have HBN : Hid (w3.heap.size ≠ b) := Lib.hid (by have := MapIs.lt HM3.out; omega)
            have HR0 : Hid (PlRange w4 b w3.heap.size n (movS l ma mf mn mt tt (fun _ => false)) (fun _ => false) cnt4) := Lib.hid HR4.out
            have HMR : Hid (w.heap.size ≠ b ∧ w.heap.size ≠ w3.heap.size) := Lib.hid ⟨by have := HBZ.out; have := HB1.out.size; have := lt_of_block HBX1.out; omega, by have := lt_of_block HBX3.out; omega⟩
            have HBZ3 : Hid (w.heap.size ≤ b ∧ w.heap.size ≤ w3.heap.size) := Lib.hid ⟨by have := HBZ.out; have := HB1.out.size; omega, HB3.out.size⟩
            generalize hr : w3.heap.size = r at *
            clear hr hs4
            go_loopw [48] (fun _ wr => ∃ (seen : Int → Bool) (cnt : Nat), PlRange wr b r n (movS l ma mf mn mt tt seen) seen cnt ∧ MBox wr w.heap.size ma mf mn mt ∧ Below w.heap.size w wr) (fun _ wr => rangeLeft wr b r)
            case atStart => exact ⟨_, _, HR0.out, HBX4.out, HB4.out⟩
            case round =>
              obtain ⟨seen, cnt, hrg, hbx, hbel⟩ := hrel
              have HR := Lib.hid hrg
              have HX := Lib.hid hbx
              have HB := Lib.hid hbel
              have HLEFT := Lib.hid (RangeIs.left hrg)
              clear hrg hbx hbel
              go_wp2_with (at_next; go_loud (refine wpList_map_next _ rfl _ rfl plMK b r n cnt _ seen (by rfl) HR.out ?_ ?_))
              · intro hdone
                have HF : Hid (PlIs wr b n (movG (look l) ma mf mn mt tt)) := Lib.hid (MapIs.congr (RangeIs.map HR.out) (movS_done hdone))
                clear hdone
                go_wp2_with (go_at_call 59; refine (parts_any b n _ HONES.out _ HF.out).mono ?_; rintro e w7 ⟨v7, rfl, hr7, hb7⟩; have HR7 := Lib.hid (hr7.mono HB.out.size); have HB7 := Lib.hid (bstep HB.out hb7); clear hr7 hb7)
                go_ret2
                exact ⟨v7, by rw [HE.out.1]; rfl, by rw [HE.out.2]; exact HR7.out, HB7.out⟩
              · intro x a f w5 cnt5 hokx hgx hsx hr5 hc5 ho5 hs5 hen
                have hlx : look l x = some (a, f) := by unfold movS at hgx; rw [hsx] at hgx; simpa using hgx
                have hen' : (Instr.entry (.pointer (some ⟨r, 0, none⟩))).run Tryd.prog w5 = .ok (.tuple #[.agg #[.int .i64 x], .agg #[.int .i64 a, .int .i64 f]]) w5 := hen
                have hfb := (HLB.out x a f hlx).2
                have HOKX := Lib.hid hokx
                have HGX : Hid (movS l ma mf mn mt tt seen x ≠ none) := Lib.hid (by rw [hgx]; simp)
                have HLX := Lib.hid hlx
                have HSX := Lib.hid hsx
                have HR5 := Lib.hid hr5
                have HC5 := Lib.hid hc5
                have HX5 := Lib.hid (HX.out.only ho5 HMR.out.2)
                have HB5 := Lib.hid (HB.out.trans (ho5.below HBZ3.out.2 HB.out.size))
                obtain ⟨p0, p1, p2, p3⟩ := HX5.out.cells
                have hzw := lt_of_block HX5.out
                have hw1 : IntKind.i64.wrap (mf + mn) = mf + mn := IntWalk.i64_in _ (by omega)
                have hw2 : IntKind.i64.wrap (f - mf) = f - mf := IntWalk.i64_in _ (by omega)
                have hw3 : IntKind.i64.wrap (f - mf + mt) = f - mf + mt := IntWalk.i64_in _ (by omega)
                clear hen hokx hgx hlx hsx hr5 hc5 ho5 hs5
                have NO : Hid (¬ (a = ma ∧ mf ≤ f ∧ f < mf + mn) → ∀ wz, Below w5.heap.size w5 wz → (∃ (seen' : Int → Bool) (cnt' : Nat), PlRange wz b r n (movS l ma mf mn mt tt seen') seen' cnt' ∧ MBox wz w.heap.size ma mf mn mt ∧ Below w.heap.size w wz) ∧ rangeLeft wz b r < rangeLeft wr b r) := Lib.hid fun hn wz hz => by
                  have hq : PlRange wz b r n (movS l ma mf mn mt tt (fun z => seen z || decide (z = x))) (fun z => seen z || decide (z = x)) cnt5 := by
                    have := RangeIs.keep HR5.out hz
                    rwa [movS_no HLX.out HSX.out hn] at this
                  exact ⟨⟨_, _, hq, HX5.out.grow hz, bstep HB5.out hz⟩, by rw [RangeIs.left hq, HLEFT.out]; exact HC5.out⟩
                by_cases e1 : a = ma
                · have d1 : (a == ma) = true := by rw [beq_iff_eq]; exact e1
                  by_cases e2 : mf ≤ f
                  · by_cases e3 : f < mf + mn
                    · have HYES : Hid (a = ma ∧ mf ≤ f ∧ f < mf + mn) := Lib.hid (And.intro e1 (And.intro e2 e3))
                      clear e1
                      go_wp2_with (at_mapUpdate; go_loud (refine wpList_range_store _ rfl _ _ _ 114 119 rfl plMK Tryd.underlying114 b r n cnt5 _ _ (RangeIs.keep (RangeIs.keep HR5.out (below_alloc _ _)) (below_alloc _ _)) (by rfl) x (tt, f - mf + mt) HOKX.out HGX.out (by rfl) (by rfl) ?_; intro w6 hr6 ho6 hs6; have HR6 := Lib.hid hr6; have HO6 := Lib.hid ho6; clear hr6 ho6; go_frame))
                      have hq : PlRange w6 b r n (movS l ma mf mn mt tt (fun z => seen z || decide (z = x))) (fun z => seen z || decide (z = x)) cnt5 := by
                        have := HR6.out
                        rwa [movS_yes HLX.out HYES.out] at this
                      have hbl := bstep (bstep HB5.out (below_alloc w5 (.cells #[.int .i64 x] 117))) (below_alloc _ (.cells #[.int .i64 a, .int .i64 f] 119))
                      exact ⟨⟨_, _, hq, ((HX5.out.grow (below_alloc w5 _)).grow (below_alloc _ _)).only HO6.out HMR.out.1, hbl.trans (HO6.out.below HBZ3.out.1 hbl.size)⟩, by rw [RangeIs.left hq, HLEFT.out]; exact HC5.out⟩
                    · have NOX := Lib.hid (fun (h : a = ma ∧ mf ≤ f ∧ f < mf + mn) => e3 h.2.2)
                      have e3' : decide (f < mf + mn) = false := decide_eq_false e3
                      clear e1 e3
                      go_wp2_with fail
                      exact NO.out NOX.out _ (bstep (below_alloc w5 _) (below_alloc _ _))
                  · have NOX := Lib.hid (fun (h : a = ma ∧ mf ≤ f ∧ f < mf + mn) => e2 h.2.1)
                    have e2' : decide (mf ≤ f) = false := decide_eq_false e2
                    clear e1 e2
                    go_wp2_with fail
                    exact NO.out NOX.out _ (bstep (below_alloc w5 _) (below_alloc _ _))
                · have NOX := Lib.hid (fun (h : a = ma ∧ mf ≤ f ∧ f < mf + mn) => e1 h.1)
                  have d1 : (a == ma) = false := by rw [beq_eq_false_iff_ne]; exact e1
                  clear e1
                  go_wp2_with fail
                  exact NO.out NOX.out _ (bstep (below_alloc w5 _) (below_alloc _ _))
  · have HG : Hid (decide (Good l) = false) := Lib.hid (decide_eq_false hg)
    have HE : Hid (moveE l ma mf mn mt tt = 11 ∧ moveL l ma mf mn mt tt = []) := Lib.hid (by unfold moveE moveL; rw [if_neg hg, if_neg hg]; exact ⟨rfl, rfl⟩)
    clear hg
    go_enter Tryd.func38, Tryd.ntmps38
    go_wp2_with (go_at_call 56; refine (good_is _ _ _ _ HG.out (by omega) _ HP.out).mono ?_; rintro e w1 ⟨rfl, hb1⟩; have HB1 := Lib.hid (bstep (below_alloc w _) hb1); clear hb1)
    go_ret2
    exact ⟨.slice none 0 0, by rw [HE.out.1]; rfl, by rw [HE.out.2]; exact Row.nil _ _, HB1.out⟩
end Go.Proofs.YthnkpoagpjnopaaDoor.ExtW

/- The table of inodes: Move. -/
namespace Go.Proofs.YthnkpoagpjnopaaDoor.InoP
set_option maxRecDepth 100000
set_option linter.constructorNameAsVariable false
open ExtW
/-- bytes of an address that lie elsewhere now -/
structure Mq where
  a : Int
  f : Int
  n : Int
  t : Int
/-- parts behind moves, and the first error -/
def mvsP : List Pt → List Mq → Int → List Pt × Int
  | p, [], _ => (p, 0)
  | p, m :: r, tt => if moveE p m.a m.f m.n m.t tt = 0 then mvsP (moveL p m.a m.f m.n m.t tt) r tt else (p, moveE p m.a m.f m.n m.t tt)
def tmovE (L : List Ino) (i : Int) (ms : List Mq) (tt : Int) : Int :=
  match find L i with
  | none => 60
  | some x => if x.k = 1 then 63 else spaceE (mvsP x.p ms tt).2
def tmovL (L : List Ino) (i : Int) (ms : List Mq) (tt : Int) : List Ino :=
  match find L i with
  | none => L
  | some x => if tmovE L i ms tt = 0 then upd L { x with p := (mvsP x.p ms tt).1 } else L
theorem tmov_pre (L : List Ino) (i : Int) (ms : List Mq) (tt : Int) : tmovE L i ms tt = if fileE L i = 0 then spaceE (match find L i with | some x => (mvsP x.p ms tt).2 | none => 0) else fileE L i := by
  unfold tmovE fileE
  cases find L i with
  | none => simp
  | some x => by_cases h : x.k = 1 <;> simp [h]
theorem tmov_no {L : List Ino} {i : Int} {ms : List Mq} {tt : Int} (h : tmovE L i ms tt ≠ 0) : tmovL L i ms tt = L := by
  unfold tmovL
  cases hf : find L i with
  | none => rfl
  | some x => exact if_neg h
theorem move_step {l : List Pt} {ma mf mn mt tt : Int} (hg : ExtW.Good l) (h : moveE l ma mf mn mt tt = 0) : May ma mf mn mt tt ∧ ExtW.Good (moveL l ma mf mn mt tt) ∧ endL (moveL l ma mf mn mt tt) = endL l ∧ ∀ i, ExtW.look (moveL l ma mf mn mt tt) i = movG (ExtW.look l) ma mf mn mt tt i := by
  unfold moveE at h
  rw [if_pos hg] at h
  by_cases hm : May ma mf mn mt tt
  · rw [if_pos hm] at h
    have h3 := mov_fine hg hm
    have h4 := mov_end hg ma mf mn mt tt
    have e : moveL l ma mf mn mt tt = fewL (movL l ma mf mn mt tt) := by
      unfold moveL
      rw [if_pos hg, if_pos hm]
    rw [e]
    generalize movL l ma mf mn mt tt = M at *
    unfold fewE at h
    have hl : ¬ M.length > 64 := by
      intro q; rw [if_pos q] at h; cases h
    have e2 : fewL M = M := by unfold fewL; rw [if_neg hl]
    rw [e2]
    exact ⟨hm, ⟨Nat.le_of_not_lt hl, h3.2.1⟩, h4, h3.2.2⟩
  · rw [if_neg hm] at h; cases h
theorem mvs_step {x : Ino} (hg : IGood x) {p : List Pt} (h1 : ExtW.Good p) (h2 : endL p = endL x.p) (hk : x.k ≠ 1) : IGood { x with p := p } :=
  ⟨hg.kind, hg.l, hg.o, hg.s, h1, by show endL p ≤ x.s; rw [h2]; exact hg.e, fun h => absurd h hk⟩
end Go.Proofs.YthnkpoagpjnopaaDoor.InoP
namespace Go.Proofs.YthnkpoagpjnopaaDoor.InoW
set_option maxRecDepth 100000
open Go.RowKit InoP ExtW
def encQ (x : Mq) : List Value := [.int .i64 x.a, .int .i64 x.f, .int .i64 x.n, .int .i64 x.t]
theorem q_at {B : Nat} {oa : Option Addr} {l : List Mq} {w : World} (h : KAt encQ 4 B oa l w) {i : Nat} {x : Mq} (hx : l[i]? = some x) :
    ∃ a, oa = some a ∧ a.block < B ∧ w.cell? (a.add (i * 4)) = some (.int .i64 x.a) ∧ w.cell? ⟨(a.add (i * 4)).block, (a.add (i * 4)).off + 1, none⟩ = some (.int .i64 x.f) ∧
      w.cell? ⟨(a.add (i * 4)).block, (a.add (i * 4)).off + 2, none⟩ = some (.int .i64 x.n) ∧ w.cell? ⟨(a.add (i * 4)).block, (a.add (i * 4)).off + 3, none⟩ = some (.int .i64 x.t) := by
  obtain ⟨a, h1, h2, h3⟩ := h i x hx
  exact ⟨a, h1, h2, h3 0 _ rfl, h3 1 _ rfl, h3 2 _ rfl, h3 3 _ rfl⟩
theorem box_setI {w : World} {xb : Nat} {yi yk yl yo ys : Int} {oa o6 : Option Addr} {n c m6 c6 : Nat} (h : IBox w xb ⟨yi, yk, yl, yo, ys, oa, n, c⟩) : IBox (w.setCell ⟨xb, 5, none⟩ (.slice o6 m6 c6)) xb ⟨yi, yk, yl, yo, ys, o6, m6, c6⟩ := by
  unfold IBox at h ⊢
  rw [Lib.heap_setCell_same h]
  rfl
variable {tb b : Nat} {L : List Ino} {next : Int}
set_option maxHeartbeats 6400000 in
theorem tmove_any (i tt : Int) (hi : iOk i) (ms : List Mq) (hms : ∀ m ∈ ms, -9223372036854775808 ≤ m.f ∧ m.f ≤ 9223372036854775807) (hlen : ms.length ≤ 1000000) (om : Option Addr) (cm : Nat) (w : World) (h : TIs w tb b L next) (hm : KAt encQ 4 w.heap.size om ms w) :
    Calls Tryd.prog 19 #[.pointer (some ⟨tb, 0, none⟩), .int .i64 i, .slice om ms.length cm, .int .i64 tt] w fun e w' => e = .returned (.int .i64 (tmovE L i ms tt)) ∧ TIs w' tb b (tmovL L i ms tt) next ∧ Only b w w' := by
  have H := Lib.hid h
  have HMS := Lib.hid hms
  have HMA := Lib.hid hm
  by_cases he : fileE L i = 0
  · obtain ⟨x, yi, yk, yl, yo, ys, oa, m, c, hf, hk, hg, hr, hfile⟩ := file_ok i he w h
    have HC := Lib.hid hfile
    have HR := Lib.hid hr
    obtain rfl : m = x.p.length := hr.n
    have HG := Lib.hid hg
    have HF := Lib.hid hf
    have HK : Hid (x.k ≠ 1) := Lib.hid hk
    have HTE : Hid (tmovE L i ms tt = spaceE (mvsP x.p ms tt).2) := Lib.hid (by rw [tmov_pre, if_pos he, hf])
    have HLT := Lib.hid h.lt
    clear h hf hk hg hr hfile he hi hms hm
    go_enter Tryd.func19, Tryd.ntmps19
    go_wp2_with (go_at_call 37; refine HC.out.mono ?_; rintro e w2 ⟨rfl, hb2⟩; have HB2 := Lib.hid hb2; clear hb2)
    have HB2X : Hid (Below w.heap.size w (w2.alloc (.cells #[.int .i64 yi, .int .i64 yk, .int .i64 yl, .int .i64 yo, .int .i64 ys, .slice oa x.p.length c] 86))) := Lib.hid (bstep HB2.out (below_alloc w2 _))
    have HIB : Hid (IBox (w2.alloc (.cells #[.int .i64 yi, .int .i64 yk, .int .i64 yl, .int .i64 yo, .int .i64 ys, .slice oa x.p.length c] 86)) w2.heap.size ⟨yi, yk, yl, yo, ys, oa, x.p.length, c⟩) := Lib.hid (heap_alloc_new w2 _)
    have HXS : Hid (w.heap.size ≤ w2.heap.size) := Lib.hid HB2.out.size
    generalize w2.alloc (.cells #[.int .i64 yi, .int .i64 yk, .int .i64 yl, .int .i64 yo, .int .i64 ys, .slice oa x.p.length c] 86) = w3 at *
    generalize w2.heap.size = xb at *
    go_loopw [24] (fun j wr => ∃ (k : Nat) (P : List Pt) (o5 : Option Addr) (c5 : Nat), k ≤ ms.length ∧ j = .int .i64 (k : Int) ∧ mvsP x.p ms tt = mvsP P (ms.drop k) tt ∧ ExtW.Good P ∧ endL P = endL x.p ∧ IBox wr xb ⟨yi, yk, yl, yo, ys, o5, P.length, c5⟩ ∧ IRel wr tb b { x with p := P } ⟨yi, yk, yl, yo, ys, o5, P.length, c5⟩ ∧ Below w.heap.size w wr) (fun j _ => ((ms.length : Int) - intOf j).toNat)
    case atStart => exact ⟨0, x.p, oa, c, by omega, rfl, by simp, HG.out.p, rfl, HIB.out, HR.out.grow HB2X.out, HB2X.out⟩
    case round =>
      obtain ⟨k, P, o5, c5, hk, rfl, hmv, hgp, hend, hib, hrel2, hbel⟩ := hrel
      have HMV := Lib.hid hmv
      have HGP := Lib.hid hgp
      have HEND := Lib.hid hend
      have HIBW := Lib.hid hib
      have HREL := Lib.hid hrel2
      have HBW := Lib.hid hbel
      have HPL : Hid (P.length ≤ 64) := Lib.hid hgp.1
      clear hmv hgp hend hib hrel2 hbel
      by_cases hlt : k < ms.length
      · have hlt1 : (k : Int) < (ms.length : Int) := by omega
        obtain ⟨q, hq⟩ : ∃ q, ms[k]? = some q := ⟨_, List.getElem?_eq_getElem hlt⟩
        obtain ⟨a, rfl, _, q0, q1, q2, q3⟩ := q_at (HMA.out.below HBW.out) hq
        have HQB := Lib.hid (HMS.out q (List.mem_of_getElem? hq))
        have HDR : Hid (ms.drop k = q :: ms.drop (k + 1)) := Lib.hid (by
          obtain ⟨hk', rfl⟩ := List.getElem?_eq_some_iff.1 hq
          exact List.drop_eq_getElem_cons hk')
        obtain ⟨qa, qf, qn, qt⟩ := q
        simp only at q0 q1 q2 q3 HQB
        have HBX := Lib.hid (below_alloc wr (.cells #[.int .i64 qa, .int .i64 qf, .int .i64 qn, .int .i64 qt] 69))
        have hib1 : IBox (wr.alloc (.cells #[.int .i64 qa, .int .i64 qf, .int .i64 qn, .int .i64 qt] 69)) xb ⟨yi, yk, yl, yo, ys, o5, P.length, c5⟩ := (HBX.out.block xb (lt_of_block HIBW.out)).trans HIBW.out
        have HIB1 := Lib.hid hib1
        obtain ⟨b0, b1, b2, b3, b4, b5⟩ := hib1.cells
        have HXL := Lib.hid (lt_of_block HIBW.out)
        have hwl := HBW.out.size
        obtain ⟨E, hE⟩ : ∃ E, moveE P qa qf qn qt tt = E := ⟨_, rfl⟩
        have HE := Lib.hid hE
        clear hq hib1 hE
        by_cases hE0 : E = 0
        · subst hE0
          obtain ⟨hs1, hs2, hs3, _⟩ := move_step HGP.out HE.out
          have HGP2 := Lib.hid hs2
          have HEND2 : Hid (endL (moveL P qa qf qn qt tt) = endL x.p) := Lib.hid (by rw [hs3]; exact HEND.out)
          have HMV2 : Hid (mvsP x.p ms tt = mvsP (moveL P qa qf qn qt tt) (ms.drop (k + 1)) tt) := Lib.hid (by rw [HMV.out, HDR.out, mvsP, if_pos HE.out])
          clear hs1 hs2 hs3
          go_wp2_with (go_at_call 38; go_loud (refine (move_any o5 c5 P qa qf qn qt tt HQB.out (by have := HPL.out; omega) _ ((HREL.out.grow HBX.out).pts)).mono ?_; rintro e w4 ⟨v4, rfl, hr4, hb4⟩; rw [HE.out]; have HR4 := Lib.hid hr4; have HB4 := Lib.hid (bstep HBX.out hb4); have HB04 := Lib.hid (bstep HBW.out (bstep HBX.out hb4)); obtain ⟨o6, c6, rfl, _⟩ := hr4.form; have hbx : IBox w4 xb ⟨yi, yk, yl, yo, ys, o5, P.length, c5⟩ := (hb4.block xb (lt_of_block HIB1.out)).trans HIB1.out; have HIB4 := Lib.hid hbx; clear b0 b1 b2 b3 b4 b5; obtain ⟨b0, b1, b2, b3, b4, b5⟩ := hbx.cells; have f5 := Lib.frozen_of_heap hbx 5; clear hb4 hr4 hbx))
          have hxw : w.heap.size ≤ xb := HXS.out
          exact ⟨⟨k + 1, moveL P qa qf qn qt tt, o6, c6, by omega, by simp, HMV2.out, HGP2.out, HEND2.out, box_setI HIB4.out,
            HREL.out.setP (x' := { x with p := moveL P qa qf qn qt tt }) HR4.out (by have := HLT.out; have := HBX.out.size; omega) (by have := HXL.out; have := HBX.out.size; omega) ((Only.refl xb w4).setCell 5 _) rfl HREL.out.s, HB04.out.setCell (p := ⟨xb, 5, none⟩) hxw _⟩, by simp [intOf]; omega⟩
        · have hE1 : (E == 0) = false := beq_eq_false_iff_ne.2 hE0
          have hE2 : (E != 0) = true := bne_iff_ne.2 hE0
          have HTV : Hid (tmovE L i ms tt = spaceE E) := Lib.hid (by rw [HTE.out, HMV.out, HDR.out, mvsP, if_neg (by rw [HE.out]; exact hE0), HE.out])
          have HTL : Hid (tmovL L i ms tt = L) := Lib.hid (tmov_no (by rw [HTV.out]; exact fun e => hE0 (space_ok.1 e)))
          clear hE0
          go_wp2_with (first
            | (go_at_call 39; go_loud (refine (space_any E _).mono ?_; rintro e w5 ⟨rfl, rfl⟩))
            | (go_at_call 38; go_loud (refine (move_any o5 c5 P qa qf qn qt tt HQB.out (by have := HPL.out; omega) _ ((HREL.out.grow HBX.out).pts)).mono ?_; rintro e w4 ⟨v4, rfl, hr4, hb4⟩; rw [HE.out]; have HB04 := Lib.hid (bstep HBW.out (bstep HBX.out hb4)); obtain ⟨o6, c6, rfl, _⟩ := hr4.form; have hbx : IBox w4 xb ⟨yi, yk, yl, yo, ys, o5, P.length, c5⟩ := (hb4.block xb (lt_of_block HIB1.out)).trans HIB1.out; clear b0 b1 b2 b3 b4 b5; obtain ⟨b0, b1, b2, b3, b4, b5⟩ := hbx.cells; have f5 := Lib.frozen_of_heap hbx 5; clear hb4 hr4 hbx)))
          try simp only [Exit.inBlock, Exit.then]
          go_ret
          have hxw : w.heap.size ≤ xb := HXS.out
          have hbb := HB04.out.setCell (p := ⟨xb, 5, none⟩) hxw (.slice o6 (moveL P qa qf qn qt tt).length c6)
          exact ⟨ret_int HTV.out.symm, by rw [HTL.out]; exact H.out.grow hbb, Only.of_below hbb⟩
      · obtain rfl : k = ms.length := by omega
        have HFIN : Hid (mvsP x.p ms tt = (P, 0)) := Lib.hid (by rw [HMV.out, List.drop_length, mvsP])
        have HTV : Hid (tmovE L i ms tt = 0) := Lib.hid (by rw [HTE.out, HFIN.out]; rfl)
        have HTL : Hid (tmovL L i ms tt = upd L { x with p := P }) := Lib.hid (by unfold tmovL; rw [HF.out]; simp only; rw [if_pos HTV.out, HFIN.out])
        have HX : Hid (IGood { x with p := P } ∧ find L ({ x with p := P } : Ino).i = some x) := Lib.hid ⟨mvs_step HG.out HGP.out HEND.out HK.out, by rw [← HF.out]; exact congrArg (find L) (find_mem HF.out).2⟩
        obtain ⟨b0, b1, b2, b3, b4, b5⟩ := HIBW.out.cells
        go_wp2_with (go_at_call 40; go_loud (refine (keep_is { x with p := P } x false yi yk yl yo ys o5 _ c5 HX.out.2 HX.out.1 _ (H.out.grow HBW.out) HREL.out).mono ?_; rintro e w5 ⟨rfl, h5, ho5⟩; have H5 := Lib.hid h5; have HO5 := Lib.hid ho5; clear h5 ho5))
        go_ret
        exact ⟨ret_int HTV.out.symm, by rw [HTL.out]; exact H5.out, (Only.of_below HBW.out).trans HO5.out⟩
  · have HC := Lib.hid (file_bad i _ hi rfl he w h)
    have HE : Hid (tmovE L i ms tt = fileE L i ∧ tmovL L i ms tt = L) := Lib.hid (by
      have e : tmovE L i ms tt = fileE L i := by rw [tmov_pre, if_neg he]
      exact ⟨e, tmov_no (by rw [e]; exact he)⟩)
    have he2 : (fileE L i == 0) = false := by rw [beq_eq_false_iff_ne]; exact he
    generalize fileE L i = fe at *
    clear h hi he hms hm
    go_enter Tryd.func19, Tryd.ntmps19
    go_wp2_with (go_at_call 37; refine HC.out.mono ?_; rintro e w2 ⟨rfl, hb2⟩; have HB2 := Lib.hid hb2; clear hb2)
    go_ret
    exact ⟨ret_int HE.out.1.symm, by rw [HE.out.2]; exact H.out.grow (bstep HB2.out (below_alloc _ _)), Only.of_below (bstep HB2.out (below_alloc _ _))⟩
end Go.Proofs.YthnkpoagpjnopaaDoor.InoW

/- MoveKeeps, plainly: what is wanted can be built. -/
namespace Go.Proofs.YthnkpoagpjnopaaDoor.MovP
set_option maxRecDepth 100000
open ExtW InoP OpP
theorem wantF_mem (b : Int) : ∀ {l : List Pt} {n : Int} {c : Nat} {x : Pt}, x ∈ wantF b l n c → x ∈ l ∧ x.a < b
  | [], _, _, _, h => by simp [wantF] at h
  | y :: l, n, c, x, h => by
    rw [wantF] at h
    by_cases hb : b ≤ y.a
    · rw [if_pos hb] at h
      have := wantF_mem b h
      exact ⟨by simp [this.1], this.2⟩
    · rw [if_neg hb] at h
      by_cases hn : 1024 < n + y.n ∨ c = 16
      · rw [if_pos hn] at h; simp at h
      · rw [if_neg hn] at h
        rcases List.mem_cons.1 h with rfl | h
        · exact ⟨by simp, by omega⟩
        · have := wantF_mem b h
          exact ⟨by simp [this.1], this.2⟩
theorem wantF_16 (b : Int) : ∀ {l : List Pt} {n : Int} {c : Nat}, c ≤ 16 → (wantF b l n c).length + c ≤ 16
  | [], _, _, h => by simpa [wantF] using h
  | y :: l, n, c, h => by
    rw [wantF]
    by_cases hb : b ≤ y.a
    · rw [if_pos hb]; exact wantF_16 b h
    · rw [if_neg hb]
      by_cases hn : 1024 < n + y.n ∨ c = 16
      · rw [if_pos hn]; simpa using h
      · rw [if_neg hn]
        have := wantF_16 b (l := l) (n := n + y.n) (c := c + 1) (by omega)
        simp only [List.length_cons]; omega
def sumP (l : List Pt) : Int := (l.map (·.n)).sum
theorem wantF_sum (b : Int) : ∀ {l : List Pt} {n : Int} {c : Nat}, n ≤ 1024 → sumP (wantF b l n c) + n ≤ 1024
  | [], n, _, h => by simpa [wantF, sumP] using h
  | y :: l, n, c, h => by
    rw [wantF]
    by_cases hb : b ≤ y.a
    · rw [if_pos hb]; exact wantF_sum b h
    · rw [if_neg hb]
      by_cases hn : 1024 < n + y.n ∨ c = 16
      · rw [if_pos hn]; simpa [sumP] using h
      · rw [if_neg hn]
        have := wantF_sum b (l := l) (n := n + y.n) (c := c + 1) (by omega)
        unfold sumP at *
        rw [List.map_cons, List.sum_cons]; omega
/-- the moves of parts lie one behind the other -/
theorem mvF_fits : ∀ (l : List Pt) (ms : List Mv) (t : Int), 0 ≤ t → (∀ x ∈ l, 1 ≤ x.n) → (∀ m ∈ ms, 0 ≤ m.t ∧ m.t + m.n ≤ t) →
    (l.foldl (fun (p : List Mv × Int) (x : Pt) => (p.1 ++ [⟨x.a, x.f, x.n, p.2⟩], p.2 + x.n)) (ms, t)).2 = t + sumP l ∧
    ∀ m ∈ (l.foldl (fun (p : List Mv × Int) (x : Pt) => (p.1 ++ [⟨x.a, x.f, x.n, p.2⟩], p.2 + x.n)) (ms, t)).1, 0 ≤ m.t ∧ m.t + m.n ≤ t + sumP l
  | [], ms, t, _, _, h => ⟨by simp [sumP], fun m hm => by simpa [sumP] using h m hm⟩
  | x :: l, ms, t, h0, h1, h => by
    have hx := h1 x (by simp)
    obtain ⟨e1, e2⟩ := mvF_fits l (ms ++ [⟨x.a, x.f, x.n, t⟩]) (t + x.n) (by omega) (fun y hy => h1 y (by simp [hy])) (fun m hm => by
      rcases List.mem_append.1 hm with hm | hm
      · have := h m hm; omega
      · rw [List.mem_singleton.1 hm]; show 0 ≤ t ∧ t + x.n ≤ t + x.n; omega)
    have hs : sumP (x :: l) = x.n + sumP l := by unfold sumP; rw [List.map_cons, List.sum_cons]
    rw [List.foldl_cons, hs]
    exact ⟨by rw [e1]; omega, fun m hm => by have := e2 m hm; omega⟩
theorem mvF_mem : ∀ (l : List Pt) (ms : List Mv) (t : Int), ∀ m ∈ (l.foldl (fun (p : List Mv × Int) (x : Pt) => (p.1 ++ [⟨x.a, x.f, x.n, p.2⟩], p.2 + x.n)) (ms, t)).1, m ∈ ms ∨ ∃ x ∈ l, m.a = x.a ∧ m.f = x.f ∧ m.n = x.n
  | [], ms, t, m, hm => .inl hm
  | x :: l, ms, t, m, hm => by
    rw [List.foldl_cons] at hm
    rcases mvF_mem l _ _ m hm with h | ⟨y, hy, h⟩
    · rcases List.mem_append.1 h with h | h
      · exact .inl h
      · rw [List.mem_singleton.1 h]; exact .inr ⟨x, by simp, rfl, rfl, rfl⟩
    · exact .inr ⟨y, by simp [hy], h⟩
theorem mvF_all {l : List Pt} (h : ∀ x ∈ l, One x) : (mvF l).2 = sumP l ∧ ∀ m ∈ (mvF l).1, (0 ≤ m.t ∧ m.t + m.n ≤ sumP l) ∧ ∃ x ∈ l, m.a = x.a ∧ m.f = x.f ∧ m.n = x.n := by
  obtain ⟨e1, e2⟩ := mvF_fits l [] 0 (by omega) (fun x hx => (h x hx).small.2.1) (by simp)
  refine ⟨by unfold mvF; rw [e1]; omega, fun m hm => ⟨by have := e2 m hm; omega, ?_⟩⟩
  rcases mvF_mem l [] 0 m hm with hm | hm
  · simp at hm
  · exact hm
theorem want_fits {D : List Tx} {b : Int} (hD : ∀ a, 0 ≤ a → a < b → ∃ s, txt D a = some s ∧ s.size = 1024) {x : Pt} (hx : One x) (ha : x.a < b) : missB D x = false ∧ badB x = false := by
  have hs := hx.small
  obtain ⟨s, h1, h2⟩ := hD x.a (by omega) ha
  refine ⟨?_, decide_eq_false (by omega)⟩
  unfold missB
  rw [h1]
  simp only
  unfold shortB
  rw [if_pos (by omega)]
  exact decide_eq_false (by omega)
theorem only_13 (c q i : Int) (d : ByteArray) (m : List Mv) : only ⟨c, q, 13, ⟨#[]⟩, ⟨#[]⟩, 0, 0, 0, d, 0, i, m⟩ = ⟨c, q, 13, ⟨#[]⟩, ⟨#[]⟩, 0, 0, 0, d, 0, i, m⟩ := by
  unfold only
  have h1 : hasP 13 = false := by decide
  have h2 : hasT 13 = false := by decide
  have h3 : hasS 13 = false := by decide
  have h4 : hasH 13 = false := by decide
  have h5 : hasO 13 = false := by decide
  have h6 : hasD 13 = true := by decide
  have h7 : hasK 13 = false := by decide
  have h8 : hasM 13 = true := by decide
  simp only [h1, h2, h3, h4, h5, h6, h7, h8, Bool.false_eq_true, if_false, if_true]
theorem form_13 (c q i : Int) (d : ByteArray) (m : List Mv) : formB ⟨c, q, 13, ⟨#[]⟩, ⟨#[]⟩, 0, 0, 0, d, 0, i, m⟩ = (decide (1 ≤ i ∧ i ≤ 2147483647 ∧ 1 ≤ m.length ∧ m.length ≤ 16 ∧ d.size ≤ 1024) && m.all (mvB d.size)) := by
  unfold formB
  have h1 : hasP 13 = false := by decide
  simp only [h1, Bool.false_eq_true, if_false]
  simp
theorem build_wanted {D : List Tx} {b : Int} (hD : ∀ a, 0 ≤ a → a < b → ∃ s, txt D a = some s ∧ s.size = 1024) {p : List Pt} (hp : ∀ x ∈ p, One x) {q i : Int} (hq : 1 ≤ q ∧ q ≤ 2147483647) (hi : 1 ≤ i ∧ i ≤ 2147483647) (hne : wantF b p 0 0 ≠ []) :
    MovW.buildR 1 q i D (wantF b p 0 0) = (recR 1 q i D (wantF b p 0 0), 0) := by
  have hl1 := wantF_16 b (l := p) (n := 0) (c := 0) (by omega)
  have hl2 := wantF_sum b (l := p) (n := 0) (c := 0) (by omega)
  have hl3 : 0 < (wantF b p 0 0).length := List.length_pos_iff.2 hne
  have hm : ∀ x ∈ wantF b p 0 0, One x ∧ x.a < b := fun x hx => ⟨hp x (wantF_mem b hx).1, (wantF_mem b hx).2⟩
  generalize wantF b p 0 0 = l at *
  have hf : ∀ x ∈ l, missB D x = false ∧ badB x = false := fun x hx => want_fits hD (hm x hx).1 (hm x hx).2
  rw [MovW.build_end 1 q i hne (fun x hx => (hf x hx).1) (fun x hx => (hf x hx).2)]
  have hds := dat_at hf
  obtain ⟨e1, e2⟩ := mvF_all fun x hx => (hm x hx).1
  have hg : goodB (recR 1 q i D l) = true := by
    unfold goodB
    have h1 : headB (recR 1 q i D l) = true := decide_eq_true (by show 0 ≤ (1 : Int) ∧ (1 : Int) ≤ 7 ∧ 1 ≤ q ∧ q ≤ 2147483647; omega)
    have h2 : formB (recR 1 q i D l) = true := by
      unfold recR
      rw [form_13, Bool.and_eq_true]
      refine ⟨decide_eq_true ⟨by omega, by omega, by rw [mvF_len]; omega, by rw [mvF_len]; omega, by omega⟩, List.all_eq_true.2 fun m hmm => ?_⟩
      obtain ⟨⟨h1, h2⟩, x, hx, h3, h4, h5⟩ := e2 m hmm
      have hs := (hm x hx).1.small
      exact decide_eq_true (by omega)
    have h3 : sameB (recR 1 q i D l) (only (recR 1 q i D l)) = true := by
      rw [sameB_iff]
      unfold recR
      rw [only_13]
    rw [h1, h2, h3]; rfl
  rw [hg]; rfl
end Go.Proofs.YthnkpoagpjnopaaDoor.MovP

/- MoveKeeps, plainly: what moves make of each byte. -/
namespace Go.Proofs.YthnkpoagpjnopaaDoor.MovP
set_option maxRecDepth 100000
set_option linter.constructorNameAsVariable false
open ExtW InoP OpP
def inM (m : Mq) (y : Int × Int) : Prop := y.1 = m.a ∧ m.f ≤ y.2 ∧ y.2 < m.f + m.n
instance (m : Mq) (y : Int × Int) : Decidable (inM m y) := by unfold inM; infer_instance
/-- all moves, one behind the other -/
def movAll (g : Int → Option (Int × Int)) : List Mq → Int → Int → Option (Int × Int)
  | [], _ => g
  | m :: r, tt => movAll (movG g m.a m.f m.n m.t tt) r tt
theorem mvs_look : ∀ {p : List Pt} {ms : List Mq} {tt : Int} {P : List Pt}, ExtW.Good p → mvsP p ms tt = (P, 0) → ExtW.Good P ∧ ∀ i, ExtW.look P i = movAll (ExtW.look p) ms tt i
  | p, [], tt, P, hg, h => by
    rw [mvsP] at h
    injection h with h
    subst h
    exact ⟨hg, fun i => rfl⟩
  | p, m :: r, tt, P, hg, h => by
    rw [mvsP] at h
    by_cases hm : moveE p m.a m.f m.n m.t tt = 0
    · rw [if_pos hm] at h
      obtain ⟨_, h2, _, h4⟩ := move_step hg hm
      obtain ⟨k1, k2⟩ := mvs_look h2 h
      have e : ExtW.look (moveL p m.a m.f m.n m.t tt) = movG (ExtW.look p) m.a m.f m.n m.t tt := funext h4
      refine ⟨k1, fun i => ?_⟩
      rw [k2 i, e, movAll]
    · rw [if_neg hm] at h
      injection h with _ h
      exact absurd h hm
theorem movG_at (g : Int → Option (Int × Int)) (m : Mq) (tt i : Int) : movG g m.a m.f m.n m.t tt i = match g i with | some y => if inM m y then some (tt, y.2 - m.f + m.t) else some y | none => none := by
  unfold movG inM
  cases g i with
  | none => rfl
  | some y => rfl
theorem movAll_none : ∀ (ms : List Mq) (g : Int → Option (Int × Int)) (tt i : Int), g i = none → movAll g ms tt i = none
  | [], _, _, _, h => h
  | m :: r, g, tt, i, h => by
    rw [movAll]
    exact movAll_none r _ tt i (by rw [movG_at, h])
theorem movAll_out : ∀ (ms : List Mq) (g : Int → Option (Int × Int)) (tt i : Int) (y : Int × Int), g i = some y → (∀ m ∈ ms, ¬ inM m y) → movAll g ms tt i = some y
  | [], _, _, _, _, h, _ => h
  | m :: r, g, tt, i, y, h, k => by
    rw [movAll]
    refine movAll_out r _ tt i y ?_ fun q hq => k q (by simp [hq])
    rw [movG_at, h]
    exact if_neg (k m (by simp))
theorem movAll_in : ∀ (ms : List Mq) (g : Int → Option (Int × Int)) (tt i : Int) (y : Int × Int), (∀ m ∈ ms, m.a ≠ tt) → g i = some y → (∃ m ∈ ms, inM m y) → ∃ m ∈ ms, inM m y ∧ movAll g ms tt i = some (tt, y.2 - m.f + m.t)
  | [], _, _, _, _, _, _, h => by obtain ⟨m, hm, _⟩ := h; simp at hm
  | m :: r, g, tt, i, y, ha, h, k => by
    rw [movAll]
    by_cases hm : inM m y
    · refine ⟨m, by simp, hm, ?_⟩
      refine movAll_out r _ tt i _ ?_ fun q hq hin => ha q (by simp [hq]) hin.1.symm
      rw [movG_at, h]
      exact if_pos hm
    · obtain ⟨q, hq, hin⟩ := k
      have hq' : q ∈ r := by
        rcases List.mem_cons.1 hq with rfl | hq
        · exact absurd hin hm
        · exact hq
      obtain ⟨z, hz, h1, h2⟩ := movAll_in r (movG g m.a m.f m.n m.t tt) tt i y (fun z hz => ha z (by simp [hz])) (by rw [movG_at, h]; exact if_neg hm) ⟨q, hq', hin⟩
      exact ⟨z, by simp [hz], h1, h2⟩
/-- nothing points to what was taken any more -/
theorem movAll_free {ms : List Mq} {g : Int → Option (Int × Int)} {tt i : Int} {y : Int × Int} (ha : ∀ m ∈ ms, m.a ≠ tt) (h : movAll g ms tt i = some y) : ∀ m ∈ ms, ¬ inM m y := by
  intro m hm hin
  cases hg : g i with
  | none => rw [movAll_none ms g tt i hg] at h; cases h
  | some z =>
    by_cases k : ∃ m ∈ ms, inM m z
    · obtain ⟨q, _, _, h2⟩ := movAll_in ms g tt i z ha hg k
      rw [h2] at h
      injection h with h
      rw [← h] at hin
      exact ha m hm hin.1.symm
    · have h2 := movAll_out ms g tt i z hg fun q hq hz => k ⟨q, hq, hz⟩
      rw [h2] at h
      injection h with h
      rw [← h] at hin
      exact k ⟨m, hm, hin⟩
end Go.Proofs.YthnkpoagpjnopaaDoor.MovP

/- MoveKeeps, plainly: each byte is read as it was. -/
namespace Go.Proofs.YthnkpoagpjnopaaDoor.MovP
set_option maxRecDepth 100000
set_option linter.constructorNameAsVariable false
open ExtW InoP OpP
/-- the move's bytes stand in the data as they stand in the text -/
def Lies (D : List Tx) (b : ByteArray) (m : Mv) : Prop := 0 ≤ m.t ∧ m.t + m.n ≤ (b.size : Int) ∧ ∀ k : Nat, (k : Int) < m.n → b.data[m.t.toNat + k]? = ((txt D m.a).getD ⟨#[]⟩).data[m.f.toNat + k]?
theorem Lies.more {D : List Tx} {b : ByteArray} {m : Mv} (h : Lies D b m) (c : ByteArray) : Lies D (b ++ c) m := by
  obtain ⟨h1, h2, h3⟩ := h
  refine ⟨h1, by rw [ByteArray.size_append]; omega, fun k hk => ?_⟩
  rw [← h3 k hk, ByteArray.data_append, Array.getElem?_append_left (by show _ < b.size; omega)]
theorem Lies.last {D : List Tx} {b : ByteArray} {x : Pt} (h1 : missB D x = false) (h2 : badB x = false) : Lies D (b ++ piece D x) ⟨x.a, x.f, x.n, (b.size : Int)⟩ := by
  have hz := piece_size h1 h2
  obtain ⟨s, hs, h3, h4, h5⟩ := fits h1 h2
  refine ⟨by show 0 ≤ (b.size : Int); omega, by rw [ByteArray.size_append]; show (b.size : Int) + x.n ≤ _; omega, fun k hk => ?_⟩
  simp only at hk
  show (b ++ piece D x).data[(b.size : Int).toNat + k]? = ((txt D x.a).getD ⟨#[]⟩).data[x.f.toNat + k]?
  rw [ByteArray.data_append, Int.toNat_natCast, Array.getElem?_append_right (by show b.size ≤ _; omega)]
  have e : b.size + k - b.data.size = k := by show b.size + k - b.size = k; omega
  rw [e]
  unfold piece
  rw [hs, Option.getD_some, ByteArray.data_extract, Array.getElem?_extract, if_pos (by show k < min _ s.size - _; omega)]
theorem lies_all {D : List Tx} : ∀ (l : List Pt) (b : ByteArray) (ms : List Mv) (t : Int), (b.size : Int) = t → (∀ x ∈ l, missB D x = false ∧ badB x = false) → (∀ m ∈ ms, Lies D b m) →
    ∀ m ∈ (l.foldl (fun (p : List Mv × Int) (x : Pt) => (p.1 ++ [⟨x.a, x.f, x.n, p.2⟩], p.2 + x.n)) (ms, t)).1, Lies D (l.foldl (fun b x => b ++ piece D x) b) m
  | [], _, _, _, _, _, h => h
  | x :: l, b, ms, t, ht, hl, h => by
    have hx := hl x (by simp)
    have hz := piece_size hx.1 hx.2
    rw [List.foldl_cons, List.foldl_cons]
    refine lies_all l (b ++ piece D x) _ (t + x.n) (by rw [ByteArray.size_append]; omega) (fun y hy => hl y (by simp [hy])) fun m hm => ?_
    rcases List.mem_append.1 hm with hm | hm
    · exact (h m hm).more _
    · rw [List.mem_singleton.1 hm, ← ht]
      exact Lies.last hx.1 hx.2
theorem lies_mv {D : List Tx} {l : List Pt} (h : ∀ x ∈ l, missB D x = false ∧ badB x = false) : ∀ m ∈ (mvF l).1, Lies D (datF D l) m :=
  lies_all l ⟨#[]⟩ [] 0 rfl h (by simp)
def toQ (m : Mv) : Mq := ⟨m.a, m.f, m.n, m.t⟩
/-- the byte that stands somewhere -/
def byteA (D : List Tx) (y : Option (Int × Int)) : Int := match y with | some (a, f) => ((((txt D a).getD ⟨#[]⟩).data[f.toNat]?).map fun b => (b.toNat : Int)).getD 0 | none => 0
theorem keep_bytes {D : List Tx} {p P : List Pt} {b tt : Int} {z : ByteArray} (hD : ∀ a, 0 ≤ a → a < b → ∃ s, txt D a = some s ∧ s.size = 1024) (hg : ExtW.Good p) (hpa : ∀ x ∈ p, x.a < tt) (hb : b ≤ tt)
    (hm : mvsP p ((mvF (wantF b p 0 0)).1.map toQ) tt = (P, 0)) (i : Int) : byteA (D ++ [⟨tt, datF D (wantF b p 0 0) ++ z⟩]) (ExtW.look P i) = byteA D (ExtW.look p i) := by
  have hones := chain_ones hg.2
  have hw : ∀ x ∈ wantF b p 0 0, One x ∧ x.a < b := fun x hx => ⟨hones x (wantF_mem b hx).1, (wantF_mem b hx).2⟩
  have hf : ∀ x ∈ wantF b p 0 0, missB D x = false ∧ badB x = false := fun x hx => want_fits hD (hw x hx).1 (hw x hx).2
  have hlies := lies_mv hf
  obtain ⟨_, e2⟩ := mvF_all fun x hx => (hw x hx).1
  obtain ⟨_, hlook⟩ := mvs_look hg hm
  generalize wantF b p 0 0 = l at *
  have hne : ∀ m ∈ (mvF l).1.map toQ, m.a ≠ tt := fun m hm => by
    obtain ⟨q, hq, rfl⟩ := List.mem_map.1 hm
    obtain ⟨_, x, hx, h3, _, _⟩ := e2 q hq
    show q.a ≠ tt
    have := (hw x hx).2
    omega
  rw [hlook i]
  cases hi : ExtW.look p i with
  | none => rw [movAll_none _ _ tt i hi]; rfl
  | some y =>
    obtain ⟨a, f⟩ := y
    obtain ⟨x, hx, h1, h2, h3, h4⟩ := look_some hi
    have hat : a < tt := by rw [h3]; exact hpa x hx
    have hxs := (hones x hx).small
    by_cases k : ∃ m ∈ (mvF l).1.map toQ, inM m (a, f)
    · obtain ⟨m, hm2, hin, he⟩ := movAll_in _ _ tt i _ hne hi k
      rw [he]
      obtain ⟨q, hq, rfl⟩ := List.mem_map.1 hm2
      obtain ⟨g1, g2, g3⟩ := hin
      obtain ⟨l1, l2, l3⟩ := hlies q hq
      obtain ⟨_, w, hwl, w1, w2, w3⟩ := e2 q hq
      have hws := (hw w hwl).1.small
      simp only [toQ] at g1 g2 g3
      have hk := l3 (f - q.f).toNat (by omega)
      have i1 : q.t.toNat + (f - q.f).toNat = (f - q.f + q.t).toNat := by omega
      have i2 : q.f.toNat + (f - q.f).toNat = f.toNat := by omega
      rw [i1, i2] at hk
      unfold byteA
      simp only [toQ]
      rw [txt_snoc, if_pos rfl, Option.getD_some, g1, ← hk, ByteArray.data_append, Array.getElem?_append_left (by show _ < (datF D l).size; omega)]
    · rw [movAll_out _ _ tt i _ hi (fun m hm hin => k ⟨m, hm, hin⟩)]
      unfold byteA
      simp only
      rw [txt_snoc, if_neg (by show ¬ tt = a; omega)]
end Go.Proofs.YthnkpoagpjnopaaDoor.MovP

/- MoveKeeps, plainly: no part points to what was taken. -/
namespace Go.Proofs.YthnkpoagpjnopaaDoor.ExtW
theorem look_at_part : ∀ {lo : Int} {l : List Pt} {hi : Int}, Sorted lo l hi → ∀ {k : Nat} {x : Pt}, l[k]? = some x → lo ≤ x.o ∧ ∀ i, x.o ≤ i → i < x.o + x.n → look l i = some (x.a, x.f + (i - x.o))
  | _, [], _, _, k, x, hx => by simp at hx
  | lo, y :: l, hi, h, 0, x, hx => by
    obtain rfl : y = x := by simpa using hx
    exact ⟨h.1, fun i a b => by rw [look, if_pos ⟨a, b⟩]⟩
  | lo, y :: l, hi, h, k + 1, x, hx => by
    obtain ⟨h1, h2⟩ := look_at_part h.2.2 (k := k) (x := x) (by simpa using hx)
    have h3 := h.1
    have h4 := h.2.1
    exact ⟨by omega, fun i a b => by rw [look, if_neg (by omega)]; exact h2 i a b⟩
end Go.Proofs.YthnkpoagpjnopaaDoor.ExtW
namespace Go.Proofs.YthnkpoagpjnopaaDoor.MovP
set_option maxRecDepth 100000
open ExtW InoP OpP
theorem mvF_has : ∀ (l : List Pt) (ms : List Mv) (t : Int), (∀ m ∈ ms, m ∈ (l.foldl (fun (p : List Mv × Int) (x : Pt) => (p.1 ++ [⟨x.a, x.f, x.n, p.2⟩], p.2 + x.n)) (ms, t)).1) ∧
    ∀ x ∈ l, ∃ m ∈ (l.foldl (fun (p : List Mv × Int) (x : Pt) => (p.1 ++ [⟨x.a, x.f, x.n, p.2⟩], p.2 + x.n)) (ms, t)).1, m.a = x.a ∧ m.f = x.f ∧ m.n = x.n
  | [], ms, t => ⟨fun m hm => hm, fun x hx => by simp at hx⟩
  | x :: l, ms, t => by
    obtain ⟨h1, h2⟩ := mvF_has l (ms ++ [⟨x.a, x.f, x.n, t⟩]) (t + x.n)
    rw [List.foldl_cons]
    refine ⟨fun m hm => h1 m (by simp [hm]), fun y hy => ?_⟩
    rcases List.mem_cons.1 hy with rfl | hy
    · exact ⟨⟨y.a, y.f, y.n, t⟩, h1 _ (by simp), rfl, rfl, rfl⟩
    · exact h2 y hy
theorem keep_free {p P : List Pt} {b tt : Int} (hg : ExtW.Good p) (hb : b ≤ tt) (hm : mvsP p ((mvF (wantF b p 0 0)).1.map toQ) tt = (P, 0)) {k : Nat} {n : Pt} (hn : P[k]? = some n) {w : Pt} (hw : w ∈ wantF b p 0 0)
    (ha : n.a = w.a) (h1 : n.f < w.f + w.n) (h2 : w.f < n.f + n.n) : False := by
  have hones := chain_ones hg.2
  have hwb : ∀ x ∈ wantF b p 0 0, One x ∧ x.a < b := fun x hx => ⟨hones x (wantF_mem b hx).1, (wantF_mem b hx).2⟩
  obtain ⟨_, e2⟩ := mvF_all fun x hx => (hwb x hx).1
  obtain ⟨hgP, hlook⟩ := mvs_look hg hm
  have hne : ∀ m ∈ (mvF (wantF b p 0 0)).1.map toQ, m.a ≠ tt := fun m hm => by
    obtain ⟨q, hq, rfl⟩ := List.mem_map.1 hm
    obtain ⟨_, x, hx, h3, _, _⟩ := e2 q hq
    show q.a ≠ tt
    have := (hwb x hx).2
    omega
  obtain ⟨q, hq, g1, g2, g3⟩ := (mvF_has (wantF b p 0 0) [] 0).2 w hw
  have hns := (chain_ones hgP.2 n (List.mem_of_getElem? hn)).small
  have hws := (hwb w hw).1.small
  have hl := (look_at_part (good_sorted hgP) hn).2 (n.o + (max n.f w.f - n.f)) (by omega) (by omega)
  rw [hlook] at hl
  refine movAll_free hne hl (toQ q) (List.mem_map.2 ⟨q, hq, rfl⟩) ⟨?_, ?_, ?_⟩
  · show n.a = q.a; omega
  · show q.f ≤ n.f + (n.o + (max n.f w.f - n.f) - n.o); omega
  · show n.f + (n.o + (max n.f w.f - n.f) - n.o) < q.f + q.n; omega
end Go.Proofs.YthnkpoagpjnopaaDoor.MovP

/- Rows of bytes of the call's own: what a string turned into bytes, and bytes turned into a string, are. -/
namespace Go.Proofs.YthnkpoagpjnopaaDoor
open Go.RowKit
/-- block g holds, from its beginning on, n bytes that may be written -/
def BytesAt (w : World) (g n : Nat) (f : Nat → UInt8) : Prop :=
  ∀ j, j < n → w.cell? ⟨g, j, none⟩ = some (.int .u8 ((f j).toNat : Int)) ∧ w.frozen? ⟨g, j, none⟩ = false
theorem BytesAt.congr {w : World} {g n : Nat} {f f' : Nat → UInt8} (h : BytesAt w g n f) (e : ∀ j, j < n → f j = f' j) : BytesAt w g n f' := by
  intro j hj; rw [← e j hj]; exact h j hj
theorem BytesAt.below {w w' : World} {g n B : Nat} {f : Nat → UInt8} (h : BytesAt w g n f) (hb : Below B w w') (hg : g < B) : BytesAt w' g n f := by
  intro j hj
  rw [hb.cell (p := ⟨g, j, none⟩) hg, hb.frozen (p := ⟨g, j, none⟩) hg]
  exact h j hj
theorem BytesAt.drewN {w : World} {g n : Nat} {f : Nat → UInt8} (h : BytesAt w g n f) (k : Nat) : BytesAt (w.drewN k) g n f := h
theorem BytesAt.drew {w : World} {g n : Nat} {f : Nat → UInt8} (h : BytesAt w g n f) : BytesAt w.drew g n f := h
theorem BytesAt.set {w : World} {g n : Nat} {f : Nat → UInt8} (h : BytesAt w g n f) (i : Nat) (hi : i < n) (v : UInt8) :
    BytesAt (w.setCell ⟨g, i, none⟩ (.int .u8 (v.toNat : Int))) g n (fun j => if j = i then v else f j) := by
  intro j hj
  refine ⟨?_, ?_⟩
  · by_cases e : j = i
    · subst e
      rw [World.cell?_setCell_same _ _ _ (h j hj).1]; simp
    · rw [World.cell?_setCell_other _ _ _ _ (fun he => e (by injection he with _ h2; exact h2.symm))]
      simp only [if_neg e]; exact (h j hj).1
  · rw [World.frozen?_setCell]; exact (h j hj).2
theorem BytesAt.other {w : World} {g n : Nat} {f : Nat → UInt8} (h : BytesAt w g n f) {a : Addr} (ha : g ≠ a.block) (v : Value) : BytesAt (w.setCell a v) g n f := by
  intro j hj
  rw [World.cell?_setCell_other _ _ _ _ (fun he => ha (by rw [he])), World.frozen?_setCell]; exact h j hj

theorem conv_to_bytes {P : Program} (w : World) (src dst e : TypeId) (s : ByteArray) (hs : P.underlying src = some .string) (hd : P.underlying dst = some (.slice e)) (he : P.underlying e = some (.int .u8)) :
    ∃ cap w1, (convert src dst (.string s)).run P w = .ok (.slice (some ⟨w.heap.size, 0, none⟩) s.size cap) w1 ∧ BytesAt w1 w.heap.size s.size (fun j => s.data.toList.getD j 0) ∧ Below w.heap.size w w1 ∧ w.heap.size < w1.heap.size ∧ s.size ≤ cap := by
  refine ⟨_, _, run_bytes_of_string w src dst e s hs hd he, ?_, ?_, ?_, grownCap_ge _ _ _ _⟩
  · intro j hj
    refine ⟨?_, ?_⟩
    · have h := World.cell?_alloc_mark w.drew (bytesRow s (grownCap w s.size 0 e)) e ((bytesRow s (grownCap w s.size 0 e)).size, (bytesRow s (grownCap w s.size 0 e)).size + 1) j
      rw [show w.drew.heap.size = w.heap.size from rfl] at h
      rw [h, bytesRow_at _ _ _ hj]
      simp [List.getD, hj]
    · have h := World.frozen?_alloc_mark w.drew (bytesRow s (grownCap w s.size 0 e)) e (bytesRow s (grownCap w s.size 0 e)).size ((bytesRow s (grownCap w s.size 0 e)).size + 1) j
      rw [show w.drew.heap.size = w.heap.size from rfl] at h
      rw [h]
      have : s.size ≤ (bytesRow s (grownCap w s.size 0 e)).size := by simp [bytesRow]
      simp; omega
  · exact (Below.refl _ _).drew.alloc (Nat.le_refl _) _
  · simp
theorem BytesAt.of_row {w : World} {g n : Nat} {t : TypeId} {f : Nat → UInt8} (h : w.rowIs g t n (fun j => .int .u8 ((f j).toNat : Int))) : BytesAt w g n f :=
  fun j hj => ⟨h.cell hj, h.frozen j⟩
theorem make_bytes {P : Program} (w : World) (t e : TypeId) (ht : P.underlying t = some (.slice e)) (hinfo : (P.info? e).map (fun i => (i.zero, i.size, i.bytes)) = some (some (.int .u8 0), 1, 1)) (n : Nat) (hn : n ≤ 281474976710656) :
    ∃ w1, (Instr.makeSlice t (.int .i64 (n : Int)) (.int .i64 (n : Int))).run P w = .ok (.slice (some ⟨w.heap.size, 0, none⟩) n n) w1 ∧ BytesAt w1 w.heap.size n (fun _ => 0) ∧ Below w.heap.size w w1 ∧ w.heap.size < w1.heap.size := by
  refine ⟨_, run_make_row' t e _ 1 ht hinfo rfl .i64 .i64 n (by omega) (by omega) w, ?_, (Below.refl _ _).alloc (Nat.le_refl _) _, by simp⟩
  exact BytesAt.of_row (t := e) (World.rowIs_made w _ n e)
/-- the string of n bytes -/
def bytesStr (n : Nat) (f : Nat → UInt8) : ByteArray := ⟨((List.range n).map f).toArray⟩
theorem bytesStr_size (n : Nat) (f : Nat → UInt8) : (bytesStr n f).size = n := by simp [bytesStr, ByteArray.size]
theorem bytesStr_data (n : Nat) (f : Nat → UInt8) : (bytesStr n f).data.toList = (List.range n).map f := rfl
theorem conv_of_bytes {P : Program} (w : World) (src dst e : TypeId) (g n cap : Nat) (f : Nat → UInt8) (hs : P.underlying src = some (.slice e)) (he : P.underlying e = some (.int .u8)) (hd : P.underlying dst = some .string)
    (h : BytesAt w g n f) : (convert src dst (.slice (some ⟨g, 0, none⟩) n cap)).run P w = .ok (.string (bytesStr n f)) w := by
  have := run_convert_bytes_back (P := P) w src dst e ⟨g, 0, none⟩ cap ((List.range n).map f) hs he hd (fun j hj => by
    simp at hj
    have := (h j hj).1
    rw [show (⟨g, 0, none⟩ : Addr).add j = ⟨g, j, none⟩ by unfold Addr.add; split <;> simp_all]
    simpa using this)
  rw [List.length_map, List.length_range] at this
  exact this
end Go.Proofs.YthnkpoagpjnopaaDoor

/- escheatlaw28.at: the byte of a file that stands somewhere. -/
namespace Go.Proofs.YthnkpoagpjnopaaDoor.MovW
set_option maxRecDepth 100000
open Go.RowKit MovP InoP InoW ExtW
theorem look_take_none {l : List Pt} {i : Int} {k : Nat} (h : ExtW.look (l.take k) i = none) : ExtW.look l i = ExtW.look (l.drop k) i := by
  conv => lhs; rw [← List.take_append_drop k l]
  rw [look_append, h]; rfl
/-- texts of a page each, where the parts' bytes lie -/
def Pages (D : List Tx) (l : List Pt) : Prop := ∀ x ∈ l, One x ∧ ∃ s, txt D x.a = some s ∧ s.size = 1024
set_option maxHeartbeats 3200000 in
theorem at_any (oa : Option Addr) (n cap : Nat) (l : List Pt) (D : List Tx) (i : Int) (hn : n = l.length) (hi : 0 ≤ i ∧ i ≤ 100000) (ho : Pages D l) (hl : l.length ≤ 1000000) (b nb : Nat) (w : World) (h : PtsAt w.heap.size oa l w) (hm : TxIs w b nb (txt D)) :
    Calls Tryd.prog 20 #[.slice oa n cap, .map (some b), .int .i64 i] w fun e w' => e = .returned (.int .u8 (byteA D (ExtW.look l i))) ∧ Below w.heap.size w w' := by
  subst hn
  have HP := Lib.hid h
  have HO := Lib.hid ho
  have HM := Lib.hid hm
  clear h ho hm
  go_enter Tryd.func20, Tryd.ntmps20
  go_wp2_with fail
  go_loopw [7] (fun j wr => ∃ k : Nat, k ≤ l.length ∧ j = .int .i64 (k : Int) ∧ ExtW.look (l.take k) i = none ∧ Below w.heap.size w wr) (fun j _ => ((l.length : Int) - intOf j).toNat)
  case atStart => exact ⟨0, by omega, rfl, rfl, Below.refl _ _⟩
  case round =>
    obtain ⟨k, hk, rfl, hnone, hbel⟩ := hrel
    have HB := Lib.hid hbel
    have HNO := Lib.hid hnone
    clear hbel hnone
    by_cases hlt : k < l.length
    · obtain ⟨x, hx⟩ : ∃ x, l[k]? = some x := ⟨_, List.getElem?_eq_getElem hlt⟩
      obtain ⟨a, rfl, hab, c0, c1, c2, c3⟩ := (HP.out.below HB.out) k x hx
      have hk0 : (0 : Int) ≤ (k : Int) := by omega
      have hkl : (k : Int) < (l.length : Int) := by omega
      obtain ⟨ho1, s, hs1, hs2⟩ := HO.out x (List.mem_of_getElem? hx)
      have hxs := ho1.small
      have HOK : Hid (aOk x.a) := Lib.hid (by unfold aOk; simp [Lit.wf, IntKind.min, IntKind.max, IntKind.signed, IntKind.bits]; omega)
      have HS := Lib.hid hs1
      have HZ := Lib.hid hs2
      have hw1 : IntKind.i64.wrap (x.o + x.n) = x.o + x.n := IntWalk.i64_in _ (by omega)
      have hw2 : IntKind.i64.wrap (x.f + i) = x.f + i := IntWalk.i64_in _ (by omega)
      have hw3 : IntKind.i64.wrap (x.f + i - x.o) = x.f + i - x.o := IntWalk.i64_in _ (by omega)
      have HD : Hid (l.drop k = x :: l.drop (k + 1)) := Lib.hid (by
        obtain ⟨_, rfl⟩ := List.getElem?_eq_some_iff.1 hx
        exact List.drop_eq_getElem_cons hlt)
      have MISS : Hid (¬ (x.o ≤ i ∧ i < x.o + x.n) → ExtW.look (l.take (k + 1)) i = none) := Lib.hid fun hn => by
        rw [take_snoc hx, look_append, HNO.out, ExtW.look, if_neg hn]; rfl
      have HIT : Hid (x.o ≤ i ∧ i < x.o + x.n → ExtW.look l i = some (x.a, x.f + i - x.o)) := Lib.hid fun hy => by
        have e := look_take_none HNO.out
        rw [HD.out, ExtW.look, if_pos hy] at e
        rw [e, show x.f + (i - x.o) = x.f + i - x.o by omega]
      clear hx ho1 hs1 hs2
      by_cases h1 : x.o ≤ i
      · by_cases h2 : i < x.o + x.n
        · have HH := Lib.hid (HIT.out ⟨h1, h2⟩)
          obtain ⟨f, hf⟩ : ∃ f : Nat, x.f + i - x.o = (f : Int) := ⟨(x.f + i - x.o).toNat, by omega⟩
          have hfs : f < s.size := by have := HZ.out; omega
          rw [hf] at hw3 HH
          have hfi : (f : Int) < (s.size : Int) := by omega
          have HBY : Hid (byteA D (ExtW.look l i) = ((s[f]'hfs).toNat : Int)) := Lib.hid (by
            rw [HH.out]
            unfold byteA
            simp only
            rw [HS.out, Option.getD_some, Int.toNat_natCast, Array.getElem?_eq_getElem (by exact hfs)]
            rfl)
          clear hxs
          go_wp2_with fail
          refine held_below (by kernel_rfl) (by kernel_rfl) ?_
          repeat first
            | (refine held_skip ?_ ?_; (· first | rfl | (go_simp; done)); simp only [Act.put, List.setIfInBounds_toArray, List.set_cons_zero, List.set_cons_succ])
            | (refine held_val (v := ?_) ?_ ?_ ?_
               rotate_left
               · first | rfl | (go_simp; done)
               · intro wq hq
                 have e0 := cell_step hq c0
                 have e1 := cell_step hq c1
                 go_simp
                 with_reducible rfl
               simp only [Act.put, List.setIfInBounds_toArray, List.set_cons_zero, List.set_cons_succ])
          refine held_nil ?_
          intro w2 hb2
          have HB2 := Lib.hid (bstep HB.out hb2)
          replace c0 := cell_step hb2 c0
          replace c1 := cell_step hb2 c1
          replace c2 := cell_step hb2 c2
          replace c3 := cell_step hb2 c3
          have HM2 := Lib.hid (MapIs.of_block HM.out (HB2.out.block b (MapIs.lt HM.out)))
          clear hb2
          have hlk : ∀ wq, Below w2.heap.size w2 wq → (Instr.lookup 28 (.map (some b)) (.int .i64 x.a) false).run Tryd.prog wq = .ok (.string s) wq := fun wq hq => by
            have := MapIs.look (MapIs.keep HM2.out hq) aMK Tryd.underlying28 (sZero wq) x.a HOK.out false
            rw [HS.out] at this
            exact this
          have HLK := Lib.hid hlk
          clear hlk
          go_wp2_with fail
          refine held_below (by kernel_rfl) (by kernel_rfl) ?_
          repeat first
            | (refine held_skip ?_ ?_; (· first | rfl | (go_simp; done)); simp only [Act.put, List.setIfInBounds_toArray, List.set_cons_zero, List.set_cons_succ])
            | (refine held_val (v := ?_) ?_ ?_ ?_
               rotate_left
               · first | rfl | (go_simp; done)
               · intro wq hq
                 have e0 := cell_step hq c0
                 have e2 := cell_step hq c2
                 have e3 := cell_step hq c3
                 have e4 := HLK.out wq hq
                 go_simp
                 with_reducible rfl
               simp only [Act.put, List.setIfInBounds_toArray, List.set_cons_zero, List.set_cons_succ])
          refine held_nil ?_
          intro w2 hb2
          have HB3 := Lib.hid (bstep HB2.out hb2)
          clear hb2
          go_wp2_with fail
          go_ret
          exact ⟨by rw [HBY.out]; rfl, HB3.out⟩
        · have HM3 := Lib.hid (MISS.out (fun h => h2 h.2))
          have h2' : decide (i < x.o + x.n) = false := decide_eq_false h2
          clear h2
          go_wp2_with fail
          refine held_below (by kernel_rfl) (by kernel_rfl) ?_
          repeat first
            | (refine held_skip ?_ ?_; (· first | rfl | (go_simp; done)); simp only [Act.put, List.setIfInBounds_toArray, List.set_cons_zero, List.set_cons_succ])
            | (refine held_val (v := ?_) ?_ ?_ ?_
               rotate_left
               · first | rfl | (go_simp; done)
               · intro wq hq
                 have e0 := cell_step hq c0
                 have e1 := cell_step hq c1
                 go_simp
                 with_reducible rfl
               simp only [Act.put, List.setIfInBounds_toArray, List.set_cons_zero, List.set_cons_succ])
          refine held_nil ?_
          intro w2 hb2
          have HB2 := Lib.hid (bstep HB.out hb2)
          clear hb2
          go_wp2_with fail
          exact ⟨⟨k + 1, by omega, by simp, HM3.out, HB2.out⟩, by simp [intOf]; omega⟩
      · have HM3 := Lib.hid (MISS.out (fun h => h1 h.1))
        have h1' : decide (x.o ≤ i) = false := decide_eq_false h1
        clear h1
        go_wp2_with fail
        refine held_below (by kernel_rfl) (by kernel_rfl) ?_
        repeat first
          | (refine held_skip ?_ ?_; (· first | rfl | (go_simp; done)); simp only [Act.put, List.setIfInBounds_toArray, List.set_cons_zero, List.set_cons_succ])
          | (refine held_val (v := ?_) ?_ ?_ ?_
             rotate_left
             · first | rfl | (go_simp; done)
             · intro wq hq
               have e0 := cell_step hq c0
               go_simp
               with_reducible rfl
             simp only [Act.put, List.setIfInBounds_toArray, List.set_cons_zero, List.set_cons_succ])
        refine held_nil ?_
        intro w2 hb2
        have HB2 := Lib.hid (bstep HB.out hb2)
        clear hb2
        go_wp2_with fail
        exact ⟨⟨k + 1, by omega, by simp, HM3.out, HB2.out⟩, by simp [intOf]; omega⟩
    · obtain rfl : k = l.length := by omega
      have HE : Hid (ExtW.look l i = none) := Lib.hid (by have := HNO.out; rwa [List.take_length] at this)
      go_wp2_with fail
      go_ret
      exact ⟨by rw [HE.out]; rfl, HB.out⟩
end Go.Proofs.YthnkpoagpjnopaaDoor.MovW

/- MoveKeeps: what a round of it leaves. -/
namespace Go.Proofs.YthnkpoagpjnopaaDoor.MovP
set_option maxRecDepth 100000
open ExtW InoP InoW
theorem look_mem : ∀ {l : List Pt} {i : Int} {y : Int × Int}, ExtW.look l i = some y → ∃ x ∈ l, x.a = y.1
  | [], _, _, h => by simp [ExtW.look] at h
  | x :: l, i, y, h => by
    rw [ExtW.look] at h
    by_cases hx : x.o ≤ i ∧ i < x.o + x.n
    · rw [if_pos hx] at h
      injection h with h
      exact ⟨x, by simp, by rw [← h]⟩
    · rw [if_neg hx] at h
      obtain ⟨z, h1, h2⟩ := look_mem h
      exact ⟨z, by simp [h1], h2⟩
theorem movAll_from : ∀ (ms : List Mq) (g : Int → Option (Int × Int)) (tt i : Int) (y : Int × Int), movAll g ms tt i = some y → y.1 = tt ∨ ∃ z, g i = some z ∧ z.1 = y.1
  | [], _, _, _, y, h => .inr ⟨y, h, rfl⟩
  | m :: r, g, tt, i, y, h => by
    rw [movAll] at h
    rcases movAll_from r _ tt i y h with h | ⟨z, h1, h2⟩
    · exact .inl h
    · rw [movG_at] at h1
      cases hg : g i with
      | none => rw [hg] at h1; cases h1
      | some u =>
        rw [hg] at h1
        simp only at h1
        by_cases hm : inM m u
        · rw [if_pos hm] at h1
          injection h1 with h1
          exact .inl (by rw [← h2, ← h1])
        · rw [if_neg hm] at h1
          injection h1 with h1
          exact .inr ⟨u, rfl, by rw [h1]; exact h2⟩
theorem mvs_lt {p P : List Pt} {ms : List Mq} {tt : Int} (hg : ExtW.Good p) (hpa : ∀ x ∈ p, x.a < tt) (hm : mvsP p ms tt = (P, 0)) : ExtW.Good P ∧ ∀ x ∈ P, x.a < tt + 1 := by
  obtain ⟨hgP, hl⟩ := mvs_look hg hm
  refine ⟨hgP, fun x hx => ?_⟩
  obtain ⟨k, hk⟩ := List.getElem?_of_mem hx
  have hs := (chain_ones hgP.2 x hx).small
  have h1 := (look_at_part (good_sorted hgP) hk).2 x.o (by omega) (by omega)
  rw [hl] at h1
  rcases movAll_from ms _ tt x.o _ h1 with h | ⟨z, h2, h3⟩
  · simp only at h; omega
  · obtain ⟨u, hu, h4⟩ := look_mem h2
    have := hpa u hu
    simp only at h3; omega
theorem want_hit (b : Int) : ∀ {L : List Ino}, (wantA b L).2 ≠ [] → ∃ x ∈ L, x.i = (wantA b L).1 ∧ (wantA b L).2 = wantF b x.p 0 0
  | [], h => absurd rfl h
  | x :: xs, h => by
    rw [wantA] at h ⊢
    by_cases hx : wantF b x.p 0 0 = []
    · rw [if_pos hx] at h ⊢
      obtain ⟨y, h1, h2⟩ := want_hit b h
      exact ⟨y, by simp [h1], h2⟩
    · rw [if_neg hx]
      exact ⟨x, by simp, rfl, rfl⟩
/-- what a round finds -/
structure Found (b : Int) (L : List Ino) (i : Int) (w : List Pt) (x : Ino) : Prop where
  fnd : InoP.find L i = some x
  mem : x ∈ L
  is : w = wantF b x.p 0 0
  ne : w ≠ []
  good : IGood x
  file : x.k ≠ 1
  num : 1 ≤ i ∧ i ≤ 2147483647
theorem found {b : Int} {L : List Ino} {nx i : Int} {w : List Pt} (h : TGood L nx) (hw : wantA b L = (i, w)) (hne : w ≠ []) : ∃ x, Found b L i w x := by
  have h2 : (wantA b L).2 ≠ [] := by rw [hw]; exact hne
  obtain ⟨x, h3, h4, h5⟩ := want_hit b h2
  rw [hw] at h4 h5
  have hg := h.all x h3
  have hn := h.num x h3
  have hx := h.next
  refine ⟨x, by have e : x.i = i := h4; rw [← e]; exact find_of_mem h.rises h3, h3, h5, hne, hg, fun hk => hne ?_, by simp only at h4; omega⟩
  simp only at h5
  rw [h5, (hg.dir hk).2.2]; rfl
theorem Found.parts {b : Int} {L : List Ino} {i : Int} {w : List Pt} {x : Ino} (h : Found b L i w x) : partsL L i = x.p := by
  unfold partsL; rw [h.fnd]; rfl
theorem Found.ones {b : Int} {L : List Ino} {i : Int} {w : List Pt} {x : Ino} (h : Found b L i w x) : ∀ y ∈ w, One y := fun y hy => by
  rw [h.is] at hy
  exact chain_ones h.good.p.2 y (wantF_mem b hy).1
theorem Found.few {b : Int} {L : List Ino} {i : Int} {w : List Pt} {x : Ino} (h : Found b L i w x) : w.length ≤ 16 := by
  rw [h.is]; exact wantF_16 b (l := x.p) (n := 0) (c := 0) (by omega)
theorem Found.movE {b : Int} {L : List Ino} {i : Int} {w : List Pt} {x : Ino} (h : Found b L i w x) (ms : List Mq) (tt : Int) : tmovE L i ms tt = spaceE (mvsP x.p ms tt).2 := by
  unfold tmovE; rw [h.fnd]; exact if_neg h.file
theorem Found.movL {b : Int} {L : List Ino} {i : Int} {w : List Pt} {x : Ino} (h : Found b L i w x) {ms : List Mq} {tt : Int} {P : List Pt} (hm : mvsP x.p ms tt = (P, 0)) : tmovL L i ms tt = upd L { x with p := P } := by
  unfold tmovL
  rw [h.fnd]
  simp only
  rw [if_pos (by rw [h.movE, hm]; rfl), hm]
theorem Found.now {b : Int} {L : List Ino} {i : Int} {w : List Pt} {x : Ino} (h : Found b L i w x) (P : List Pt) : partsL (upd L { x with p := P }) i = P := by
  unfold partsL
  rw [find_upd L { x with p := P } x (by rw [← h.fnd]; exact congrArg (find L) (find_mem h.fnd).2)]
  simp only
  rw [if_pos (find_mem h.fnd).2.symm]
  rfl
theorem Found.lt {b : Int} {L : List Ino} {i : Int} {w : List Pt} {x : Ino} (_ : Found b L i w x) {tt : Int} (hl : ∀ z ∈ L, ∀ y ∈ z.p, y.a < tt) {P : List Pt} (hP : ∀ y ∈ P, y.a < tt + 1) : ∀ z ∈ upd L { x with p := P }, ∀ y ∈ z.p, y.a < tt + 1 := by
  intro z hz y hy
  unfold upd at hz
  obtain ⟨u, hu, rfl⟩ := List.mem_map.1 hz
  by_cases hk : u.i = ({ x with p := P } : Ino).i
  · rw [if_pos hk] at hy; exact hP y hy
  · rw [if_neg hk] at hy; have := hl u hu y hy; omega
end Go.Proofs.YthnkpoagpjnopaaDoor.MovP
namespace Go.Proofs.YthnkpoagpjnopaaDoor.MovW
set_option maxRecDepth 100000
open Go.RowKit MovP InoP InoW ExtW
/-- texts of a page for all of the first addresses -/
def Has (D : List Tx) (A : Int) : Prop := (∀ a, 0 ≤ a → a < A → ∃ s, txt D a = some s ∧ s.size = 1024) ∧ ∀ d ∈ D, d.s.size ≤ 3000
theorem has_nil : Has [] 0 := ⟨fun a h1 h2 => by omega, by simp⟩
theorem Has.snoc {D : List Tx} {A a : Int} {s : ByteArray} (h : Has D A) (ha : a = A) (hs : s.size = 1024) : Has (D ++ [⟨a, s⟩]) (A + 1) := by
  subst ha
  refine ⟨fun z h1 h2 => ?_, fun d hd => ?_⟩
  · rw [txt_snoc]
    by_cases hz : a = z
    · exact ⟨s, if_pos hz, hs⟩
    · rw [if_neg hz]; exact h.1 z h1 (by omega)
  · rcases List.mem_append.1 hd with hd | hd
    · exact h.2 d hd
    · rw [List.mem_singleton.1 hd]; show s.size ≤ 3000; omega
theorem Has.put {D : List Tx} {A a : Int} {s : ByteArray} (h : Has D A) (hs : s.size = 1024) : Has (D ++ [⟨a, s⟩]) A := by
  refine ⟨fun z h1 h2 => ?_, fun d hd => ?_⟩
  · rw [txt_snoc]
    by_cases hz : a = z
    · exact ⟨s, if_pos hz, hs⟩
    · rw [if_neg hz]; exact h.1 z h1 h2
  · rcases List.mem_append.1 hd with hd | hd
    · exact h.2 d hd
    · rw [List.mem_singleton.1 hd]; show s.size ≤ 3000; omega
theorem Has.pages {D : List Tx} {A : Int} (h : Has D A) {l : List Pt} (hg : ExtW.Good l) (hl : ∀ x ∈ l, x.a < A) : Pages D l := fun x hx =>
  have ho := chain_ones hg.2 x hx
  ⟨ho, h.1 x.a ho.small.2.2.2.2.1 (hl x hx)⟩
theorem Has.dat {D : List Tx} {A b : Int} (h : Has D A) (hb : b ≤ A) {L : List Ino} {i : Int} {w : List Pt} {x : Ino} (f : MovP.Found b L i w x) : (datF D w).size ≤ 1024 := by
  have hf : ∀ y ∈ w, missB D y = false ∧ badB y = false := fun y hy => by
    have hy' := hy
    rw [f.is] at hy'
    exact want_fits (fun a h1 h2 => h.1 a h1 (by omega : a < A)) (f.ones y hy) (wantF_mem b hy').2
  have h1 := dat_at hf
  have h2 := wantF_sum b (l := x.p) (n := 0) (c := 0) (by omega)
  rw [← f.is] at h2
  obtain ⟨e1, _⟩ := mvF_all f.ones
  omega
theorem u8_some (E : Int) : ∃ v : UInt8, IntKind.u8.wrap E = (v.toNat : Int) := by
  have h0 : IntKind.u8.wrap E = E % 256 := by
    simp [IntKind.wrap, IntKind.signed, IntKind.bits]
  refine ⟨UInt8.ofNat (E % 256).toNat, ?_⟩
  rw [h0]
  have h1 : (E % 256).toNat < 256 := by omega
  rw [UInt8.toNat_ofNat_of_lt' h1]
  omega
theorem cell_of_map {w : World} {a : Addr} {es : Array MapEntry} {c : Nat} (h : w.heap[a.block]? = some (.map es c)) : w.cell? a = none := by
  unfold World.cell?
  rw [h]
theorem pts_only {oa : Option Addr} {l : List Pt} {w w' : World} {b : Nat} (h : PtsAt w.heap.size oa l w) (k : Only b w w') (hm : ∃ es c, w.heap[b]? = some (.map es c)) : PtsAt w'.heap.size oa l w' := by
  refine pts_grown h k fun hne a ha e => ?_
  obtain ⟨x, r, rfl⟩ := List.exists_cons_of_ne_nil hne
  obtain ⟨a', h1, h2, h3, _⟩ := h 0 x rfl
  obtain rfl : a' = a := by rw [h1] at ha; injection ha
  obtain ⟨es, c, hm⟩ := hm
  obtain rfl : b = a'.block := by injection e
  rw [Nat.zero_mul] at h3
  rw [cell_of_map (a := a'.add 0) (by rw [add_block]; exact hm)] at h3
  cases h3
theorem ti_map {w : World} {tb b : Nat} {L : List Ino} {nx : Int} (h : TIs w tb b L nx) : ∃ es c, w.heap[b]? = some (.map es c) := by
  obtain ⟨n, g, ⟨es, c, h1, _⟩, _⟩ := h.map
  exact ⟨es, c, h1⟩
theorem tx_map {w : World} {b n : Nat} {g : Int → Option ByteArray} (h : TxIs w b n g) : ∃ es c, w.heap[b]? = some (.map es c) := by
  obtain ⟨es, c, h1, _⟩ := h
  exact ⟨es, c, h1⟩
theorem mq_at {w : World} {oa : Option Addr} {l : List OpP.Mv} (h : OpW.MvAt w oa l) : KAt encQ 4 w.heap.size oa (l.map toQ) w := by
  intro i x hx
  rw [List.getElem?_map] at hx
  obtain ⟨m, hm, rfl⟩ := Option.map_eq_some_iff.1 hx
  obtain ⟨a, h1, h2, h3⟩ := h i m hm
  exact ⟨a, h1, h2, h3⟩
end Go.Proofs.YthnkpoagpjnopaaDoor.MovW

/- Loaded, of any list: the table's map is new. -/
namespace Go.Proofs.YthnkpoagpjnopaaDoor.LivW
set_option maxRecDepth 100000
open Go.RowKit InoP InoW ExtW
set_option maxHeartbeats 3200000 in
theorem loaded_yes_new (nx : Int) (oa : Option Addr) (cap : Nat) (xs : List Ino) (ys : List IV) (hg : LGood xs nx) (W : World) (h : IList W oa xs ys) :
    Calls Tryd.prog 14 #[.slice oa xs.length cap, .int .i64 nx] W fun e w' => ∃ tb mb qb oq cq zs, e = .returned (.tuple #[.pointer (some ⟨tb, 0, none⟩), .pointer (some ⟨qb, 0, none⟩), .bool true]) ∧ TIs w' tb mb xs nx ∧ IList w' oq xs zs ∧ w'.heap[qb]? = some (.cells #[.slice oq xs.length cq, .int .i64 nx] 60 (0, 0)) ∧ W.heap.size ≤ mb ∧ Below W.heap.size W w' := by
  have H := Lib.hid h
  have HG := Lib.hid hg
  have HPL : Hid (∀ x ∈ xs, x.p.length ≤ 100000) := Lib.hid (fun x hx => by have := (hg.mem hx).g.1; omega)
  have HLL : Hid (xs.length ≤ 100000) := Lib.hid (by have := hg.len; omega)
  have HLB : Hid (largeB xs = false) := Lib.hid (by
    unfold largeB
    rw [Bool.or_eq_false_iff]
    refine ⟨decide_eq_false (by have := hg.len; omega), List.any_eq_false.2 fun x hx => ?_⟩
    have := (hg.mem hx).g.1
    simp; omega)
  clear h hg
  go_enter Tryd.func14, Tryd.ntmps14
  go_wp2_with (first
    | (go_at_call 25; refine (large_any oa cap xs ys _ H.out (by have := HLL.out; omega) (fun x hx => by have := HPL.out x hx; omega)).mono ?_; rintro e w1 ⟨rfl, hb1⟩; rw [HLB.out]; have HB1 := Lib.hid hb1; have H1 := Lib.hid (H.out.grow hb1); clear hb1)
    | (go_at_call 29; go_loud (refine (load_yes _ _ _ _ nx _ _ xs _ HG.out _ HT5.out HR5.out.list).mono ?_; rintro e w6 ⟨rfl, mb, ht6, hs6, ho6⟩; have HT6 := Lib.hid ht6; have HS6 := Lib.hid hs6; have HO6 := Lib.hid ho6; clear ht6 hs6 ho6))
    | (go_at_call 30; refine (copied_any oa cap xs ys HPL.out HLL.out _ H4.out).mono ?_; rintro e w5 ⟨oa5, cap5, zs5, rfl, hr5, hb5⟩; have HR5 := Lib.hid hr5; have HB5 := Lib.hid hb5; have HT5 := Lib.hid (HT4.out.grow hb5); clear hr5 hb5)
    | (go_at_call 28; refine (new_any _).mono ?_; rintro e w4 ⟨rfl, ht4, hb4⟩; have HT4 := Lib.hid ht4; have HB4 := Lib.hid hb4; have H4 := Lib.hid (H3.out.grow hb4); clear ht4 hb4)
    | (go_at_call 26; refine (rgood_yes nx _ _ xs _ HG.out _ HR2.out.list).mono ?_; rintro e w3 ⟨rfl, hb3⟩; have HB3 := Lib.hid hb3; have H3 := Lib.hid (H2.out.grow hb3); clear hb3)
    | (go_at_call 27; refine (own_any oa cap xs ys HPL.out HLL.out _ H1.out).mono ?_; rintro e w2 ⟨oa2, cap2, zs2, rfl, hr2, hb2⟩; have HR2 := Lib.hid hr2; have HB2 := Lib.hid hb2; have H2 := Lib.hid (H1.out.grow hb2); clear hr2 hb2))
  have HMB : Hid (W.heap.size ≤ mb) := Lib.hid (by
    have b1 := HB1.out.size
    have b2 := HB2.out.size
    have b3 := HB3.out.size
    have b4 := HB4.out.size
    have b5 := HB5.out.size
    have b6 := HS6.out
    omega)
  have HB6 : Hid (Below W.heap.size W w6) := Lib.hid (by
    have b1 := HB1.out
    have b2 := b1.trans (HB2.out.mono b1.size)
    have b3 := b2.trans (HB3.out.mono b2.size)
    have b4 := b3.trans (HB4.out.mono b3.size)
    have b5 := b4.trans (HB5.out.mono b4.size)
    exact b5.trans (HO6.out.below (by have := b3.size; omega) b5.size))
  go_wp2_with (go_at_call 27; refine (own_any oa cap xs ys HPL.out HLL.out _ (H.out.grow HB6.out)).mono ?_; rintro e w7 ⟨oa7, cap7, zs7, rfl, hr7, hb7⟩; have HR7 := Lib.hid hr7; have HB7 := Lib.hid hb7; clear hr7 hb7)
  go_ret3
  have ha := below_alloc w7 (.cells #[.slice oa7 xs.length cap7, .int .i64 nx] 60)
  exact ⟨_, _, _, _, _, _, rfl, (HT6.out.grow HB7.out).grow ha, HR7.out.list.grow ha, heap_alloc_new w7 _, HMB.out, (HB6.out.trans (HB7.out.mono HB6.out.size)).trans (ha.mono (by have := HB6.out.size; have := HB7.out.size; omega))⟩
set_option maxHeartbeats 3200000 in
theorem loaded_new (nx : Int) (oa : Option Addr) (cap : Nat) (xs : List Ino) (ys : List IV) (hpl : ∀ x ∈ xs, x.p.length ≤ maxLen) (W : World) (h : IList W oa xs ys) :
    Calls Tryd.prog 14 #[.slice oa xs.length cap, .int .i64 nx] W fun e w' => (e = .returned (.tuple #[.pointer none, .pointer none, .bool false]) ∧ Below W.heap.size W w') ∨
      (LGood xs nx ∧ ∃ tb mb qb oq cq zs, e = .returned (.tuple #[.pointer (some ⟨tb, 0, none⟩), .pointer (some ⟨qb, 0, none⟩), .bool true]) ∧ TIs w' tb mb xs nx ∧ IList w' oq xs zs ∧ w'.heap[qb]? = some (.cells #[.slice oq xs.length cq, .int .i64 nx] 60 (0, 0)) ∧ W.heap.size ≤ mb ∧ Below W.heap.size W w') := by
  by_cases hg : LGood xs nx
  · exact (loaded_yes_new nx oa cap xs ys hg W h).mono fun _ _ q => .inr ⟨hg, q⟩
  have hL := large_any2 oa cap xs ys W h (fun x hx => by have := hpl x hx; unfold maxLen at this; omega)
  have H := Lib.hid h
  cases hlb : largeB xs with
  | true =>
    rw [hlb] at hL
    have HC := Lib.hid hL
    clear hL h hlb
    go_enter Tryd.func14, Tryd.ntmps14
    go_wp2_with (go_at_call 25; refine HC.out.mono ?_; rintro e w1 ⟨rfl, hb1⟩; have HB1 := Lib.hid hb1; clear hb1)
    go_ret3
    exact .inl ⟨rfl, HB1.out⟩
  | false =>
    rw [hlb] at hL
    obtain ⟨s1, s2⟩ := large_small hlb
    have HS1 : Hid (xs.length ≤ 100000) := Lib.hid (by omega)
    have HS2 : Hid (∀ x ∈ xs, x.p.length ≤ 100000) := Lib.hid (fun x hx => by have := s2 x hx; omega)
    have HC := Lib.hid hL
    clear hL h hlb s1 s2
    go_enter Tryd.func14, Tryd.ntmps14
    go_wp2_with (first
      | (go_at_call 25; refine HC.out.mono ?_; rintro e w1 ⟨rfl, hb1⟩; have HB1 := Lib.hid hb1; have H1 := Lib.hid (H.out.grow hb1); clear hb1)
      | (go_at_call 26; refine (rgood_any2 nx _ _ xs _ HS1.out HS2.out _ HR2.out.list).mono ?_; rintro e w3 ⟨b, rfl, hgb, hb3⟩; obtain rfl : b = false := (by cases b with | false => rfl | true => exact absurd (hgb rfl) hg); have HB3 := Lib.hid hb3; clear hb3 hgb)
      | (go_at_call 27; refine (own_any oa cap xs ys HS2.out HS1.out _ H1.out).mono ?_; rintro e w2 ⟨oa2, cap2, zs2, rfl, hr2, hb2⟩; have HR2 := Lib.hid hr2; have HB2 := Lib.hid hb2; clear hr2 hb2))
    go_ret3
    have b1 := HB1.out
    have b2 := b1.trans (HB2.out.mono b1.size)
    exact .inl ⟨rfl, b2.trans (HB3.out.mono b2.size)⟩
end Go.Proofs.YthnkpoagpjnopaaDoor.LivW

/- MoveKeeps: what one round of its loop calls, in one shape each. -/
namespace Go.Proofs.YthnkpoagpjnopaaDoor.MovW
set_option maxRecDepth 100000
open Go.RowKit MovP InoP InoW ExtW
theorem ti_only {w w' : World} {tb mb c : Nat} {L : List Ino} {nx : Int} (h : TIs w tb mb L nx) (k : Only c w w') (hm : ∃ es n, w.heap[c]? = some (.map es n)) (h1 : c ≠ tb) (h2 : c ≠ mb) : TIs w' tb mb L nx := by
  refine ⟨k.heap h.head (fun e => h1 e.symm), ?_, h.good⟩
  obtain ⟨n, g, hmap, g1, g2⟩ := h.map
  refine ⟨n, g, MapIs.of_block hmap (k.block mb (MapIs.lt hmap) (fun e => h2 (by injection e with e; exact e.symm))), g1, fun i x hx => ?_⟩
  obtain ⟨y, hy, hr⟩ := g2 i x hx
  exact ⟨y, hy, { hr with pts := MovW.pts_only hr.pts k hm }⟩
theorem tx_only {w w' : World} {b n c : Nat} {g : Int → Option ByteArray} (h : TxIs w b n g) (k : Only c w w') (h1 : c ≠ b) : TxIs w' b n g :=
  MapIs.of_block h (k.block b (MapIs.lt h) (fun e => h1 (by injection e with e; exact e.symm)))
theorem ptok {x : Pt} (h : One x) : PtOk x := by
  have hs := h.small
  refine ⟨?_, ?_, ?_, ?_⟩ <;> simp [Lit.wf, IntKind.min, IntKind.max, IntKind.signed, IntKind.bits] <;> omega
theorem iok_num {i : Int} (h : 1 ≤ i ∧ i ≤ 2147483647) : iOk i := iOk_of (by omega)
theorem want_is {b nx i : Int} {l : List Pt} {tb mb : Nat} {L : List Ino} (hw : wantA b L = (i, l)) (w : World) (h : TIs w tb mb L nx) :
    Calls Tryd.prog 15 #[.pointer (some ⟨tb, 0, none⟩), .int .i64 b] w fun e w' => ∃ o c, e = .returned (.tuple #[.int .i64 i, .slice o l.length c]) ∧ PtsAt w'.heap.size o l w' ∧ Below w.heap.size w w' := by
  have q := want_any b w h
  rw [hw] at q
  exact q
theorem parts_is {nx i : Int} {p : List Pt} {tb mb : Nat} {L : List Ino} (hi : 1 ≤ i ∧ i ≤ 2147483647) (hp : partsL L i = p) (w : World) (h : TIs w tb mb L nx) :
    Calls Tryd.prog 18 #[.pointer (some ⟨tb, 0, none⟩), .int .i64 i] w fun e w' => ∃ o c, e = .returned (.slice o p.length c) ∧ PtsAt w'.heap.size o p w' ∧ Below w.heap.size w w' := by
  subst hp
  exact (InoW.parts_any i (iok_num hi) w h).mono fun _ _ ⟨o, c, h1, h2, h3⟩ => ⟨o, c, h1, h2.pts, h3⟩
theorem build_is {D : List Tx} {b i q : Int} {L : List Ino} {l : List Pt} {x : Ino} (hb : b ≤ 400) (hD : Has D 400) (f : MovP.Found b L i l x) (hq : 1 ≤ q ∧ q ≤ 2147483647) (oa : Option Addr) (cap bb nb : Nat) (w : World) (hf : OpW.Fl w) (hm : TxIs w bb nb (txt D)) (hp : PtsAt w.heap.size oa l w) :
    Calls Tryd.prog 8 #[.int .i64 1, .int .i64 q, .int .i64 i, .slice oa l.length cap, .map (some bb)] w fun e w' => ∃ om cm, e = .returned (.tuple #[.agg #[.int .i64 1, .int .i64 q, .int .i64 13, .string ⟨#[]⟩, .string ⟨#[]⟩, .int .i64 0, .int .i64 0, .int .i64 0, .string (datF D l), .int .i64 0, .int .i64 i, .slice om l.length cm], .int .i64 0]) ∧
      KAt encQ 4 w'.heap.size om ((mvF l).1.map toQ) w' ∧ Below w.heap.size w w' := by
  have e1 : buildR 1 q i D l = (recR 1 q i D l, 0) := by
    have h1 := f.is
    have h2 := f.ne
    rw [h1] at h2 ⊢
    exact build_wanted (fun a h3 h4 => hD.1 a h3 (by omega)) (chain_ones f.good.p.2) hq f.num h2
  have q := build_some 1 q i D hD.2 l (by have := f.few; omega) f.ne (fun y hy => ptok (f.ones y hy)) oa cap bb nb w hf hm hp
  rw [e1] at q
  refine q.mono ?_
  rintro e w' ⟨om, n, cm, rfl, hn, _, hmv, hbl⟩
  have hn2 : n = l.length := by rw [hn]; exact mvF_len l
  subst hn2
  exact ⟨om, cm, rfl, mq_at hmv, hbl⟩
theorem data_is {q i : Int} {s : ByteArray} (v : Value) (w : World) :
    Calls Tryd.prog 10 #[.agg #[.int .i64 1, .int .i64 q, .int .i64 13, .string ⟨#[]⟩, .string ⟨#[]⟩, .int .i64 0, .int .i64 0, .int .i64 0, .string s, .int .i64 0, .int .i64 i, v]] w fun e w' => e = .returned (.tuple #[.string s, .bool true]) ∧ Below w.heap.size w w' :=
  data_any ⟨1, q, 13, ⟨#[]⟩, ⟨#[]⟩, 0, 0, 0, s, 0, i, []⟩ v w
theorem mq_ok {b i : Int} {L : List Ino} {l : List Pt} {x : Ino} (f : MovP.Found b L i l x) : ∀ m ∈ (mvF l).1.map toQ, -9223372036854775808 ≤ m.f ∧ m.f ≤ 9223372036854775807 := fun m hm => by
  obtain ⟨q, hq, rfl⟩ := List.mem_map.1 hm
  obtain ⟨_, y, hy, _, h4, _⟩ := (mvF_all f.ones).2 q hq
  have hs := (f.ones y hy).small
  show -9223372036854775808 ≤ q.f ∧ q.f ≤ 9223372036854775807
  omega
theorem tmove_is {b i nx tt E : Int} {tb mb n : Nat} {L : List Ino} {l P : List Pt} {x : Ino} (f : MovP.Found b L i l x) (hE : mvsP x.p ((mvF l).1.map toQ) tt = (P, E)) (hn : n = l.length) (om : Option Addr) (cm : Nat) (w : World) (h : TIs w tb mb L nx) (hm : KAt encQ 4 w.heap.size om ((mvF l).1.map toQ) w) :
    Calls Tryd.prog 19 #[.pointer (some ⟨tb, 0, none⟩), .int .i64 i, .slice om n cm, .int .i64 tt] w fun e w' => e = .returned (.int .i64 (spaceE E)) ∧ (E = 0 → TIs w' tb mb (upd L { x with p := P }) nx) ∧ Only mb w w' := by
  have hl : n = ((mvF l).1.map toQ).length := by rw [List.length_map, mvF_len]; exact hn
  subst hl
  refine (tmove_any i tt (iok_num f.num) _ (mq_ok f) (by rw [List.length_map, mvF_len]; have := f.few; omega) om cm w h hm).mono ?_
  rintro e w' ⟨rfl, ht, ho⟩
  have e1 : tmovE L i ((mvF l).1.map toQ) tt = spaceE E := by rw [f.movE, hE]
  refine ⟨by rw [e1], fun h0 => ?_, ho⟩
  rw [h0] at hE
  rw [f.movL hE] at ht
  exact ht
theorem byte_new {D : List Tx} {p : List Pt} {tt : Int} {s : ByteArray} (hp : ∀ x ∈ p, x.a < tt) (i : Int) : byteA (D ++ [⟨tt, s⟩]) (ExtW.look p i) = byteA D (ExtW.look p i) := by
  cases hi : ExtW.look p i with
  | none => rfl
  | some y =>
    obtain ⟨a, o⟩ := y
    obtain ⟨x, hx, hxa⟩ := look_mem hi
    have := hp x hx
    simp only at hxa
    unfold byteA
    simp only
    rw [txt_snoc, if_neg (by show ¬ tt = a; omega)]
/-- both bytes are one -/
theorem byte_both {D : List Tx} {b i tt : Int} {L : List Ino} {l P : List Pt} {x : Ino} {z : ByteArray} (hb : b ≤ 300) (ht : 300 ≤ tt) (hD : Has D 400) (f : MovP.Found b L i l x) (hpa : ∀ y ∈ x.p, y.a < tt) (hm : mvsP x.p ((mvF l).1.map toQ) tt = (P, 0)) (j : Int) :
    byteA (D ++ [⟨tt, datF D l ++ z⟩]) (ExtW.look P j) = byteA (D ++ [⟨tt, datF D l ++ z⟩]) (ExtW.look x.p j) := by
  rw [byte_new hpa j]
  have h1 := f.is
  rw [h1] at hm ⊢
  exact keep_bytes (fun a h3 h4 => hD.1 a h3 (by omega)) f.good.p hpa (by omega) hm j
/-- what a round finds, and leaves: the table, the texts, and what lies below -/
structure RSt (W : World) (tb mb b : Nat) (nx : Int) (nb : Nat) (L : List Ino) (D : List Tx) (w : World) : Prop where
  ti : TIs w tb mb L nx
  tx : TxIs w b nb (txt D)
  bw : Below W.heap.size W w
  n1 : b ≠ tb
  n2 : b ≠ mb
  l1 : W.heap.size ≤ mb
  l2 : W.heap.size ≤ b
theorem RSt.grow {W w w' : World} {tb mb b nb : Nat} {nx : Int} {L : List Ino} {D : List Tx} (h : RSt W tb mb b nx nb L D w) (k : Below w.heap.size w w') : RSt W tb mb b nx nb L D w' :=
  ⟨h.ti.grow k, MapIs.keep h.tx k, bstep h.bw k, h.n1, h.n2, h.l1, h.l2⟩
theorem RSt.move {W w w' : World} {tb mb b nb : Nat} {nx : Int} {L L' : List Ino} {D : List Tx} (h : RSt W tb mb b nx nb L D w) (k : Only mb w w') (t : TIs w' tb mb L' nx) : RSt W tb mb b nx nb L' D w' :=
  ⟨t, tx_only h.tx k (fun e => h.n2 e.symm), h.bw.trans (k.below h.l1 h.bw.size), h.n1, h.n2, h.l1, h.l2⟩
theorem RSt.put {W w w' : World} {tb mb b nb nb' : Nat} {nx : Int} {L : List Ino} {D D' : List Tx} (h : RSt W tb mb b nx nb L D w) (k : Only b w w') (t : TxIs w' b nb' (txt D')) : RSt W tb mb b nx nb' L D' w' :=
  ⟨ti_only h.ti k (tx_map h.tx) h.n1 h.n2, t, h.bw.trans (k.below h.l2 h.bw.size), h.n1, h.n2, h.l1, h.l2⟩
/-- and the parts that a round looks at: those that are, those that were, those that were wanted -/
structure RR (W : World) (tb mb b : Nat) (nx : Int) (nb : Nat) (L : List Ino) (D : List Tx) (on ow oq : Option Addr) (N X Q : List Pt) (w : World) : Prop where
  rs : RSt W tb mb b nx nb L D w
  now : PtsAt w.heap.size on N w
  was : PtsAt w.heap.size ow X w
  want : PtsAt w.heap.size oq Q w
theorem RR.grow {W w w' : World} {tb mb b nb : Nat} {nx : Int} {L : List Ino} {D : List Tx} {on ow oq : Option Addr} {N X Q : List Pt} (h : RR W tb mb b nx nb L D on ow oq N X Q w) (k : Below w.heap.size w w') : RR W tb mb b nx nb L D on ow oq N X Q w' :=
  ⟨h.rs.grow k, h.now.grow k, h.was.grow k, h.want.grow k⟩
end Go.Proofs.YthnkpoagpjnopaaDoor.MovW

/- MoveKeeps: a record that was built of what is wanted, and is applied, leaves every byte as it is read. -/
namespace Go.Proofs.YthnkpoagpjnopaaDoor.MovW
set_option maxRecDepth 100000
open Go.RowKit MovP InoP InoW ExtW LivW
set_option maxHeartbeats 6400000 in
theorem keeps_walk (oa : Option Addr) (cap : Nat) (xs : List Ino) (ys : List IV) (_ : xs.length ≤ maxLen) (hpl : ∀ x ∈ xs, x.p.length ≤ maxLen) (nx : Int) (_ : (Lit.int .i64 nx).wf = true) (bl : Int) (_ : (Lit.int .i64 bl).wf = true) (W : World) (hf : OpW.Fl W) (h : IList W oa xs ys) :
    Calls Tryd.prog 5 #[.slice oa xs.length cap, .int .i64 nx, .int .i64 bl] W fun e w' => e = .returned (.bool true) ∧ Below W.heap.size W w' := by
  have HLD := Lib.hid (loaded_new nx oa cap xs ys hpl W h)
  have HF := Lib.hid hf
  have hmm := @run_makeMap Tryd.prog
  clear h hpl hf
  go_enter Tryd.func5, Tryd.ntmps5
  go_wp2_with fail
  refine HLD.out.mono ?_
  rintro e w3 (⟨rfl, hb3⟩ | ⟨hg, tb, mb, qb, oq, cq, zs, rfl, ht, hl, hq, hmb, hb3⟩)
  · have HB3 := Lib.hid hb3
    clear hb3
    go_wp2_with (go_at_call 6; refine (wakes_any _ (HF.out.keep HB3.out)).mono ?_; rintro e w5 ⟨rfl, hb5⟩; have HB5 := Lib.hid (bstep HB3.out hb5); clear hb5)
    go_ret
    exact ⟨rfl, HB5.out⟩
  · have HB3 := Lib.hid hb3
    have HT := Lib.hid ht
    have HL := Lib.hid hl
    have HQ := Lib.hid hq
    have HMBN := Lib.hid hmb
    clear hb3 ht hl hq hg hmb
    go_wp2_with fail
    obtain ⟨b, hb⟩ : ∃ b, b = w3.heap.size := ⟨_, rfl⟩
    rw [← hb]
    have HM0 : Hid (TxIs (w3.alloc (.map #[] 0)) b 0 (txt [])) := Lib.hid (by rw [hb]; exact MapIs.made w3)
    have HB0 : Hid (Below w3.heap.size w3 (w3.alloc (.map #[] 0))) := Lib.hid (below_alloc w3 _)
    have HBE := Lib.hid hb
    clear hb
    generalize w3.alloc (.map #[] 0) = w4 at *
    go_loopw [11] (fun i wr => ∃ (k : Nat) (D : List Tx) (nb : Nat), k ≤ 400 ∧ i = .int .i64 (k : Int) ∧ Has D k ∧ TxIs wr b nb (txt D) ∧ Below w3.heap.size w3 wr) (fun i _ => ((400 : Int) - intOf i).toNat)
    case atStart => exact ⟨0, [], 0, by omega, rfl, has_nil, HM0.out, HB0.out⟩
    case round =>
      obtain ⟨k, D, nb, hk, rfl, hhas, hm, hbel⟩ := hrel
      have HH := Lib.hid hhas
      have HM := Lib.hid hm
      have HBEL := Lib.hid hbel
      clear hhas hm hbel
      by_cases hlt : k < 400
      · skip

        have hlt1 : (k : Int) < 400 := by omega
        obtain ⟨w5, hmk, hrow, hbel5, hsz5⟩ := make_bytes (P := Tryd.prog) wr 57 5 Tryd.underlying57 (by kernel_rfl) 1024 (by omega)
        have hmk' : (Instr.makeSlice 57 (.int .i64 1024) (.int .i64 1024)).run Tryd.prog wr = .ok (.slice (some ⟨wr.heap.size, 0, none⟩) 1024 1024) w5 := hmk
        clear hmk
        go_wp2_with fail
        clear hmk'
        obtain ⟨wo, rfl⟩ : ∃ wo, wo = wr := ⟨_, rfl⟩
        have HR5 : Hid (BytesAt w5 wo.heap.size 1024 (fun _ => 0)) := Lib.hid hrow
        have HB5 : Hid (Below wo.heap.size wo w5) := Lib.hid hbel5
        clear hrow hbel5
        go_loopw [13] (fun i wr => ∃ (j : Nat) (f : Nat → UInt8), j ≤ 1024 ∧ i = .int .i64 (j : Int) ∧ BytesAt wr wo.heap.size 1024 f ∧ Below wo.heap.size wo wr) (fun i _ => ((1024 : Int) - intOf i).toNat)
        case atStart => exact ⟨0, _, by omega, rfl, HR5.out, HB5.out⟩
        case round =>
          obtain ⟨j, f, hj, rfl, hb, hbl⟩ := hrel
          have HBY := Lib.hid hb
          have HBL := Lib.hid hbl
          clear hb hbl
          by_cases hjl : j < 1024
          · have hj1 : (j : Int) < 1024 := by omega
            obtain ⟨g0, f0⟩ := HBY.out j hjl
            have e1 : IntKind.i64.wrap ((k : Int) * 7) = (k : Int) * 7 := IntWalk.i64_in _ (by omega)
            have e2 : IntKind.i64.wrap ((j : Int) * 3) = (j : Int) * 3 := IntWalk.i64_in _ (by omega)
            have e3 : IntKind.i64.wrap ((k : Int) * 7 + (j : Int) * 3) = (k : Int) * 7 + (j : Int) * 3 := IntWalk.i64_in _ (by omega)
            have e4 : IntKind.i64.wrap ((k : Int) * 7 + (j : Int) * 3 + 1) = (k : Int) * 7 + (j : Int) * 3 + 1 := IntWalk.i64_in _ (by omega)
            obtain ⟨v, e5⟩ := u8_some ((k : Int) * 7 + (j : Int) * 3 + 1)
            go_wp2_with fail
            exact ⟨⟨j + 1, _, by omega, by simp, HBY.out.set j hjl v, HBL.out.setCell (p := ⟨wo.heap.size, j, none⟩) (Nat.le_refl _) _⟩, by simp [intOf]; omega⟩
          · obtain rfl : j = 1024 := by omega
            have hcv := conv_of_bytes (P := Tryd.prog) wr 57 9 5 wo.heap.size 1024 1024 f Tryd.underlying57 Tryd.underlying5 Tryd.underlying9 HBY.out
            have hsz := bytesStr_size 1024 f
            generalize bytesStr 1024 f = s at *
            have HBK : Hid (Below w3.heap.size w3 wr) := Lib.hid (HBEL.out.trans (HBL.out.mono HBEL.out.size))
            have HMQ : Hid (TxIs wr b nb (txt D)) := Lib.hid (MapIs.of_block HM.out (HBL.out.block b (MapIs.lt HM.out)))
            have HKO : Hid (aOk (k : Int)) := Lib.hid (by unfold aOk; simp [Lit.wf, IntKind.min, IntKind.max, IntKind.signed, IntKind.bits]; omega)
            have HSZ := Lib.hid hsz
            have HTX : Hid (txt (D ++ [⟨(k : Int), s⟩]) = fun z => if z = (k : Int) then some s else txt D z) := Lib.hid (by
              funext z; rw [txt_snoc]
              by_cases hz : (k : Int) = z
              · rw [if_pos hz, if_pos hz.symm]
              · rw [if_neg hz, if_neg (fun e => hz e.symm)])
            clear hsz
            go_wp2_with (at_mapUpdate; go_loud (refine wpList_map_store _ rfl _ _ _ 28 9 rfl aMK Tryd.underlying28 b nb (txt D) HMQ.out (by rfl) (k : Int) s HKO.out (by rfl) (by rfl) ?_; intro w6 hm6 ho6 hs6; have HM6 := Lib.hid hm6; have HO6 : Hid (Only b wr w6) := Lib.hid ho6; clear hm6 ho6 hs6))
            exact ⟨⟨k + 1, D ++ [⟨(k : Int), s⟩], nb + 1, by omega, by simp, by have := HH.out.snoc rfl HSZ.out; exact_mod_cast this, by rw [HTX.out]; exact HM6.out, HBK.out.trans (HO6.out.below (by rw [HBE.out]; exact Nat.le_refl _) HBK.out.size)⟩, by simp [intOf]; omega⟩

      · have HH4 : Hid (Has D 400) := Lib.hid (by have e : k = 400 := by omega
                                                  have := HH.out; rw [e] at this; exact this)
        have hlt1 : decide ((k : Int) < 400) = false := decide_eq_false (by omega)
        obtain ⟨w7, rfl⟩ : ∃ w7, w7 = wr := ⟨_, rfl⟩
        have HB7 : Hid (Below W.heap.size W w7) := Lib.hid (bstep HB3.out HBEL.out)
        have HL7 := Lib.hid (HL.out.grow HBEL.out)
        have hq1 := (new_cells ((HBEL.out.block qb (lt_of_block HQ.out)).trans HQ.out) 0 (by simp)).1
        simp only [List.getElem_toArray, List.getElem_cons_zero] at hq1
        have hzl := HL7.out.read.1
        have HXL : Hid (xs.length ≤ 64) := Lib.hid HT.out.good.len
        have HIG : Hid (∀ x ∈ xs, IGood x) := Lib.hid HT.out.good.all
        clear hlt hk
        go_wp2_with fail
        clear hlt1 HH
        go_loopw [14] (fun i wr => wr = w7 ∧ ∃ k : Nat, k ≤ xs.length ∧ i = .int .i64 (k : Int) ∧ (∀ x ∈ xs.take k, ∀ y ∈ x.p, y.a < 300)) (fun i _ => ((xs.length : Int) - intOf i).toNat)
        case atStart => exact ⟨rfl, 0, by omega, rfl, by simp⟩
        case round =>
          obtain ⟨rfl, k, hk, rfl, hsm⟩ := hrel
          have HSM := Lib.hid hsm
          have hxl := HXL.out
          clear hsm
          by_cases hlt : k < xs.length
          · skip

            have hlt1 : (k : Int) < (xs.length : Int) := by omega
            have hk0 : (0 : Int) ≤ (k : Int) := by omega
            obtain ⟨x, hx⟩ : ∃ x, xs[k]? = some x := ⟨_, List.getElem?_eq_getElem hlt⟩
            obtain ⟨z, hz⟩ : ∃ z, zs[k]? = some z := ⟨_, List.getElem?_eq_getElem (by omega)⟩
            obtain ⟨zi, zk, zl, zo, zs', za, zn, zc⟩ := z
            have hr := HL7.out.read.2 k x _ hx hz
            obtain rfl : zn = x.p.length := hr.n
            have HPT := Lib.hid hr.pts
            have HTK : Hid (xs.take (k + 1) = xs.take k ++ [x]) := Lib.hid (by rw [List.take_add_one, hx]; rfl)
            have HPL : Hid (x.p.length ≤ 64) := Lib.hid (HIG.out x (List.mem_of_getElem? hx)).p.1
            obtain ⟨a, rfl, _, _, _, _, _, _, g5⟩ := iv_at HL7.out.at_ hz
            simp only at g5
            clear hx hz hr
            go_wp2_with fail
            go_loopw [15] (fun i wr2 => wr2 = wr ∧ ∃ m : Nat, m ≤ x.p.length ∧ i = .int .i64 (m : Int) ∧ (∀ y ∈ x.p.take m, y.a < 300)) (fun i _ => ((x.p.length : Int) - intOf i).toNat)
            case atStart => exact ⟨rfl, 0, by omega, rfl, by simp⟩
            case round =>
              obtain ⟨rfl, m, hm, rfl, hsp⟩ := hrel
              have HSP := Lib.hid hsp
              have hpl := HPL.out
              clear hsp
              by_cases hlm : m < x.p.length
              · have hlm1 : (m : Int) < (x.p.length : Int) := by omega
                have hm0 : (0 : Int) ≤ (m : Int) := by omega
                obtain ⟨y, hy⟩ : ∃ y, x.p[m]? = some y := ⟨_, List.getElem?_eq_getElem hlm⟩
                obtain ⟨ap, rfl, _, d0, d1, d2, d3⟩ := HPT.out m y hy
                have HTM : Hid (x.p.take (m + 1) = x.p.take m ++ [y]) := Lib.hid (by rw [List.take_add_one, hy]; rfl)
                clear hy
                by_cases hb : 300 ≤ y.a
                · go_wp2_with (go_at_call 6; refine (wakes_any _ (HF.out.keep HB7.out)).mono ?_; rintro e w9 ⟨rfl, hb9⟩; have HB9 := Lib.hid (bstep HB7.out hb9); clear hb9)
                  try simp only [Exit.inBlock, Exit.then]
                  go_ret
                  exact ⟨rfl, HB9.out⟩
                · have hb1 : decide (300 ≤ y.a) = false := decide_eq_false hb
                  have HS2 : Hid (∀ z ∈ x.p.take m ++ [y], z.a < 300) := Lib.hid fun z hz => by
                    rcases List.mem_append.1 hz with hz | hz
                    · exact HSP.out z hz
                    · rw [List.mem_singleton.1 hz]; omega
                  clear hb
                  go_wp2_with fail
                  exact ⟨⟨trivial, m + 1, by omega, by simp, by rw [HTM.out]; exact HS2.out⟩, by simp [intOf]; omega⟩
              · obtain rfl : m = x.p.length := by omega
                have HS2 : Hid (∀ q ∈ xs.take k ++ [x], ∀ y ∈ q.p, y.a < 300) := Lib.hid fun q hq => by
                  rcases List.mem_append.1 hq with hq | hq
                  · exact HSM.out q hq
                  · rw [List.mem_singleton.1 hq]; have := HSP.out; rwa [List.take_length] at this
                go_wp2_with fail
                exact ⟨⟨trivial, k + 1, by omega, by simp, by rw [HTK.out]; exact HS2.out⟩, by simp [intOf]; omega⟩

          · obtain rfl : k = xs.length := by omega
            rw [List.take_length] at HSM
            have HT7 : Hid (TIs wr tb mb xs nx) := Lib.hid (HT.out.grow HBEL.out)
            have HLB : Hid (tb < b ∧ mb < b ∧ W.heap.size ≤ b) := Lib.hid (by
              have e := HBE.out
              have e1 := HT.out.lt
              have e2 := HB3.out.size
              omega)
            have HRS : Hid (RSt W tb mb b nx nb xs D wr) := Lib.hid ⟨HT7.out, HM.out, HB7.out, by have := HLB.out; omega, by have := HLB.out; omega, HMBN.out, HLB.out.2.2⟩
            clear HT7 HM HL7 HL HQ hzl HIG hxl
            obtain ⟨eg, hmin, heg⟩ : ∃ eg : Int, min bl 300 = eg ∧ eg ≤ 300 := ⟨_, rfl, by omega⟩
            have HEG := Lib.hid heg
            clear heg
            go_wp2_with fail
            clear hmin hq1
            go_loopw [17, 18] (fun ta rd wr => ∃ (r : Nat) (tt : Int) (L : List Ino) (D : List Tx) (nb : Nat), r ≤ 60 ∧ tt = 300 + (r : Int) ∧ ta = .int .i64 tt ∧ rd = .int .i64 (r : Int) ∧ Has D 400 ∧ (∀ x ∈ L, ∀ y ∈ x.p, y.a < tt) ∧ RSt W tb mb b nx nb L D wr) (fun _ rd _ => ((60 : Int) - intOf rd).toNat)
            case atStart => exact ⟨0, 300, xs, D, nb, by omega, by simp, rfl, rfl, HH4.out, HSM.out, HRS.out⟩
            case round =>
              clear HRS HSM HH4 HBEL HB7 HXL
              obtain ⟨r, tt, L, D1, nb1, hr, htt, rfl, rfl, hhas, hla, hrs⟩ := hrel
              have HTT := Lib.hid htt
              have HHA := Lib.hid hhas
              have HLA := Lib.hid hla
              have HRS := Lib.hid hrs
              clear htt hhas hla hrs
              by_cases hlt : r < 60
              · have hlt1 : (r : Int) < 60 := by omega
                obtain ⟨i, l, hw⟩ : ∃ i l, wantA eg L = (i, l) := ⟨_, _, rfl⟩
                have HWA := Lib.hid hw
                clear hw
                go_wp2_with fail
                refine (want_is HWA.out _ HRS.out.ti).mono ?_
                rintro e w8 ⟨o8, c8, rfl, hp8, hb8⟩
                have HP8 := Lib.hid hp8
                have HS8 := Lib.hid (HRS.out.grow hb8)
                clear hp8 hb8
                by_cases hne : l = []
                · subst hne
                  have hl0 : ((([] : List Pt).length : Nat) : Int) = 0 := rfl
                  go_wp2_with (go_at_call 6; refine (wakes_any _ (HF.out.keep HS8.out.bw)).mono ?_; rintro e w9 ⟨rfl, hb9⟩; have HB9 := Lib.hid (bstep HS8.out.bw hb9); clear hb9)
                  try simp only [Exit.inBlock, Exit.then]
                  go_ret
                  exact ⟨rfl, HB9.out⟩
                · obtain ⟨x, hfx⟩ := found HS8.out.ti.good HWA.out hne
                  have HFX := Lib.hid hfx
                  have hl1 : ((l.length : Int) == 0) = false := by rw [beq_eq_false_iff_ne]; have := List.length_pos_iff.2 hne; omega
                  have HNE := Lib.hid hne
                  clear hfx hne
                  go_wp2_with fail
                  refine (parts_is HFX.out.num HFX.out.parts _ HS8.out.ti).mono ?_
                  rintro e w9 ⟨o9, c9, rfl, hp9, hb9⟩
                  have HP9 := Lib.hid hp9
                  have HL9 := Lib.hid (HP8.out.grow hb9)
                  have HS9 := Lib.hid (HS8.out.grow hb9)
                  have hw1 : IntKind.i64.wrap (1 + (r : Int)) = 1 + (r : Int) := IntWalk.i64_in _ (by omega)
                  clear hp9 hb9 HP8
                  go_wp2_with fail
                  refine (build_is (by have := HEG.out; omega) HHA.out HFX.out (by omega) _ _ _ _ _ (HF.out.keep HS9.out.bw) HS9.out.tx HL9.out).mono ?_
                  rintro e w10 ⟨om, cm, rfl, hmv, hb10⟩
                  have HMV := Lib.hid hmv
                  have HS10 := Lib.hid (HS9.out.grow hb10)
                  obtain ⟨P, E, hE⟩ : ∃ P E, mvsP x.p ((mvF l).1.map toQ) tt = (P, E) := ⟨_, _, rfl⟩
                  have HE := Lib.hid hE
                  have HP10 := Lib.hid (HP9.out.grow hb10)
                  have HL10 := Lib.hid (HL9.out.grow hb10)
                  clear hmv hb10 hE HP9 HL9 HS9 HS8 hl1 hw1
                  go_wp2_with fail
                  obtain ⟨ob, hob⟩ : ∃ ob, ob = w10.heap.size := ⟨_, rfl⟩
                  have hal := below_alloc w10 (.cells #[.int .i64 1, .int .i64 (1 + (r : Int)), .int .i64 13, .string ⟨#[]⟩, .string ⟨#[]⟩, .int .i64 0, .int .i64 0, .int .i64 0, .string (datF D1 l), .int .i64 0, .int .i64 i, .slice om l.length cm] 34)
                  have hce : (w10.alloc (.cells #[.int .i64 1, .int .i64 (1 + (r : Int)), .int .i64 13, .string ⟨#[]⟩, .string ⟨#[]⟩, .int .i64 0, .int .i64 0, .int .i64 0, .string (datF D1 l), .int .i64 0, .int .i64 i, .slice om l.length cm] 34)).heap[ob]? = some (.cells #[.int .i64 1, .int .i64 (1 + (r : Int)), .int .i64 13, .string ⟨#[]⟩, .string ⟨#[]⟩, .int .i64 0, .int .i64 0, .int .i64 0, .string (datF D1 l), .int .i64 0, .int .i64 i, .slice om l.length cm] 34 (0, 0)) := by rw [hob]; exact heap_alloc_new w10 _
                  have HA := Lib.hid hal
                  have HCE := Lib.hid hce
                  rw [← hob]
                  clear hal hce hob
                  generalize w10.alloc (.cells #[.int .i64 1, .int .i64 (1 + (r : Int)), .int .i64 13, .string ⟨#[]⟩, .string ⟨#[]⟩, .int .i64 0, .int .i64 0, .int .i64 0, .string (datF D1 l), .int .i64 0, .int .i64 i, .slice om l.length cm] 34) = w11 at *
                  have HS11 := Lib.hid (HS10.out.grow HA.out)
                  have HP11 := Lib.hid (HP10.out.grow HA.out)
                  have HL11 := Lib.hid (HL10.out.grow HA.out)
                  refine (tmove_is HFX.out HE.out rfl _ _ _ HS11.out.ti (KAt.grow HMV.out HA.out)).mono ?_
                  rintro e w12 ⟨rfl, ht12, ho12⟩
                  clear HS10 HP10 HL10 HMV HA
                  by_cases hE0 : E = 0
                  · subst hE0
                    have HS12 := Lib.hid (HS11.out.move ho12 (ht12 rfl))
                    have HMB := HS11.out.ti.map
                    have hcb := ho12.heap HCE.out (by
                      intro e
                      obtain ⟨es, c, hm⟩ := ti_map HS11.out.ti
                      rw [← e, HCE.out] at hm; cases hm)
                    have HP12 := Lib.hid (MovW.pts_only HP11.out ho12 (ti_map HS11.out.ti))
                    have HL12 := Lib.hid (MovW.pts_only HL11.out ho12 (ti_map HS11.out.ti))
                    clear ht12 ho12 HS11 HP11 HL11 HCE HMB
                    obtain ⟨q0, q1, q2, q3, q4, q5, q6, q7, q8, q9, q10, q11⟩ := cells12 hcb
                    have hsp : (spaceE 0 != 0) = false := rfl
                    clear hcb
                    go_wp2_with fail
                    refine (data_is _ _).mono ?_
                    rintro e w13 ⟨rfl, hb13⟩
                    have HS13 := Lib.hid (HS12.out.grow hb13)
                    have HP13 := Lib.hid (HP12.out.grow hb13)
                    have HL13 := Lib.hid (HL12.out.grow hb13)
                    clear hb13 HS12 HP12 HL12 q0 q1 q2 q3 q4 q5 q6 q7 q8 q9 q10 q11 hsp
                    have hdl := HHA.out.dat (by have := HEG.out; omega) HFX.out
                    obtain ⟨s, hs⟩ : ∃ s, s = datF D1 l := ⟨_, rfl⟩
                    have HSD := Lib.hid hs
                    rw [← hs] at hdl ⊢
                    clear hs
                    obtain ⟨z, hz⟩ : ∃ z, z = 1024 - s.size := ⟨_, rfl⟩
                    have hz1 : IntKind.i64.wrap (1024 - (s.size : Int)) = (z : Int) := by rw [IntWalk.i64_in _ (by omega)]; omega
                    have hz2 : (0 : Int) ≤ (z : Int) := by omega
                    obtain ⟨w14, hmk, hrow, hbel14, hsz14⟩ := make_bytes (P := Tryd.prog) w13 57 5 Tryd.underlying57 (by kernel_rfl) z (by omega)
                    have hcv := conv_of_bytes (P := Tryd.prog) w14 57 9 5 w13.heap.size z z (fun _ => 0) Tryd.underlying57 Tryd.underlying5 Tryd.underlying9 hrow
                    have hzs := bytesStr_size z (fun _ => 0)
                    generalize bytesStr z (fun _ => 0) = zs at *
                    have HZS : Hid ((s ++ zs).size = 1024) := Lib.hid (by rw [ByteArray.size_append]; omega)
                    have HS14 := Lib.hid (HS13.out.grow hbel14)
                    have HP14 := Lib.hid (HP13.out.grow hbel14)
                    have HL14 := Lib.hid (HL13.out.grow hbel14)
                    clear hrow hbel14 hsz14 HS13 HP13 HL13 hz
                    have htt := HTT.out
                    have HKO : Hid (aOk tt) := Lib.hid (by unfold aOk; simp [Lit.wf, IntKind.min, IntKind.max, IntKind.signed, IntKind.bits]; omega)
                    have HTX : Hid (txt (D1 ++ [⟨tt, s ++ zs⟩]) = fun q => if q = tt then some (s ++ zs) else txt D1 q) := Lib.hid (by
                      funext q; rw [txt_snoc]
                      by_cases hq : tt = q
                      · rw [if_pos hq, if_pos hq.symm]
                      · rw [if_neg hq, if_neg (fun e => hq e.symm)])
                    have hov : ¬ 9223372036854775807 < s.size + zs.size := by have h := HZS.out; rw [ByteArray.size_append] at h; omega
                    clear hzs hdl htt
                    go_wp2_with (at_mapUpdate; go_loud (refine wpList_map_store _ rfl _ _ _ 28 9 rfl aMK Tryd.underlying28 b nb1 (txt D1) HS14.out.tx (by rfl) tt (s ++ zs) HKO.out (by rfl) (by rfl) ?_; intro w15 hm15 ho15 hs15; have HM15 := Lib.hid hm15; have HO15 : Hid (Only b w14 w15) := Lib.hid ho15; clear hm15 ho15 hs15))
                    obtain ⟨L2, hL2⟩ : ∃ L2, L2 = upd L { x with p := P } := ⟨_, rfl⟩
                    obtain ⟨D2, hD2⟩ : ∃ D2, D2 = D1 ++ [(⟨tt, s ++ zs⟩ : Tx)] := ⟨_, rfl⟩
                    have HS15 : Hid (RSt W tb mb b nx (nb1 + 1) L2 D2 w15) := Lib.hid (by rw [hL2, hD2]; exact HS14.out.put HO15.out (by rw [HTX.out]; exact HM15.out))
                    have HP15 := Lib.hid (MovW.pts_only HP14.out HO15.out (tx_map HS14.out.tx))
                    have HL15 := Lib.hid (MovW.pts_only HL14.out HO15.out (tx_map HS14.out.tx))
                    have HG : Hid (ExtW.Good P ∧ ∀ y ∈ P, y.a < tt + 1) := Lib.hid (mvs_lt HFX.out.good.p (fun y hy => HLA.out x HFX.out.mem y hy) HE.out)
                    have HH2 : Hid (Has D2 400) := Lib.hid (by rw [hD2]; exact HHA.out.put HZS.out)
                    have HLA2 : Hid (∀ q ∈ L2, ∀ y ∈ q.p, y.a < tt + 1) := Lib.hid (by rw [hL2]; exact HFX.out.lt HLA.out HG.out.2)
                    have HNOW : Hid (partsL L2 i = P) := Lib.hid (by rw [hL2]; exact HFX.out.now P)
                    have HBB : Hid (∀ j : Int, byteA D2 (ExtW.look P j) = byteA D2 (ExtW.look x.p j)) := Lib.hid fun j => by
                      rw [hD2, HSD.out]
                      exact byte_both (by have := HEG.out; omega) (by have := HTT.out; omega) HHA.out HFX.out (fun y hy => HLA.out x HFX.out.mem y hy) HE.out j
                    have HFREE : Hid (∀ (k : Nat) (n : Pt), P[k]? = some n → ∀ y ∈ l, n.a = y.a → n.f < y.f + y.n → y.f < n.f + n.n → False) := Lib.hid fun k n hn y hy h1 h2 h3 => by
                      have e1 := HFX.out.is
                      have e2 := HE.out
                      rw [e1] at hy e2
                      exact keep_free HFX.out.good.p (by have := HEG.out; have := HTT.out; omega) e2 hn hy h1 h2 h3
                    have HPG : Hid (Pages D2 P ∧ Pages D2 x.p) := Lib.hid ⟨HH2.out.pages HG.out.1 fun y hy => by have := HG.out.2 y hy; have := HTT.out; omega, HH2.out.pages HFX.out.good.p fun y hy => by have := HLA.out x HFX.out.mem y hy; have := HTT.out; omega⟩
                    have HONE : Hid (∀ y ∈ l, One y) := Lib.hid HFX.out.ones
                    have HLEN : Hid (P.length ≤ 64 ∧ x.p.length ≤ 64 ∧ l.length ≤ 16) := Lib.hid ⟨HG.out.1.1, HFX.out.good.p.1, HFX.out.few⟩
                    have HNUM : Hid (1 ≤ i ∧ i ≤ 2147483647) := Lib.hid HFX.out.num
                    clear hL2 hD2 HS14 HP14 HL14 HM15 HO15 HTX HSD HZS HKO HE HHA HLA HRS HMBN HLB hov hz1 hz2 hmk hcv
                    refine (parts_is HNUM.out HNOW.out _ HS15.out.ti).mono ?_
                    rintro e w16 ⟨o16, c16, rfl, hp16, hb16⟩
                    have HR : Hid (RR W tb mb b nx (nb1 + 1) L2 D2 o16 o9 o8 P x.p l w16) := Lib.hid ⟨HS15.out.grow hb16, hp16, HP15.out.grow hb16, HL15.out.grow hb16⟩
                    clear hp16 hb16 HS15 HP15 HL15
                    go_wp2_with fail
                    go_loopw [27] (fun u wr => ∃ k : Nat, k ≤ P.length ∧ u = .int .i64 (k : Int) ∧ RR W tb mb b nx (nb1 + 1) L2 D2 o16 o9 o8 P x.p l wr) (fun u _ => ((P.length : Int) - intOf u).toNat)
                    case atStart => exact ⟨0, by omega, rfl, HR.out⟩
                    case round =>
                      clear HR
                      obtain ⟨k, hk, rfl, hrr⟩ := hrel
                      have HR := Lib.hid hrr
                      clear hrr
                      obtain ⟨hl1, hl2, hl3⟩ := HLEN.out
                      by_cases hlk : k < P.length
                      · have hlk1 : (k : Int) < (P.length : Int) := by omega
                        have hk0 : (0 : Int) ≤ (k : Int) := by omega
                        obtain ⟨n, hn⟩ : ∃ n, P[k]? = some n := ⟨_, List.getElem?_eq_getElem hlk⟩
                        have HNO : Hid (One n) := Lib.hid (chain_ones HG.out.1.2 n (List.mem_of_getElem? hn))
                        have HNN := Lib.hid hn
                        clear hn
                        go_wp2_with fail
                        go_loopw [28] (fun u wr => ∃ j : Nat, j ≤ l.length ∧ u = .int .i64 (j : Int) ∧ RR W tb mb b nx (nb1 + 1) L2 D2 o16 o9 o8 P x.p l wr) (fun u _ => ((l.length : Int) - intOf u).toNat)
                        case atStart => exact ⟨0, by omega, rfl, HR.out⟩
                        case round =>
                          clear HR
                          obtain ⟨j, hj, rfl, hrr⟩ := hrel
                          have HR := Lib.hid hrr
                          clear hrr
                          by_cases hlj : j < l.length
                          · have hlj1 : (j : Int) < (l.length : Int) := by omega
                            have hj0 : (0 : Int) ≤ (j : Int) := by omega
                            obtain ⟨y, hy⟩ : ∃ y, l[j]? = some y := ⟨_, List.getElem?_eq_getElem hlj⟩
                            obtain ⟨a, rfl, hab, c0, c1, c2, c3⟩ := HR.out.now k n HNN.out
                            obtain ⟨a', rfl, hbb, d0, d1, d2, d3⟩ := HR.out.want j y hy
                            have hny := HFREE.out k n HNN.out y (List.mem_of_getElem? hy)
                            have hn1 := HNO.out.small
                            have hy1 := (HONE.out y (List.mem_of_getElem? hy)).small
                            have e1 : IntKind.i64.wrap (y.f + y.n) = y.f + y.n := IntWalk.i64_in _ (by omega)
                            have e2 : IntKind.i64.wrap (n.f + n.n) = n.f + n.n := IntWalk.i64_in _ (by omega)
                            have hcs : ((n.a == y.a) = false) ∨ ((n.a == y.a) = true ∧ decide (n.f < y.f + y.n) = false) ∨ ((n.a == y.a) = true ∧ decide (n.f < y.f + y.n) = true ∧ decide (y.f < n.f + n.n) = false) := by
                              by_cases h1 : n.a = y.a
                              · right
                                by_cases h2 : n.f < y.f + y.n
                                · right
                                  exact ⟨beq_iff_eq.2 h1, decide_eq_true h2, decide_eq_false fun h3 => hny h1 h2 h3⟩
                                · left; exact ⟨beq_iff_eq.2 h1, decide_eq_false h2⟩
                              · left; exact beq_eq_false_iff_ne.2 h1
                            clear hy hny

                            rcases hcs with h1 | ⟨h1, h2⟩ | ⟨h1, h2, h3⟩
                            all_goals
                              go_wp2_with fail
                              go_region
                              all_goals (go_wp2_with fail)
                              all_goals exact ⟨⟨j + 1, by omega, by simp, HR.out.grow (Below.refl _ _).drew⟩, by simp [intOf]; omega⟩

                          · obtain rfl : j = l.length := by omega
                            go_wp2_with fail
                            exact ⟨⟨k + 1, by omega, by simp, HR.out⟩, by simp [intOf]; omega⟩
                      · obtain rfl : k = P.length := by omega
                        go_wp2_with fail
                        go_loopw [29] (fun u wr => ∃ j : Nat, j ≤ 300 ∧ u = .int .i64 (j : Int) ∧ RR W tb mb b nx (nb1 + 1) L2 D2 o16 o9 o8 P x.p l wr) (fun u _ => ((300 : Int) - intOf u).toNat)
                        case atStart => exact ⟨0, by omega, rfl, HR.out⟩
                        case round =>
                          clear HR
                          obtain ⟨j, hj, rfl, hrr⟩ := hrel
                          have HR := Lib.hid hrr
                          clear hrr
                          by_cases hlj : j < 300
                          · have hlj1 : (j : Int) < 300 := by omega
                            have hj0 : (0 : Int) ≤ (j : Int) := by omega
                            obtain ⟨v, hv⟩ : ∃ v, v = byteA D2 (ExtW.look x.p j) := ⟨_, rfl⟩
                            have HV : Hid (byteA D2 (ExtW.look P j) = v ∧ byteA D2 (ExtW.look x.p j) = v) := Lib.hid ⟨by rw [hv]; exact HBB.out j, hv.symm⟩
                            clear hv
                            go_wp2_with fail
                            have hc1 := at_any o16 P.length c16 P D2 (j : Int) rfl (by omega) HPG.out.1 (by omega) b (nb1 + 1) wr HR.out.now HR.out.rs.tx
                            rw [HV.out.1] at hc1
                            refine hc1.mono ?_
                            rintro e w17 ⟨rfl, hb17⟩
                            clear hc1
                            have HR17 := Lib.hid (HR.out.grow hb17)
                            clear hb17 HR
                            go_wp2_with fail
                            have hc2 := at_any o9 x.p.length c9 x.p D2 (j : Int) rfl (by omega) HPG.out.2 (by omega) b (nb1 + 1) w17 HR17.out.was HR17.out.rs.tx
                            rw [HV.out.2] at hc2
                            refine hc2.mono ?_
                            rintro e w18 ⟨rfl, hb18⟩
                            clear hc2
                            have HR18 := Lib.hid (HR17.out.grow hb18)
                            clear hb18 HR17
                            go_wp2_with fail
                            exact ⟨⟨j + 1, by omega, by simp, HR18.out⟩, by simp [intOf]; omega⟩
                          · have hj3 : j = 300 := by omega
                            have hlj1 : decide ((j : Int) < 300) = false := decide_eq_false (by omega)
                            have htt := HTT.out
                            have hw1 : IntKind.i64.wrap (tt + 1) = tt + 1 := IntWalk.i64_in _ (by omega)
                            clear hlj htt
                            go_wp2_with fail
                            have htt := HTT.out
                            exact ⟨⟨r + 1, tt + 1, L2, D2, nb1 + 1, by omega, by simp; omega, rfl, by simp, HH2.out, HLA2.out, HR.out.rs⟩, by simp [intOf]; omega⟩
                  · have hsp : (spaceE E != 0) = true := by rw [bne_iff_ne]; exact fun h => hE0 (space_ok.1 h)
                    have HB12 : Hid (Below W.heap.size W w12) := Lib.hid (HS11.out.bw.trans (ho12.below HS11.out.l1 HS11.out.bw.size))
                    clear ht12 ho12 HS11 HP11 HL11 HCE hE0
                    go_wp2_with (go_at_call 6; refine (wakes_any _ (HF.out.keep HB12.out)).mono ?_; rintro e w13 ⟨rfl, hb13⟩; have HB13 := Lib.hid (bstep HB12.out hb13); clear hb13)
                    try simp only [Exit.inBlock, Exit.then]
                    go_ret
                    exact ⟨rfl, HB13.out⟩
              · have hlt1 : decide ((r : Int) < 60) = false := decide_eq_false (by omega)
                clear hlt
                go_wp2_with (go_at_call 6; refine (wakes_any _ (HF.out.keep HRS.out.bw)).mono ?_; rintro e w9 ⟨rfl, hb9⟩; have HB9 := Lib.hid (bstep HRS.out.bw hb9); clear hb9)
                try simp only [Exit.inBlock, Exit.then]
                go_ret
                exact ⟨rfl, HB9.out⟩
end Go.Proofs.YthnkpoagpjnopaaDoor.MovW
