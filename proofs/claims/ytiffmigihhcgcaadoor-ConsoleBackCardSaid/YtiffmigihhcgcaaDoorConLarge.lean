/- Which steps are too large to be gone through. -/
import Derived.Test.YtiffmigihhcgcaaDoorConStep
import Derived.Test.YtiffmigihhcgcaaDoorConSameH
import Derived.Test.YtiffmigihhcgcaaDoorConSameP1
import Derived.Test.YtiffmigihhcgcaaDoorOpMisc
namespace Go.Proofs.YtiffmigihhcgcaaDoor.ConW
set_option maxRecDepth 100000
set_option linter.constructorNameAsVariable false
set_option linter.unusedVariables false
open Go.RowKit ConP OpP OpW
def IsB (e : Ending) : Prop := ∃ b, e = .returned (.bool b)
def SaysS (e : Ending) (P : Prop) : Prop := ∃ b, e = .returned (.bool b) ∧ (b = false → P)
theorem opSize' : (Tryd.prog.info? 25).map (·.size) = some 12 := by kernel_rfl
theorem projSize : (Tryd.prog.info? 30).map (·.size) = some 2 := by kernel_rfl
set_option maxHeartbeats 1600000 in
theorem projLarge_any (z : Int) (pa : Option Addr) (pn pc : Nat) (w : World) (h : ChAt w pa pn) :
    Calls Tryd.prog 22 #[.agg #[.int .i64 z, .slice pa pn pc]] w fun e w' => IsB e ∧ Below w.heap.size w w' := by
  have HB1 : Hid (Below w.heap.size w (w.alloc (.cells #[.int .i64 z, .slice pa pn pc] 30))) := Lib.hid (below_alloc w _)
  have hrow := heap_alloc_new w (.cells #[.int .i64 z, .slice pa pn pc] 30)
  have c1 : (w.alloc (.cells #[.int .i64 z, .slice pa pn pc] 30)).cell? ⟨w.heap.size, 1, none⟩ = some (.slice pa pn pc) := by rw [Lib.cell_of_heap hrow]; rfl
  have HC : Hid (ChAt (w.alloc (.cells #[.int .i64 z, .slice pa pn pc] 30)) pa pn) := Lib.hid (h.keep HB1.out)
  clear h hrow
  by_cases hp : pn ≤ 50
  · have h0 : decide (50 < (pn : Int)) = false := decide_eq_false (by omega)
    have HP := Lib.hid hp
    clear hp
    go_enter Tryd.func22, Tryd.ntmps22
    go_wp2_with fail
    clear h0
    generalize w.alloc (.cells #[.int .i64 z, .slice pa pn pc] 30) = w1 at *
    obtain ⟨bb, hbb⟩ : ∃ bb, bb = w.heap.size := ⟨_, rfl⟩
    rw [← hbb] at c1 ⊢
    clear hbb
    go_loopw [3] (fun c wr => ∃ k : Nat, k ≤ pn ∧ c = .int .i64 (k : Int) ∧ wr = w1) (fun c _ => ((pn : Int) - intOf c).toNat)
    case atStart => exact ⟨0, by omega, rfl, rfl⟩
    case round =>
      obtain ⟨k, hk, rfl, rfl⟩ := hrel
      by_cases hlt : k < pn
      · have hk1 : (k : Int) < pn := by omega
        obtain ⟨a, rfl, hab, oc, l, c, hcell⟩ := HC.out k hlt
        have hk0 : ¬ (k : Int) < 0 := by omega
        have hk5 : (k : Int) < 50 := by have := HP.out; omega
        by_cases hl5 : 50 < (l : Int)
        rotate_left
        · go_wp2_with fail
          exact ⟨⟨k + 1, by omega, by simp, trivial⟩, by simp [intOf]; omega⟩
        go_wp2_with fail
        go_ret
        exact ⟨⟨_, rfl⟩, HB1.out⟩
      · have hk1 : ¬ (k : Int) < pn := by omega
        go_wp2_with fail
        go_ret
        exact ⟨⟨_, rfl⟩, HB1.out⟩
  · have h0 : 50 < (pn : Int) := by omega
    go_enter Tryd.func22, Tryd.ntmps22
    go_wp2_with fail
    go_ret
    exact ⟨⟨_, rfl⟩, HB1.out⟩
theorem cbox_op {w : World} {b : Nat} {a : Cal} {m : Value} (h : w.heap[b]? = some (.cells (cellsC a m) 27 (0, 0))) : ∀ (j : Nat) v, ([.int .i64 a.o.cl, .int .i64 a.o.sq, .int .i64 a.o.k, .string a.o.p, .string a.o.t, .int .i64 a.o.sz, .int .i64 a.o.h, .int .i64 a.o.o, .string a.o.d, .int .i64 a.o.tk, .int .i64 a.o.i, m] : List Value)[j]? = some v → w.cell? ((⟨b, 1, none⟩ : Addr).add j) = some v := by
  intro j v hv
  have hj : j < 12 := (List.getElem?_eq_some_iff.1 hv).1
  have e : (⟨b, 1, none⟩ : Addr).add j = ⟨b, 1 + j, none⟩ := by
    unfold Addr.add
    by_cases h : j = 0
    · rw [if_pos h, h]
    · rw [if_neg h]
  rw [e, Lib.cell_of_heap h, ← hv]
  have hc : j = 0 ∨ j = 1 ∨ j = 2 ∨ j = 3 ∨ j = 4 ∨ j = 5 ∨ j = 6 ∨ j = 7 ∨ j = 8 ∨ j = 9 ∨ j = 10 ∨ j = 11 := by omega
  rcases hc with rfl | rfl | rfl | rfl | rfl | rfl | rfl | rfl | rfl | rfl | rfl | rfl <;> rfl
theorem sbox_proj {w : World} {b : Nat} {s : Stp} {m c : Value} {z : Int} (h : SBox w b s m z c) : ∀ (j : Nat) v, ([.int .i64 z, c] : List Value)[j]? = some v → w.cell? ((⟨b, 22, none⟩ : Addr).add j) = some v := by
  intro j v hv
  have hj : j < 2 := (List.getElem?_eq_some_iff.1 hv).1
  have e : (⟨b, 22, none⟩ : Addr).add j = ⟨b, 22 + j, none⟩ := by
    unfold Addr.add
    by_cases h : j = 0
    · rw [if_pos h, h]
    · rw [if_neg h]
  rw [e]
  refine h.cell (22 + j) v ?_
  rw [← hv]
  have hc : j = 0 ∨ j = 1 := by omega
  rcases hc with rfl | rfl <;> rfl
set_option maxHeartbeats 1600000 in
theorem callLarge_any (a : Cal) (oa : Option Addr) (n c : Nat) (hn : n = a.o.m.length) (w : World) :
    Calls Tryd.prog 21 #[.agg (cellsC a (.slice oa n c))] w fun e w' => SaysS e (Small a.o ∧ a.p.size ≤ 2000 ∧ a.d.size ≤ 5000) ∧ Below w.heap.size w w' := by
  obtain ⟨ct, hct⟩ : ∃ ct, ct = cellsC a (.slice oa n c) := ⟨_, rfl⟩
  have HB1 : Hid (Below w.heap.size w (w.alloc (.cells ct 27))) := Lib.hid (below_alloc w _)
  have hrow : (w.alloc (.cells ct 27)).heap[w.heap.size]? = some (.cells ct 27 (0, 0)) := heap_alloc_new w _
  have HR : Hid ((w.alloc (.cells ct 27)).heap[w.heap.size]? = some (.cells (cellsC a (.slice oa n c)) 27 (0, 0))) := Lib.hid (by rw [← hct]; exact hrow)
  have HOP := Lib.hid (cbox_op HR.out)
  have c13 : (w.alloc (.cells ct 27)).cell? ⟨w.heap.size, 13, none⟩ = some (.string a.p) := by rw [Lib.cell_of_heap HR.out]; rfl
  have c17 : (w.alloc (.cells ct 27)).cell? ⟨w.heap.size, 17, none⟩ = some (.string a.d) := by rw [Lib.cell_of_heap HR.out]; rfl
  have HN := Lib.hid hn
  have HSM : Hid (largeB a.o = false → Small a.o) := Lib.hid large_not
  have HCT := Lib.hid hct
  rw [← hct]
  clear hn hrow HR hct
  go_enter Tryd.func21, Tryd.ntmps21
  go_wp2_with ((with_reducible (refine wpList_runV (some 4) (v := .agg #[.int .i64 a.o.cl, .int .i64 a.o.sq, .int .i64 a.o.k, .string a.o.p, .string a.o.t, .int .i64 a.o.sz, .int .i64 a.o.h, .int .i64 a.o.o, .string a.o.d, .int .i64 a.o.tk, .int .i64 a.o.i, .slice oa n c]) rfl rfl ?_ ?_)); (· exact run_load_part 25 (Operand.tmp 3) rfl ⟨w.heap.size, 1, none⟩ rfl _ HOP.out Tryd.underlying25 rfl opSize'))
  generalize w.alloc (.cells ct 27) = w1 at *
  obtain ⟨bb, hbb⟩ : ∃ bb, bb = w.heap.size := ⟨_, rfl⟩
  rw [← hbb] at HOP c13 c17 ⊢
  clear hbb
  refine (large_any a.o oa n c HN.out w1).mono ?_
  rintro e w2 ⟨rfl, hb2⟩
  have k13 : w2.cell? ⟨bb, 13, none⟩ = some (.string a.p) := (hb2.cell (World.block_lt_of_cell? _ _ c13)).trans c13
  have k17 : w2.cell? ⟨bb, 17, none⟩ = some (.string a.d) := (hb2.cell (World.block_lt_of_cell? _ _ c17)).trans c17
  have HB2 : Hid (Below w.heap.size w w2) := Lib.hid (bstep' HB1.out hb2)
  clear c13 c17 hb2
  generalize hlb : largeB a.o = lb at *
  have HLB := Lib.hid hlb
  clear hlb
  cases lb with
  | true =>
    go_wp2_with fail
    go_ret
    exact ⟨⟨_, rfl, fun h => by cases h⟩, HB2.out⟩
  | false =>
    by_cases h1 : 2000 < (a.p.size : Int)
    · go_wp2_with fail
      go_ret
      exact ⟨⟨_, rfl, fun h => by cases h⟩, HB2.out⟩
    · by_cases h2 : 5000 < (a.d.size : Int)
      · have h1' : decide (2000 < (a.p.size : Int)) = false := decide_eq_false h1
        go_wp2_with fail
        go_ret
        exact ⟨⟨_, rfl, fun h => by cases h⟩, HB2.out⟩
      · have h1' : decide (2000 < (a.p.size : Int)) = false := decide_eq_false h1
        have h2' : decide (5000 < (a.d.size : Int)) = false := decide_eq_false h2
        have H1 := Lib.hid h1
        have H2 := Lib.hid h2
        clear h1 h2
        go_wp2_with fail
        go_ret
        exact ⟨⟨_, rfl, fun _ => ⟨HSM.out (by first | trivial | exact HLB.out), by have := H1.out; omega, by have := H2.out; omega⟩⟩, HB2.out⟩
set_option maxHeartbeats 1600000 in
theorem large_s (s : Stp) (oa pa : Option Addr) (n cc pn pc : Nat) (hn : n = s.a.o.m.length) (z : Int) (w : World) (hch : ChAt w pa pn) :
    Calls Tryd.prog 10 #[.agg (cellsS s (.slice oa n cc) z (.slice pa pn pc))] w fun e w' => SaysS e (SmallS s) ∧ Below w.heap.size w w' := by
  obtain ⟨ct, hct⟩ : ∃ ct, ct = cellsS s (.slice oa n cc) z (.slice pa pn pc) := ⟨_, rfl⟩
  have HB1 : Hid (Below w.heap.size w (w.alloc (.cells ct 32))) := Lib.hid (below_alloc w _)
  have HR : Hid (SBox (w.alloc (.cells ct 32)) w.heap.size s (.slice oa n cc) z (.slice pa pn pc)) := Lib.hid (by
    unfold SBox
    rw [← hct]; exact heap_alloc_new w _)
  have HCP := Lib.hid (sbox_part HR.out)
  have HN := Lib.hid hn
  have HCH := Lib.hid hch
  have HCT := Lib.hid hct
  rw [← hct]
  clear hn hct hch
  go_enter Tryd.func10, Tryd.ntmps10
  go_wp2_with ((with_reducible (refine wpList_runV (some 4) (v := .agg (cellsC s.a (.slice oa n cc))) rfl rfl ?_ ?_)); (· exact run_load_part 27 (Operand.tmp 3) rfl ⟨w.heap.size, 4, none⟩ rfl _ HCP.out Tryd.underlying27 rfl callSize))
  generalize w.alloc (.cells ct 32) = w1 at *
  clear HCP
  obtain ⟨bb, hbb⟩ : ∃ bb, bb = w.heap.size := ⟨_, rfl⟩
  rw [← hbb] at HR ⊢
  clear hbb
  refine (callLarge_any s.a oa n cc HN.out w1).mono ?_
  rintro e w2 ⟨⟨lb, rfl, hsm⟩, hb2⟩
  have HSM := Lib.hid hsm
  have HPJ := Lib.hid (sbox_proj (HR.out.keep hb2))
  have HB2 : Hid (Below w.heap.size w w2) := Lib.hid (bstep' HB1.out hb2)
  clear hsm hb2
  cases lb with
  | true =>
    go_wp2_with fail
    go_ret
    exact ⟨⟨_, rfl, fun h => by cases h⟩, HB2.out⟩
  | false =>
    go_wp2_with ((with_reducible (refine wpList_runV (some 8) (v := .agg #[.int .i64 z, .slice pa pn pc]) rfl rfl ?_ ?_)); (· exact run_load_part 30 (Operand.tmp 7) rfl ⟨bb, 22, none⟩ rfl _ HPJ.out Tryd.underlying30 rfl projSize))
    refine (projLarge_any z pa pn pc w2 (HCH.out.keep HB2.out)).mono ?_
    rintro e w3 ⟨⟨b, rfl⟩, hb3⟩
    have HB3 : Hid (Below w.heap.size w w3) := Lib.hid (bstep' HB2.out hb3)
    clear hb3
    go_wp2_with fail
    go_ret
    exact ⟨⟨_, rfl, fun _ => HSM.out (by first | trivial | rfl)⟩, HB3.out⟩
end Go.Proofs.YtiffmigihhcgcaaDoor.ConW
