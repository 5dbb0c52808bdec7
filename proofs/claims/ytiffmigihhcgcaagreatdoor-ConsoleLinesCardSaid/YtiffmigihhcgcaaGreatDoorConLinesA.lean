/- Several texts in one. -/
import Derived.Test.YtiffmigihhcgcaaGreatDoorConStep
import Derived.Test.YtiffmigihhcgcaaGreatDoorConSameH
import Derived.Test.YtiffmigihhcgcaaGreatDoorConSameP1
import Derived.Test.YtiffmigihhcgcaaGreatDoorOpMisc
import Derived.Test.YtiffmigihhcgcaaGreatDoorConRCall
import Derived.Test.YtiffmigihhcgcaaGreatDoorConWakes
import Derived.Test.YtiffmigihhcgcaaGreatDoorConSame
/- Which steps are too large to be gone through. -/
namespace Go.Proofs.YtiffmigihhcgcaaGreatDoor.ConW
set_option maxRecDepth 100000
set_option linter.constructorNameAsVariable false
set_option linter.unusedVariables false
open Go.RowKit ConP OpP OpW
def IsB (e : Ending) : Prop := ∃ b, e = .returned (.bool b)
def SaysS (e : Ending) (P : Prop) : Prop := ∃ b, e = .returned (.bool b) ∧ (b = false → P)
theorem opSize' : (Tryz.prog.info? 24).map (·.size) = some 12 := by kernel_rfl
theorem projSize : (Tryz.prog.info? 29).map (·.size) = some 2 := by kernel_rfl
set_option maxHeartbeats 1600000 in
theorem projLarge_any (z : Int) (pa : Option Addr) (pn pc : Nat) (w : World) (h : ChAt w pa pn) :
    Calls Tryz.prog 9 #[.agg #[.int .i64 z, .slice pa pn pc]] w fun e w' => IsB e ∧ Below w.heap.size w w' := by
  have HB1 : Hid (Below w.heap.size w (w.alloc (.cells #[.int .i64 z, .slice pa pn pc] 29))) := Lib.hid (below_alloc w _)
  have hrow := heap_alloc_new w (.cells #[.int .i64 z, .slice pa pn pc] 29)
  have c1 : (w.alloc (.cells #[.int .i64 z, .slice pa pn pc] 29)).cell? ⟨w.heap.size, 1, none⟩ = some (.slice pa pn pc) := by rw [Lib.cell_of_heap hrow]; rfl
  have HC : Hid (ChAt (w.alloc (.cells #[.int .i64 z, .slice pa pn pc] 29)) pa pn) := Lib.hid (h.keep HB1.out)
  clear h hrow
  by_cases hp : pn ≤ 50
  · have h0 : decide (50 < (pn : Int)) = false := decide_eq_false (by omega)
    have HP := Lib.hid hp
    clear hp
    go_enter Tryz.func9, Tryz.ntmps9
    go_wp2_with fail
    clear h0
    generalize w.alloc (.cells #[.int .i64 z, .slice pa pn pc] 29) = w1 at *
    obtain ⟨bb, hbb⟩ : ∃ bb, bb = w.heap.size := ⟨_, rfl⟩
    rw [← hbb] at c1 ⊢
    clear hbb
    go_loopw [3] (fun c wr => ∃ k : Nat, k ≤ pn ∧ c = .int .i64 (k : Int) ∧ wr = w1) (fun c _ => ((pn : Int) - intOf c).toNat)
    case atStart => exact ⟨0, by omega, rfl, rfl⟩
    case round =>
      obtain ⟨k, hk, rfl, rfl⟩ := hrel
      by_cases hlt : k < pn
      · have hk1 : (k : Int) < pn := by omega
        obtain ⟨a, rfl, hab, oc, l, c, hcell⟩ := HC.out k hlt
        have hk0 : ¬ (k : Int) < 0 := by omega
        have hk5 : (k : Int) < 50 := by have := HP.out; omega
        by_cases hl5 : 50 < (l : Int)
        rotate_left
        · go_wp2_with fail
          exact ⟨⟨k + 1, by omega, by simp, trivial⟩, by simp [intOf]; omega⟩
        go_wp2_with fail
        go_ret
        exact ⟨⟨_, rfl⟩, HB1.out⟩
      · have hk1 : ¬ (k : Int) < pn := by omega
        go_wp2_with fail
        go_ret
        exact ⟨⟨_, rfl⟩, HB1.out⟩
  · have h0 : 50 < (pn : Int) := by omega
    go_enter Tryz.func9, Tryz.ntmps9
    go_wp2_with fail
    go_ret
    exact ⟨⟨_, rfl⟩, HB1.out⟩
theorem cbox_op {w : World} {b : Nat} {a : Cal} {m : Value} (h : w.heap[b]? = some (.cells (cellsC a m) 26 (0, 0))) : ∀ (j : Nat) v, ([.int .i64 a.o.cl, .int .i64 a.o.sq, .int .i64 a.o.k, .string a.o.p, .string a.o.t, .int .i64 a.o.sz, .int .i64 a.o.h, .int .i64 a.o.o, .string a.o.d, .int .i64 a.o.tk, .int .i64 a.o.i, m] : List Value)[j]? = some v → w.cell? ((⟨b, 1, none⟩ : Addr).add j) = some v := by
  intro j v hv
  have hj : j < 12 := (List.getElem?_eq_some_iff.1 hv).1
  have e : (⟨b, 1, none⟩ : Addr).add j = ⟨b, 1 + j, none⟩ := by
    unfold Addr.add
    by_cases h : j = 0
    · rw [if_pos h, h]
    · rw [if_neg h]
  rw [e, Lib.cell_of_heap h, ← hv]
  have hc : j = 0 ∨ j = 1 ∨ j = 2 ∨ j = 3 ∨ j = 4 ∨ j = 5 ∨ j = 6 ∨ j = 7 ∨ j = 8 ∨ j = 9 ∨ j = 10 ∨ j = 11 := by omega
  rcases hc with rfl | rfl | rfl | rfl | rfl | rfl | rfl | rfl | rfl | rfl | rfl | rfl <;> rfl
theorem sbox_proj {w : World} {b : Nat} {s : Stp} {m c : Value} {z : Int} (h : SBox w b s m z c) : ∀ (j : Nat) v, ([.int .i64 z, c] : List Value)[j]? = some v → w.cell? ((⟨b, 22, none⟩ : Addr).add j) = some v := by
  intro j v hv
  have hj : j < 2 := (List.getElem?_eq_some_iff.1 hv).1
  have e : (⟨b, 22, none⟩ : Addr).add j = ⟨b, 22 + j, none⟩ := by
    unfold Addr.add
    by_cases h : j = 0
    · rw [if_pos h, h]
    · rw [if_neg h]
  rw [e]
  refine h.cell (22 + j) v ?_
  rw [← hv]
  have hc : j = 0 ∨ j = 1 := by omega
  rcases hc with rfl | rfl <;> rfl
set_option maxHeartbeats 1600000 in
theorem callLarge_any (a : Cal) (oa : Option Addr) (n c : Nat) (hn : n = a.o.m.length) (w : World) :
    Calls Tryz.prog 8 #[.agg (cellsC a (.slice oa n c))] w fun e w' => SaysS e (Small a.o ∧ a.p.size ≤ 2000 ∧ a.d.size ≤ 5000) ∧ Below w.heap.size w w' := by
  obtain ⟨ct, hct⟩ : ∃ ct, ct = cellsC a (.slice oa n c) := ⟨_, rfl⟩
  have HB1 : Hid (Below w.heap.size w (w.alloc (.cells ct 26))) := Lib.hid (below_alloc w _)
  have hrow : (w.alloc (.cells ct 26)).heap[w.heap.size]? = some (.cells ct 26 (0, 0)) := heap_alloc_new w _
  have HR : Hid ((w.alloc (.cells ct 26)).heap[w.heap.size]? = some (.cells (cellsC a (.slice oa n c)) 26 (0, 0))) := Lib.hid (by rw [← hct]; exact hrow)
  have HOP := Lib.hid (cbox_op HR.out)
  have c13 : (w.alloc (.cells ct 26)).cell? ⟨w.heap.size, 13, none⟩ = some (.string a.p) := by rw [Lib.cell_of_heap HR.out]; rfl
  have c17 : (w.alloc (.cells ct 26)).cell? ⟨w.heap.size, 17, none⟩ = some (.string a.d) := by rw [Lib.cell_of_heap HR.out]; rfl
  have HN := Lib.hid hn
  have HSM : Hid (largeB a.o = false → Small a.o) := Lib.hid large_not
  have HCT := Lib.hid hct
  rw [← hct]
  clear hn hrow HR hct
  go_enter Tryz.func8, Tryz.ntmps8
  go_wp2_with ((with_reducible (refine wpList_runV (some 4) (v := .agg #[.int .i64 a.o.cl, .int .i64 a.o.sq, .int .i64 a.o.k, .string a.o.p, .string a.o.t, .int .i64 a.o.sz, .int .i64 a.o.h, .int .i64 a.o.o, .string a.o.d, .int .i64 a.o.tk, .int .i64 a.o.i, .slice oa n c]) rfl rfl ?_ ?_)); (· exact run_load_part 24 (Operand.tmp 3) rfl ⟨w.heap.size, 1, none⟩ rfl _ HOP.out Tryz.underlying24 rfl opSize'))
  generalize w.alloc (.cells ct 26) = w1 at *
  obtain ⟨bb, hbb⟩ : ∃ bb, bb = w.heap.size := ⟨_, rfl⟩
  rw [← hbb] at HOP c13 c17 ⊢
  clear hbb
  refine (large_any a.o oa n c HN.out w1).mono ?_
  rintro e w2 ⟨rfl, hb2⟩
  have k13 : w2.cell? ⟨bb, 13, none⟩ = some (.string a.p) := (hb2.cell (World.block_lt_of_cell? _ _ c13)).trans c13
  have k17 : w2.cell? ⟨bb, 17, none⟩ = some (.string a.d) := (hb2.cell (World.block_lt_of_cell? _ _ c17)).trans c17
  have HB2 : Hid (Below w.heap.size w w2) := Lib.hid (bstep' HB1.out hb2)
  clear c13 c17 hb2
  generalize hlb : largeB a.o = lb at *
  have HLB := Lib.hid hlb
  clear hlb
  cases lb with
  | true =>
    go_wp2_with fail
    go_ret
    exact ⟨⟨_, rfl, fun h => by cases h⟩, HB2.out⟩
  | false =>
    by_cases h1 : 2000 < (a.p.size : Int)
    · go_wp2_with fail
      go_ret
      exact ⟨⟨_, rfl, fun h => by cases h⟩, HB2.out⟩
    · by_cases h2 : 5000 < (a.d.size : Int)
      · have h1' : decide (2000 < (a.p.size : Int)) = false := decide_eq_false h1
        go_wp2_with fail
        go_ret
        exact ⟨⟨_, rfl, fun h => by cases h⟩, HB2.out⟩
      · have h1' : decide (2000 < (a.p.size : Int)) = false := decide_eq_false h1
        have h2' : decide (5000 < (a.d.size : Int)) = false := decide_eq_false h2
        have H1 := Lib.hid h1
        have H2 := Lib.hid h2
        clear h1 h2
        go_wp2_with fail
        go_ret
        exact ⟨⟨_, rfl, fun _ => ⟨HSM.out (by first | trivial | exact HLB.out), by have := H1.out; omega, by have := H2.out; omega⟩⟩, HB2.out⟩
set_option maxHeartbeats 1600000 in
theorem large_s (s : Stp) (oa pa : Option Addr) (n cc pn pc : Nat) (hn : n = s.a.o.m.length) (z : Int) (w : World) (hch : ChAt w pa pn) :
    Calls Tryz.prog 4 #[.agg (cellsS s (.slice oa n cc) z (.slice pa pn pc))] w fun e w' => SaysS e (SmallS s) ∧ Below w.heap.size w w' := by
  obtain ⟨ct, hct⟩ : ∃ ct, ct = cellsS s (.slice oa n cc) z (.slice pa pn pc) := ⟨_, rfl⟩
  have HB1 : Hid (Below w.heap.size w (w.alloc (.cells ct 31))) := Lib.hid (below_alloc w _)
  have HR : Hid (SBox (w.alloc (.cells ct 31)) w.heap.size s (.slice oa n cc) z (.slice pa pn pc)) := Lib.hid (by
    unfold SBox
    rw [← hct]; exact heap_alloc_new w _)
  have HCP := Lib.hid (sbox_part HR.out)
  have HN := Lib.hid hn
  have HCH := Lib.hid hch
  have HCT := Lib.hid hct
  rw [← hct]
  clear hn hct hch
  go_enter Tryz.func4, Tryz.ntmps4
  go_wp2_with ((with_reducible (refine wpList_runV (some 4) (v := .agg (cellsC s.a (.slice oa n cc))) rfl rfl ?_ ?_)); (· exact run_load_part 26 (Operand.tmp 3) rfl ⟨w.heap.size, 4, none⟩ rfl _ HCP.out Tryz.underlying26 rfl callSize))
  generalize w.alloc (.cells ct 31) = w1 at *
  clear HCP
  obtain ⟨bb, hbb⟩ : ∃ bb, bb = w.heap.size := ⟨_, rfl⟩
  rw [← hbb] at HR ⊢
  clear hbb
  refine (callLarge_any s.a oa n cc HN.out w1).mono ?_
  rintro e w2 ⟨⟨lb, rfl, hsm⟩, hb2⟩
  have HSM := Lib.hid hsm
  have HPJ := Lib.hid (sbox_proj (HR.out.keep hb2))
  have HB2 : Hid (Below w.heap.size w w2) := Lib.hid (bstep' HB1.out hb2)
  clear hsm hb2
  cases lb with
  | true =>
    go_wp2_with fail
    go_ret
    exact ⟨⟨_, rfl, fun h => by cases h⟩, HB2.out⟩
  | false =>
    go_wp2_with ((with_reducible (refine wpList_runV (some 8) (v := .agg #[.int .i64 z, .slice pa pn pc]) rfl rfl ?_ ?_)); (· exact run_load_part 29 (Operand.tmp 7) rfl ⟨bb, 22, none⟩ rfl _ HPJ.out Tryz.underlying29 rfl projSize))
    refine (projLarge_any z pa pn pc w2 (HCH.out.keep HB2.out)).mono ?_
    rintro e w3 ⟨⟨b, rfl⟩, hb3⟩
    have HB3 : Hid (Below w.heap.size w w3) := Lib.hid (bstep' HB2.out hb3)
    clear hb3
    go_wp2_with fail
    go_ret
    exact ⟨⟨_, rfl, fun _ => HSM.out (by first | trivial | rfl)⟩, HB3.out⟩
end Go.Proofs.YtiffmigihhcgcaaGreatDoor.ConW

/- A step that came in by value: opener, and the laws' walks in the order that the rows want. -/
namespace Go.Proofs.YtiffmigihhcgcaaGreatDoor.ConW
set_option maxRecDepth 100000
set_option linter.constructorNameAsVariable false
set_option linter.unusedVariables false
open Go.RowKit Go.ChangeShapes Go.WideShapes Go.Deep ConP OpP OpW
section
variable {H : Type} {enc : TypeId × Value → H} {w : World} {base b0 : Nat} {spare : Nat → Bool} {held : Bool} {r : Reach} {v : Value} {d : DataW H} {p : List MemPlace}
theorem open_i {fuel : Nat} {u : Value} {x : DataW H × List MemPlace} (h : DataW.trod enc Tryz.prog w base spare held fuel 3 [u] = some x) : ∃ z : Int, u = .int .i64 z ∧ -9223372036854775808 ≤ z ∧ z ≤ 9223372036854775807 := by
  obtain ⟨z, e, _, hw⟩ := DataW.trod_int Tryz.underlying3 h
  exact ⟨z, by simpa using e, i64_bd' hw⟩
theorem open_i6 {fuel : Nat} {u : Value} {x : DataW H × List MemPlace} (h : DataW.trod enc Tryz.prog w base spare held fuel 2 [u] = some x) : ∃ z : Int, u = .int .i64 z ∧ -9223372036854775808 ≤ z ∧ z ≤ 9223372036854775807 := by
  obtain ⟨z, e, _, hw⟩ := DataW.trod_int Tryz.underlying2 h
  exact ⟨z, by simpa using e, i64_bd' hw⟩
theorem open_s {fuel : Nat} {u : Value} {x : DataW H × List MemPlace} (h : DataW.trod enc Tryz.prog w base spare held fuel 9 [u] = some x) : ∃ z : ByteArray, u = .string z := by
  obtain ⟨z, e, _, _⟩ := DataW.trod_string Tryz.underlying9 h
  exact ⟨z, by simpa using e⟩
theorem struct_all {P : Program} {fuel : Nat} {t : TypeId} {cs : List Value} {x : DataW H × List MemPlace} {fs : Array Field} (ht : P.underlying t = some (.struct fs)) (h : DataW.trod enc P w base spare held fuel t cs = some x) :
    ∃ n, cs.length = P.cellsOf t ∧ ∀ (i : Nat) (f : Field), fs[i]? = some f → ∃ y, DataW.trod enc P w base spare held n f.type ((cs.drop f.offset).take (P.cellsOf f.type)) = some y := by
  obtain ⟨xs, n, _, _, hl, hlen, hf⟩ := DataW.trod_struct ht h
  refine ⟨n, hl, fun i f hi => ?_⟩
  have h1 := hf i f hi
  have hil : i < xs.length := by rw [hlen]; exact (Array.getElem?_eq_some_iff.1 hi).1
  rw [List.getElem?_eq_getElem hil] at h1
  exact ⟨_, h1⟩
theorem zero_in : (-9223372036854775808 : Int) ≤ 0 ∧ (0 : Int) ≤ 9223372036854775807 := by decide
theorem open_stepv (hv : Value.okWide Tryz.prog w r b0 31 v) (h : DataW.Trod enc Tryz.prog w base spare held 31 v d p) :
    ∃ (s : Stp) (oa : Option Addr) (n cc : Nat) (z : Int) (pa : Option Addr) (pn pc : Nat) (_ : n = s.a.o.m.length) (_ : Ints s), v = .agg (cellsS s (.slice oa n cc) z (.slice pa pn pc)) ∧ MvAt w oa s.a.o.m ∧ ChAt w pa pn := by
  obtain ⟨cs, rfl, _⟩ := okWide_struct Tryz.underlying31 hv
  obtain ⟨fuel, hf⟩ := h
  obtain ⟨m, hcl, hfd⟩ := struct_all Tryz.underlying31 hf
  have k0 : Tryz.prog.cellsOf 31 = 24 := by kernel_rfl
  have k1 : Tryz.prog.cellsOf 3 = 1 := by kernel_rfl
  have k2 : Tryz.prog.cellsOf 26 = 18 := by kernel_rfl
  have k3 : Tryz.prog.cellsOf 29 = 2 := by kernel_rfl
  have k4 : Tryz.prog.cellsOf 9 = 1 := by kernel_rfl
  have k5 : Tryz.prog.cellsOf 24 = 12 := by kernel_rfl
  have k6 : Tryz.prog.cellsOf 2 = 1 := by kernel_rfl
  have k7 : Tryz.prog.cellsOf 22 = 1 := by kernel_rfl
  have k8 : Tryz.prog.cellsOf 27 = 1 := by kernel_rfl
  obtain ⟨l, rfl⟩ : ∃ l : List Value, cs = l.toArray := ⟨cs.toList, by simp⟩
  rw [k0] at hcl
  have hl : l.length = 24 := hcl
  have hls : (Value.agg l.toArray).cells.toList = l := rfl
  rw [hls] at hfd
  clear hcl hf hv hls
  match l, hl, hfd with
  | [v0, v1, v2, v3, v4, v5, v6, v7, v8, v9, v10, v11, v12, v13, v14, v15, v16, v17, v18, v19, v20, v21, v22, v23], _, hfd =>
    obtain ⟨_, g0⟩ := hfd 0 _ rfl
    obtain ⟨_, g1⟩ := hfd 1 _ rfl
    obtain ⟨_, g2⟩ := hfd 2 _ rfl
    obtain ⟨_, g3⟩ := hfd 3 _ rfl
    obtain ⟨_, g4⟩ := hfd 4 _ rfl
    obtain ⟨_, g5⟩ := hfd 5 _ rfl
    simp [k1, k2, k3] at g0 g1 g2 g3 g4 g5
    obtain ⟨mc, _, hc⟩ := struct_all Tryz.underlying26 g4
    obtain ⟨_, c0⟩ := hc 0 _ rfl
    obtain ⟨_, c1⟩ := hc 1 _ rfl
    obtain ⟨_, c2⟩ := hc 2 _ rfl
    obtain ⟨_, c3⟩ := hc 3 _ rfl
    obtain ⟨_, c4⟩ := hc 4 _ rfl
    obtain ⟨_, c5⟩ := hc 5 _ rfl
    obtain ⟨_, c6⟩ := hc 6 _ rfl
    simp [k1, k4, k5] at c0 c1 c2 c3 c4 c5 c6
    obtain ⟨mo, _, ho⟩ := struct_all Tryz.underlying24 c1
    obtain ⟨_, o0⟩ := ho 0 _ rfl
    obtain ⟨_, o1⟩ := ho 1 _ rfl
    obtain ⟨_, o2⟩ := ho 2 _ rfl
    obtain ⟨_, o3⟩ := ho 3 _ rfl
    obtain ⟨_, o4⟩ := ho 4 _ rfl
    obtain ⟨_, o5⟩ := ho 5 _ rfl
    obtain ⟨_, o6⟩ := ho 6 _ rfl
    obtain ⟨_, o7⟩ := ho 7 _ rfl
    obtain ⟨_, o8⟩ := ho 8 _ rfl
    obtain ⟨_, o9⟩ := ho 9 _ rfl
    obtain ⟨_, o10⟩ := ho 10 _ rfl
    obtain ⟨_, o11⟩ := ho 11 _ rfl
    simp [k1, k4, k6, k7] at o0 o1 o2 o3 o4 o5 o6 o7 o8 o9 o10 o11
    obtain ⟨mp, _, hp⟩ := struct_all Tryz.underlying29 g5
    obtain ⟨_, p0⟩ := hp 0 _ rfl
    obtain ⟨_, p1⟩ := hp 1 _ rfl
    simp [k1, k8] at p0 p1
    obtain ⟨sk, rfl, ska, skb⟩ := open_i g0
    obtain ⟨sc, rfl, sca, scb⟩ := open_i g1
    obtain ⟨sn, rfl, sna, snb⟩ := open_i g2
    obtain ⟨sf, rfl, sfa, sfb⟩ := open_i g3
    obtain ⟨ak, rfl, aka, akb⟩ := open_i c0
    obtain ⟨ocl, rfl, ocla, oclb⟩ := open_i o0
    obtain ⟨osq, rfl, osqa, osqb⟩ := open_i o1
    obtain ⟨okk, rfl, okka, okkb⟩ := open_i o2
    obtain ⟨opp, rfl⟩ := open_s o3
    obtain ⟨ott, rfl⟩ := open_s o4
    obtain ⟨osz, rfl, osza, oszb⟩ := open_i o5
    obtain ⟨ohh, rfl, ohha, ohhb⟩ := open_i o6
    obtain ⟨ooo, rfl, oooa, ooob⟩ := open_i o7
    obtain ⟨odd, rfl⟩ := open_s o8
    obtain ⟨otk, rfl, otka, otkb⟩ := open_i6 o9
    obtain ⟨oii, rfl, oiia, oiib⟩ := open_i o10
    obtain ⟨oa, mv, cap, rfl, _, hm⟩ := open_moves o11
    obtain ⟨ap, rfl⟩ := open_s c2
    obtain ⟨ah, rfl, aha, ahb⟩ := open_i c3
    obtain ⟨af, rfl, afa, afb⟩ := open_i c4
    obtain ⟨asz, rfl, asza, aszb⟩ := open_i c5
    obtain ⟨ad, rfl⟩ := open_s c6
    obtain ⟨zz, rfl, zza, zzb⟩ := open_i p0
    obtain ⟨pa, pn, pc, rfl, hch⟩ := open_chains p1
    refine ⟨⟨sk, sc, sn, sf, ⟨ak, ⟨ocl, osq, okk, opp, ott, osz, ohh, ooo, odd, otk, oii, mv⟩, ap, ah, af, asz, ad⟩⟩, oa, mv.length, cap, zz, pa, pn, pc, rfl, ?_, rfl, hm, hch⟩
    intro p
    cases p
    all_goals first
      | exact ⟨sca, scb⟩
      | exact ⟨sna, snb⟩
      | exact ⟨sfa, sfb⟩
      | exact ⟨osza, oszb⟩
      | exact ⟨asza, aszb⟩
      | exact ⟨ohha, ohhb⟩
      | exact ⟨aha, ahb⟩
      | exact ⟨afa, afb⟩
      | exact zero_in
end
end Go.Proofs.YtiffmigihhcgcaaGreatDoor.ConW

/- The document's Line. -/
namespace Go.Proofs.YtiffmigihhcgcaaGreatDoor.ConW
set_option maxRecDepth 100000
set_option linter.constructorNameAsVariable false
set_option linter.unusedVariables false
open Go.RowKit ConP OpP OpW
theorem rcall_len {s : Stp} (h : SmallS s) (hi : Ints s) : (rcall s).length ≤ 40000 := by
  unfold rcall
  split
  · rename_i x hx
    have hm := List.mem_of_find?_eq_some hx
    have h1 := rfs_len x hm
    have h4 := tail_len 10001 (x.ps.map (getW s)) (by
      intro a ha
      obtain ⟨p, _, rfl⟩ := List.mem_map.1 ha
      exact getW_len h hi p)
    have e : (x.ps.map (getW s)).length ≤ 3 := by unfold ConP.Fr.ps; rw [List.length_map, List.length_map]; exact h1.1
    have h6 : (x.ps.map (getW s)).length * (10001 + 1) ≤ 3 * (10001 + 1) := Nat.mul_le_mul_right _ e
    rw [List.length_append]
    omega
  · simp
theorem rtext_len {s : Stp} (h : SmallS s) (hi : Ints s) : (rtext s).length ≤ 1000000 := by
  have h1 := rcall_len h hi
  have c1 := Lib.itoa_length_le _ (hi .cl).1 (hi .cl).2
  have c2 := Lib.itoa_length_le _ (hi .nn).1 (hi .nn).2
  have c3 := Lib.itoa_length_le _ (hi .fa).1 (hi .fa).2
  simp only [getN] at c1 c2 c3
  unfold rtext
  repeat' split
  all_goals
    simp only [List.length_cons, List.length_append, List.length_nil]
    omega
theorem lineR_is (s : Stp) (z : Bool) : lineR s z = if saysB (rtext s) s z then .tuple #[.string (bs (rtext s)), .int .i64 0] else .tuple #[.string ⟨#[]⟩, .int .i64 11] := by
  unfold lineR
  rw [line_is]
  unfold rline
  cases saysB (rtext s) s z <;> rfl
set_option maxHeartbeats 12800000 in
theorem RLine_any (s : Stp) (oa : Option Addr) (n cc : Nat) (z : Int) (pa : Option Addr) (pn pc : Nat) (hn : n = s.a.o.m.length) (hsm : SmallS s) (hi : Ints s) (w : World) (hv : PV w) (hm : MvAt w oa s.a.o.m) :
    Calls Tryz.prog 7 #[.agg (cellsS s (.slice oa n cc) z (.slice pa pn pc))] w fun e w' => e = .returned (lineR s ((0 : Int) == z && 0 == pn)) ∧ Below w.heap.size w w' := by
  have HSM := Lib.hid hsm
  have HI := Lib.hid hi
  have HN := Lib.hid hn
  have HMV := Lib.hid hm
  have HV := Lib.hid hv
  obtain ⟨ss, hss⟩ : ∃ ss, ss = cellsS s (.slice oa n cc) z (.slice pa pn pc) := ⟨_, rfl⟩
  have HSS := Lib.hid hss
  have S2 : Hid ((Tryz.prog.info? 31).map (·.size) = some ss.size) := Lib.hid (by rw [hss]; exact stepSize)
  have HB1 := Lib.hid (below_alloc w (.cells ss 31))
  have HSB : Hid ((w.alloc (.cells ss 31)).heap[w.heap.size]? = some (.cells ss 31 (0, 0))) := Lib.hid (heap_alloc_new _ _)
  have HBX : Hid (SBox (w.alloc (.cells ss 31)) w.heap.size s (.slice oa n cc) z (.slice pa pn pc)) := Lib.hid (by unfold SBox; rw [← hss]; exact HSB.out)
  have s0 : (w.alloc (.cells ss 31)).cell? ⟨w.heap.size, 0, none⟩ = some (.int .i64 s.k) := HBX.out.cell 0 _ rfl
  rw [← hss]
  have HSLT : Hid (w.heap.size < (w.alloc (.cells ss 31)).heap.size) := Lib.hid (lt_of_block HSB.out)
  obtain ⟨w1, hw1⟩ : ∃ w1, w.alloc (.cells ss 31) = w1 := ⟨_, rfl⟩
  rw [hw1] at HB1 HSB HBX s0 HSLT
  obtain ⟨sb, hsb⟩ : ∃ sb, w.heap.size = sb := ⟨_, rfl⟩
  have HSW : Hid (w.heap.size ≤ sb) := Lib.hid (by omega)
  rw [hsb] at HSB HBX s0 HSLT
  clear hsm hi hn hm hv hss
  have HSY : ∀ u, Below w1.heap.size w1 u → u.heap[sb]? = some (.cells ss 31 (0, 0)) := fun u hu => (hu.block _ HSLT.out).trans HSB.out
  go_enter Tryz.func7, Tryz.ntmps7
  have hkk : s.k = 1 ∨ s.k = 2 ∨ s.k = 3 ∨ s.k = 4 ∨ s.k = 5 ∨ s.k = 6 ∨ s.k = 7 ∨ s.k = 8 ∨ s.k = 10 ∨ (s.k ≠ 1 ∧ s.k ≠ 2 ∧ s.k ≠ 3 ∧ s.k ≠ 4 ∧ s.k ≠ 5 ∧ s.k ≠ 6 ∧ s.k ≠ 7 ∧ s.k ≠ 8 ∧ s.k ≠ 10) := by omega
  rcases hkk with hk | hk | hk | hk | hk | hk | hk | hk | hk | ⟨h1, h2, h3, h4, h5, h6, h7, h8, h10⟩
  · have s1 : w1.cell? ⟨sb, 1, none⟩ = some (.int .i64 s.c) := HBX.out.cell 1 _ rfl
    rw [hk] at s0
    have hdl : (bs (Lib.itoa s.c)).size ≤ 21 := by rw [bs_size]; exact Lib.itoa_length_le _ (HI.out .cl).1 (HI.out .cl).2
    obtain ⟨V, hV⟩ : ∃ V, V = bs (Lib.itoa s.c) := ⟨_, rfl⟩
    have HV2 := Lib.hid hV
    have hcl : (bs (rcall s)).size ≤ 40000 := by rw [bs_size]; exact rcall_len HSM.out HI.out
    obtain ⟨U, hU⟩ : ∃ U, U = bs (rcall s) := ⟨_, rfl⟩
    have HU2 := Lib.hid hU
    rw [← hV] at hdl
    rw [← hU] at hcl
    have v1 : ¬ 9223372036854775807 < 2 + V.size := by omega
    have v2 : ¬ 9223372036854775807 < 2 + V.size + 1 := by omega
    have v3 : ¬ 9223372036854775807 < 2 + V.size + 1 + U.size := by omega
    obtain ⟨L, hL⟩ : ∃ L, L = (⟨#[99, 32]⟩ : ByteArray) ++ V ++ (⟨#[32]⟩ : ByteArray) ++ U := ⟨_, rfl⟩
    have HL : Hid (L = bs (rtext s)) := Lib.hid (by
      rw [hL, hV, hU, show rtext s = 99 :: 32 :: (Lib.itoa s.c ++ 32 :: rcall s) from by unfold rtext; rw [hk]; rfl]
      apply ByteArray.ext
      apply Array.toList_inj.1
      simp [bs])
    have hLs := hL.symm
    clear hV hU hdl hcl hL hk
    go_wp2_with fail
    have HDC : Hid (∀ W, Below w1.heap.size w1 W → Calls Tryz.prog 14 #[.int .i64 s.c] W fun e w' => e = .returned (.string V) ∧ Below w1.heap.size w1 w') := Lib.hid (fun W hW => (Dec_any s.c (HI.out .cl).1 (HI.out .cl).2 W).mono fun e w' ⟨h1, k, h2⟩ => ⟨by rw [HV2.out]; exact h1, by rw [h2]; exact below_drewN hW k⟩)
    have HCA : Hid (∀ W, Below w1.heap.size w1 W → Calls Tryz.prog 15 #[.agg (cellsC s.a (.slice oa n cc))] W fun e w' => e = .returned (.string U) ∧ Below w1.heap.size w1 w') := Lib.hid (fun W hW => (rcall_any s oa n cc HSM.out HI.out W).mono fun e w' ⟨h1, h2⟩ => ⟨by rw [HU2.out]; exact h1, bstep' hW h2⟩)
    refine regionL 9 10 (fun W => Below w1.heap.size w1 W) (by kernel_rfl) rfl ?_
    have HSX : Hid (Below w1.heap.size w1 w1.drew) := Lib.hid (Below.refl _ _).drew
    refine takeL 0 (some 11) (v := ?_) rfl (by kernel_rfl) (by kernel_rfl) (by kernel_rfl) (by kernel_rfl) (fun _ _ _ h => h) rfl rfl HSX.out ?_ ?_
    rotate_left
    · intro wq hq
      go_simp
      with_reducible rfl
    simp only [Act.put, List.setIfInBounds_toArray, List.set_cons_zero, List.set_cons_succ]
    refine takeL 1 (some 12) (v := ?_) rfl (by kernel_rfl) (by kernel_rfl) (by kernel_rfl) (by kernel_rfl) (fun _ _ _ h => h) rfl rfl HSX.out ?_ ?_
    rotate_left
    · intro wq hq
      have g1 : wq.cell? ⟨sb, 1, none⟩ = some (.int .i64 s.c) := (HBX.out.keep hq).cell 1 _ rfl
      go_simp
      with_reducible rfl
    simp only [Act.put, List.setIfInBounds_toArray, List.set_cons_zero, List.set_cons_succ]
    refine takeL 5 (some 16) (v := ?_) rfl (by kernel_rfl) (by kernel_rfl) (by kernel_rfl) (by kernel_rfl) (fun _ _ _ h => h) rfl rfl HSX.out ?_ ?_
    rotate_left
    · intro wq hq
      go_simp
      with_reducible rfl
    simp only [Act.put, List.setIfInBounds_toArray, List.set_cons_zero, List.set_cons_succ]
    refine takeL 6 (some 17) (v := ?_) rfl (by kernel_rfl) (by kernel_rfl) (by kernel_rfl) (by kernel_rfl) (fun _ _ _ h => h) rfl rfl HSX.out ?_ ?_
    rotate_left
    · intro wq hq
      refine run_load_part 26 (Operand.tmp 16) ?_ ⟨sb, 4, none⟩ ?_ (cellsC s.a (.slice oa n cc)) (sbox_part (HBX.out.keep hq)) Tryz.underlying26 ?_ ?_
      · rfl
      · rfl
      · rfl
      · exact callSize
    simp only [Act.put, List.setIfInBounds_toArray, List.set_cons_zero, List.set_cons_succ]
    refine oneL 2 (by kernel_rfl) rfl rfl ?_
    refine wp_enters (some 13) (f := 14) (args := #[.int .i64 s.c]) rfl ?_ (.string V) (fun W => Below w1.heap.size w1 W) ?_ ?_
    · go_simp
    · exact HDC.out _ HSX.out
    intro w5 hb
    have HSX := Lib.hid hb
    clear hb
    refine ⟨fun _ => HSX.out, ?_⟩
    simp only [Act.put, List.setIfInBounds_toArray, List.set_cons_zero, List.set_cons_succ]
    refine takeL 3 (some 14) (v := ?_) rfl (by kernel_rfl) (by kernel_rfl) (by kernel_rfl) (by kernel_rfl) (fun _ _ _ h => h) rfl rfl HSX.out ?_ ?_
    rotate_left
    · intro wq hq
      go_simp
      with_reducible rfl
    simp only [Act.put, List.setIfInBounds_toArray, List.set_cons_zero, List.set_cons_succ]
    refine takeL 4 (some 15) (v := ?_) rfl (by kernel_rfl) (by kernel_rfl) (by kernel_rfl) (by kernel_rfl) (fun _ _ _ h => h) rfl rfl HSX.out ?_ ?_
    rotate_left
    · intro wq hq
      go_simp
      with_reducible rfl
    simp only [Act.put, List.setIfInBounds_toArray, List.set_cons_zero, List.set_cons_succ]
    refine oneL 7 (by kernel_rfl) rfl rfl ?_
    refine wp_enters (some 18) (f := 15) (args := #[.agg (cellsC s.a (.slice oa n cc))]) rfl ?_ (.string U) (fun W => Below w1.heap.size w1 W) ?_ ?_
    · go_simp
    · exact HCA.out _ HSX.out
    intro wt hb
    have HSX := Lib.hid hb
    clear hb
    refine ⟨fun _ => HSX.out, ?_⟩
    simp only [Act.put, List.setIfInBounds_toArray, List.set_cons_zero, List.set_cons_succ]
    refine oneL 8 (by kernel_rfl) rfl rfl ?_
    refine wp_runs (some 19) rfl (w' := wt) (v := .string L) ?_ ?_
    · go_simp
    refine ⟨fun _ => HSX.out, ?_⟩
    simp only [Act.put, List.setIfInBounds_toArray, List.set_cons_zero, List.set_cons_succ]
    refine oneL 9 (by kernel_rfl) rfl rfl ?_
    refine wp_runs (some 4) rfl (w' := wt) (v := .string L) ?_ ?_
    · go_simp
    refine ⟨fun h => absurd rfl h, ?_⟩
    simp only [Act.put, List.setIfInBounds_toArray, List.set_cons_zero, List.set_cons_succ]
    refine doneL (by kernel_rfl) ?_
    try simp only [Exit.then]
    have HBT : Hid (Below w.heap.size w wt) := Lib.hid (bstep' HB1.out HSX.out)
    go_wp2_with fail
    clear s0 s1 v1 v2 v3 hLs hw1 hsb
    have HSBT : Hid (wt.heap[sb]? = some (.cells ss 31 (0, 0))) := Lib.hid (HSY wt HSX.out)
    clear HSY HSX HDC HCA
    have HLS : Hid (L.size ≤ 1000000) := Lib.hid (by rw [HL.out, bs_size]; exact rtext_len HSM.out HI.out)
    refine (RParse_any L HLS.out wt).mono ?_
    rintro e w3 ⟨rfl, hb3⟩
    have HB3 : Hid (Below w.heap.size w w3) := Lib.hid (bstep' HBT.out hb3)
    have HS3 : Hid (w3.heap[sb]? = some (.cells ss 31 (0, 0))) := Lib.hid ((hb3.block _ (lt_of_block HSBT.out)).trans HSBT.out)
    have HLD : Hid (L.data.toList = rtext s) := Lib.hid (by rw [HL.out]; rfl)
    have HRL := Lib.hid (lineR_is s ((0 : Int) == z && 0 == pn))
    clear hb3
    rw [HLD.out]
    cases hp : parseP (wds (rtext s)) with
    | none =>
      have HRES : Hid (lineR s ((0 : Int) == z && 0 == pn) = .tuple #[.string ⟨#[]⟩, .int .i64 11]) := Lib.hid (by
        rw [HRL.out, if_neg]
        unfold saysB
        rw [hp]; exact Bool.false_ne_true)
      rw [parseR_none hp]
      have HB4 : Hid (Below w.heap.size w ((w3.alloc (.cells zeroS 31)).setRow w3.heap.size zeroS)) := Lib.hid (below_row (HB3.out.alloc HB3.out.size _) HB3.out.size _)
      clear hp
      go_wp2_with ((with_reducible (refine wpList_store_rowTo rfl 31 (Operand.tmp 5) (Operand.tmp 72) rfl rfl w3.heap.size zeroS ?_ ?_ 31 zeroS ?_ ?_ ?_ ?_ ?_)); (· rfl); (· rfl); (· exact heap_alloc_new _ _); (· exact zeroS_size); (· rfl); (· exact zeroS_one); change wpList _ _ _ _ _ ((w3.alloc (.cells zeroS 31)).setRow w3.heap.size zeroS); generalize (w3.alloc (.cells zeroS 31)).setRow w3.heap.size zeroS = w4 at *; generalize w3.heap.size = g4 at *)
      go_ret2
      exact ⟨congrArg Ending.returned HRES.out.symm, HB4.out⟩
    | some q =>
      have HQM := Lib.hid (parseP_m hp)
      have HSAY : Hid (saysB (rtext s) s ((0 : Int) == z && 0 == pn) = (sameS q s && (0 : Int) == z && 0 == pn)) := Lib.hid (by
        unfold saysB
        rw [hp]
        simp only
        rw [Bool.and_assoc])
      rw [parseR_some hp]
      clear hp
      obtain ⟨ct, hct⟩ : ∃ ct, ct = cellsS q noV 0 noV := ⟨_, rfl⟩
      have HCT := Lib.hid hct
      have C1 : Hid (ct.all (·.oneCell') = true) := Lib.hid (by rw [hct]; exact cells_one _ _)
      have C2 : Hid ((Tryz.prog.info? 31).map (·.size) = some ct.size) := Lib.hid (by rw [hct]; exact stepSize)
      have C3 : Hid (zeroS.size = ct.size) := Lib.hid (by rw [hct]; rfl)
      have HB43 : Hid (Below w3.heap.size w3 ((w3.alloc (.cells zeroS 31)).setRow w3.heap.size ct)) := Lib.hid (below_row (below_alloc _ _) (Nat.le_refl _) _)
      have HB4 : Hid (Below w.heap.size w ((w3.alloc (.cells zeroS 31)).setRow w3.heap.size ct)) := Lib.hid (bstep' HB3.out HB43.out)
      have HT4 : Hid (((w3.alloc (.cells zeroS 31)).setRow w3.heap.size ct).heap[w3.heap.size]? = some (.cells ct 31 (0, 0))) := Lib.hid (setRow_heap _ _ _ _ _ _ (heap_alloc_new _ _))
      have HS4 : Hid (((w3.alloc (.cells zeroS 31)).setRow w3.heap.size ct).heap[sb]? = some (.cells ss 31 (0, 0))) := Lib.hid ((HB43.out.block _ (lt_of_block HS3.out)).trans HS3.out)
      rw [← hct]
      clear hct
      go_wp2_with (first
        | ((with_reducible (refine wpList_store_rowTo rfl 31 (Operand.tmp 5) (Operand.tmp 72) rfl rfl w3.heap.size ct ?_ ?_ 31 zeroS ?_ ?_ ?_ ?_ ?_)); (· rfl); (· rfl); (· exact heap_alloc_new _ _); (· exact C2.out); (· exact C3.out); (· exact C1.out); change wpList _ _ _ _ _ ((w3.alloc (.cells zeroS 31)).setRow w3.heap.size ct); generalize (w3.alloc (.cells zeroS 31)).setRow w3.heap.size ct = w4 at *; generalize w3.heap.size = g4 at *)
        | ((with_reducible (refine wpList_load_rowG ?_ 31 (Operand.tmp 5) rfl g4 ?_ 31 ct (0, 0) _ ?_ Tryz.underlying31 ?_ ?_ ?_)); (· rfl); (· rfl); (· exact HT4.out); (· rfl); (· exact C2.out))
        | ((with_reducible (refine wpList_load_rowG ?_ 31 (Operand.tmp 1) rfl sb ?_ 31 ss (0, 0) _ ?_ Tryz.underlying31 ?_ ?_ ?_)); (· rfl); (· rfl); (· exact HS4.out); (· rfl); (· exact S2.out)))
      have hsa := rsame_any q s none oa none pa 0 n 0 cc 0 pn 0 pc 0 z (fun _ => rfl) (by rw [HQM.out]; rfl) HN.out (by rw [HQM.out]; simp) (by have := HSM.out.1.2.2.2; omega) w4 (mv_nil w4 HQM.out) (HMV.out.grow HB4.out)
      rw [show cellsS q (.slice none 0 0) 0 (.slice none 0 0) = ct from HCT.out.symm, ← HSS.out] at hsa
      refine hsa.mono ?_
      rintro e w5 ⟨rfl, hb5⟩
      have HB5 : Hid (Below w.heap.size w w5) := Lib.hid (bstep' HB4.out hb5)
      clear hsa hb5
      cases hv : (sameS q s && (0 : Int) == z && 0 == pn) with
      | false =>
        have HRES : Hid (lineR s ((0 : Int) == z && 0 == pn) = .tuple #[.string ⟨#[]⟩, .int .i64 11]) := Lib.hid (by
          rw [HRL.out, HSAY.out, hv]; rfl)
        clear hv
        go_wp2_with fail
        go_ret2
        exact ⟨congrArg Ending.returned HRES.out.symm, HB5.out⟩
      | true =>
        have HRES : Hid (lineR s ((0 : Int) == z && 0 == pn) = .tuple #[.string L, .int .i64 0]) := Lib.hid (by
          rw [HRL.out, HSAY.out, hv, HL.out]; rfl)
        clear hv
        go_wp2_with fail
        go_ret2
        exact ⟨congrArg Ending.returned HRES.out.symm, HB5.out⟩
  · have s1 : w1.cell? ⟨sb, 1, none⟩ = some (.int .i64 s.c) := HBX.out.cell 1 _ rfl
    have s3 : w1.cell? ⟨sb, 3, none⟩ = some (.int .i64 s.f) := HBX.out.cell 3 _ rfl
    rw [hk] at s0
    have hdl : (bs (Lib.itoa s.c)).size ≤ 21 := by rw [bs_size]; exact Lib.itoa_length_le _ (HI.out .cl).1 (HI.out .cl).2
    have hdu : (bs (Lib.itoa s.f)).size ≤ 21 := by rw [bs_size]; exact Lib.itoa_length_le _ (HI.out .fa).1 (HI.out .fa).2
    obtain ⟨V, hV⟩ : ∃ V, V = bs (Lib.itoa s.c) := ⟨_, rfl⟩
    obtain ⟨U, hU⟩ : ∃ U, U = bs (Lib.itoa s.f) := ⟨_, rfl⟩
    have HD1 : Hid (∀ W, Calls Tryz.prog 14 #[.int .i64 s.c] W fun e w' => e = .returned (.string V) ∧ ∃ k, w' = W.drewN k) := Lib.hid (fun W => by rw [hV]; exact Dec_any s.c (HI.out .cl).1 (HI.out .cl).2 W)
    have HD2 : Hid (∀ W, Calls Tryz.prog 14 #[.int .i64 s.f] W fun e w' => e = .returned (.string U) ∧ ∃ k, w' = W.drewN k) := Lib.hid (fun W => by rw [hU]; exact Dec_any s.f (HI.out .fa).1 (HI.out .fa).2 W)
    rw [← hV] at hdl
    rw [← hU] at hdu
    have v1 : ¬ 9223372036854775807 < 2 + V.size := by omega
    have v2 : ¬ 9223372036854775807 < 2 + V.size + 1 := by omega
    have v3 : ¬ 9223372036854775807 < 2 + V.size + 1 + U.size := by omega
    obtain ⟨L, hL⟩ : ∃ L, L = (⟨#[103, 32]⟩ : ByteArray) ++ V ++ (⟨#[32]⟩ : ByteArray) ++ U := ⟨_, rfl⟩
    have HL : Hid (L = bs (rtext s)) := Lib.hid (by
      rw [hL, hV, hU, show rtext s = 103 :: 32 :: (Lib.itoa s.c ++ 32 :: Lib.itoa s.f) from by unfold rtext; rw [hk]; rfl]
      apply ByteArray.ext
      apply Array.toList_inj.1
      simp [bs])
    have hLs := hL.symm
    generalize s.c = scv at *
    generalize s.f = sfv at *
    clear hV hU hdl hdu hL hk
    go_wp2_with fail
    go_quiet ((go_at_call 14; first | with_reducible exact Calls.quiet_of (HD1.out _) | exact Calls.quiet_of (HD2.out _)))
    have HBT : Hid (Below w.heap.size w (w1.drewN nq)) := Lib.hid (below_drewN HB1.out nq)
    have HSBT : Hid ((w1.drewN nq).heap[sb]? = some (.cells ss 31 (0, 0))) := Lib.hid (HSY _ (below_drewN (Below.refl _ _) nq))
    clear HSY
    generalize w1.drewN nq = wt at *
    go_wp2_with fail
    clear s0 s1 s3 v1 v2 v3 hLs hw1 hsb
    have HLS : Hid (L.size ≤ 1000000) := Lib.hid (by rw [HL.out, bs_size]; exact rtext_len HSM.out HI.out)
    refine (RParse_any L HLS.out wt).mono ?_
    rintro e w3 ⟨rfl, hb3⟩
    have HB3 : Hid (Below w.heap.size w w3) := Lib.hid (bstep' HBT.out hb3)
    have HS3 : Hid (w3.heap[sb]? = some (.cells ss 31 (0, 0))) := Lib.hid ((hb3.block _ (lt_of_block HSBT.out)).trans HSBT.out)
    have HLD : Hid (L.data.toList = rtext s) := Lib.hid (by rw [HL.out]; rfl)
    have HRL := Lib.hid (lineR_is s ((0 : Int) == z && 0 == pn))
    clear hb3
    rw [HLD.out]
    cases hp : parseP (wds (rtext s)) with
    | none =>
      have HRES : Hid (lineR s ((0 : Int) == z && 0 == pn) = .tuple #[.string ⟨#[]⟩, .int .i64 11]) := Lib.hid (by
        rw [HRL.out, if_neg]
        unfold saysB
        rw [hp]; exact Bool.false_ne_true)
      rw [parseR_none hp]
      have HB4 : Hid (Below w.heap.size w ((w3.alloc (.cells zeroS 31)).setRow w3.heap.size zeroS)) := Lib.hid (below_row (HB3.out.alloc HB3.out.size _) HB3.out.size _)
      clear hp
      go_wp2_with ((with_reducible (refine wpList_store_rowTo rfl 31 (Operand.tmp 5) (Operand.tmp 72) rfl rfl w3.heap.size zeroS ?_ ?_ 31 zeroS ?_ ?_ ?_ ?_ ?_)); (· rfl); (· rfl); (· exact heap_alloc_new _ _); (· exact zeroS_size); (· rfl); (· exact zeroS_one); change wpList _ _ _ _ _ ((w3.alloc (.cells zeroS 31)).setRow w3.heap.size zeroS); generalize (w3.alloc (.cells zeroS 31)).setRow w3.heap.size zeroS = w4 at *; generalize w3.heap.size = g4 at *)
      go_ret2
      exact ⟨congrArg Ending.returned HRES.out.symm, HB4.out⟩
    | some q =>
      have HQM := Lib.hid (parseP_m hp)
      have HSAY : Hid (saysB (rtext s) s ((0 : Int) == z && 0 == pn) = (sameS q s && (0 : Int) == z && 0 == pn)) := Lib.hid (by
        unfold saysB
        rw [hp]
        simp only
        rw [Bool.and_assoc])
      rw [parseR_some hp]
      clear hp
      obtain ⟨ct, hct⟩ : ∃ ct, ct = cellsS q noV 0 noV := ⟨_, rfl⟩
      have HCT := Lib.hid hct
      have C1 : Hid (ct.all (·.oneCell') = true) := Lib.hid (by rw [hct]; exact cells_one _ _)
      have C2 : Hid ((Tryz.prog.info? 31).map (·.size) = some ct.size) := Lib.hid (by rw [hct]; exact stepSize)
      have C3 : Hid (zeroS.size = ct.size) := Lib.hid (by rw [hct]; rfl)
      have HB43 : Hid (Below w3.heap.size w3 ((w3.alloc (.cells zeroS 31)).setRow w3.heap.size ct)) := Lib.hid (below_row (below_alloc _ _) (Nat.le_refl _) _)
      have HB4 : Hid (Below w.heap.size w ((w3.alloc (.cells zeroS 31)).setRow w3.heap.size ct)) := Lib.hid (bstep' HB3.out HB43.out)
      have HT4 : Hid (((w3.alloc (.cells zeroS 31)).setRow w3.heap.size ct).heap[w3.heap.size]? = some (.cells ct 31 (0, 0))) := Lib.hid (setRow_heap _ _ _ _ _ _ (heap_alloc_new _ _))
      have HS4 : Hid (((w3.alloc (.cells zeroS 31)).setRow w3.heap.size ct).heap[sb]? = some (.cells ss 31 (0, 0))) := Lib.hid ((HB43.out.block _ (lt_of_block HS3.out)).trans HS3.out)
      rw [← hct]
      clear hct
      go_wp2_with (first
        | ((with_reducible (refine wpList_store_rowTo rfl 31 (Operand.tmp 5) (Operand.tmp 72) rfl rfl w3.heap.size ct ?_ ?_ 31 zeroS ?_ ?_ ?_ ?_ ?_)); (· rfl); (· rfl); (· exact heap_alloc_new _ _); (· exact C2.out); (· exact C3.out); (· exact C1.out); change wpList _ _ _ _ _ ((w3.alloc (.cells zeroS 31)).setRow w3.heap.size ct); generalize (w3.alloc (.cells zeroS 31)).setRow w3.heap.size ct = w4 at *; generalize w3.heap.size = g4 at *)
        | ((with_reducible (refine wpList_load_rowG ?_ 31 (Operand.tmp 5) rfl g4 ?_ 31 ct (0, 0) _ ?_ Tryz.underlying31 ?_ ?_ ?_)); (· rfl); (· rfl); (· exact HT4.out); (· rfl); (· exact C2.out))
        | ((with_reducible (refine wpList_load_rowG ?_ 31 (Operand.tmp 1) rfl sb ?_ 31 ss (0, 0) _ ?_ Tryz.underlying31 ?_ ?_ ?_)); (· rfl); (· rfl); (· exact HS4.out); (· rfl); (· exact S2.out)))
      have hsa := rsame_any q s none oa none pa 0 n 0 cc 0 pn 0 pc 0 z (fun _ => rfl) (by rw [HQM.out]; rfl) HN.out (by rw [HQM.out]; simp) (by have := HSM.out.1.2.2.2; omega) w4 (mv_nil w4 HQM.out) (HMV.out.grow HB4.out)
      rw [show cellsS q (.slice none 0 0) 0 (.slice none 0 0) = ct from HCT.out.symm, ← HSS.out] at hsa
      refine hsa.mono ?_
      rintro e w5 ⟨rfl, hb5⟩
      have HB5 : Hid (Below w.heap.size w w5) := Lib.hid (bstep' HB4.out hb5)
      clear hsa hb5
      cases hv : (sameS q s && (0 : Int) == z && 0 == pn) with
      | false =>
        have HRES : Hid (lineR s ((0 : Int) == z && 0 == pn) = .tuple #[.string ⟨#[]⟩, .int .i64 11]) := Lib.hid (by
          rw [HRL.out, HSAY.out, hv]; rfl)
        clear hv
        go_wp2_with fail
        go_ret2
        exact ⟨congrArg Ending.returned HRES.out.symm, HB5.out⟩
      | true =>
        have HRES : Hid (lineR s ((0 : Int) == z && 0 == pn) = .tuple #[.string L, .int .i64 0]) := Lib.hid (by
          rw [HRL.out, HSAY.out, hv, HL.out]; rfl)
        clear hv
        go_wp2_with fail
        go_ret2
        exact ⟨congrArg Ending.returned HRES.out.symm, HB5.out⟩
  · have sC : w1.cell? ⟨sb, 2, none⟩ = some (.int .i64 s.n) := HBX.out.cell 2 _ rfl
    rw [hk] at s0
    have hdl : (bs (Lib.itoa s.n)).size ≤ 21 := by rw [bs_size]; exact Lib.itoa_length_le _ (HI.out .nn).1 (HI.out .nn).2
    obtain ⟨V, hV⟩ : ∃ V, V = bs (Lib.itoa s.n) := ⟨_, rfl⟩
    have HV2 := Lib.hid hV
    have v1 : ¬ 9223372036854775807 < 2 + V.size := by rw [hV]; omega
    obtain ⟨L, hL⟩ : ∃ L, L = (⟨#[104, 32]⟩ : ByteArray) ++ V := ⟨_, rfl⟩
    have HL : Hid (L = bs (rtext s)) := Lib.hid (by
      rw [hL, hV, show rtext s = 104 :: 32 :: Lib.itoa s.n from by unfold rtext; rw [hk]; rfl]
      rfl)
    have hLs := hL.symm
    clear hV hdl hL hk
    go_wp2_with fail
    refine (Dec_any s.n (HI.out .nn).1 (HI.out .nn).2 w1).mono ?_
    rintro e w9 ⟨rfl, kd, rfl⟩
    rw [show bs (Lib.itoa s.n) = V from HV2.out.symm]
    have HBT : Hid (Below w.heap.size w (w1.drewN kd)) := Lib.hid (below_drewN HB1.out kd)
    have HSBT : Hid ((w1.drewN kd).heap[sb]? = some (.cells ss 31 (0, 0))) := Lib.hid (HSY _ (below_drewN (Below.refl _ _) kd))
    clear HSY
    generalize w1.drewN kd = wt at *
    go_wp2_with fail
    clear s0 sC v1 hLs hw1 hsb
    have HLS : Hid (L.size ≤ 1000000) := Lib.hid (by rw [HL.out, bs_size]; exact rtext_len HSM.out HI.out)
    refine (RParse_any L HLS.out wt).mono ?_
    rintro e w3 ⟨rfl, hb3⟩
    have HB3 : Hid (Below w.heap.size w w3) := Lib.hid (bstep' HBT.out hb3)
    have HS3 : Hid (w3.heap[sb]? = some (.cells ss 31 (0, 0))) := Lib.hid ((hb3.block _ (lt_of_block HSBT.out)).trans HSBT.out)
    have HLD : Hid (L.data.toList = rtext s) := Lib.hid (by rw [HL.out]; rfl)
    have HRL := Lib.hid (lineR_is s ((0 : Int) == z && 0 == pn))
    clear hb3
    rw [HLD.out]
    cases hp : parseP (wds (rtext s)) with
    | none =>
      have HRES : Hid (lineR s ((0 : Int) == z && 0 == pn) = .tuple #[.string ⟨#[]⟩, .int .i64 11]) := Lib.hid (by
        rw [HRL.out, if_neg]
        unfold saysB
        rw [hp]; exact Bool.false_ne_true)
      rw [parseR_none hp]
      have HB4 : Hid (Below w.heap.size w ((w3.alloc (.cells zeroS 31)).setRow w3.heap.size zeroS)) := Lib.hid (below_row (HB3.out.alloc HB3.out.size _) HB3.out.size _)
      clear hp
      go_wp2_with ((with_reducible (refine wpList_store_rowTo rfl 31 (Operand.tmp 5) (Operand.tmp 72) rfl rfl w3.heap.size zeroS ?_ ?_ 31 zeroS ?_ ?_ ?_ ?_ ?_)); (· rfl); (· rfl); (· exact heap_alloc_new _ _); (· exact zeroS_size); (· rfl); (· exact zeroS_one); change wpList _ _ _ _ _ ((w3.alloc (.cells zeroS 31)).setRow w3.heap.size zeroS); generalize (w3.alloc (.cells zeroS 31)).setRow w3.heap.size zeroS = w4 at *; generalize w3.heap.size = g4 at *)
      go_ret2
      exact ⟨congrArg Ending.returned HRES.out.symm, HB4.out⟩
    | some q =>
      have HQM := Lib.hid (parseP_m hp)
      have HSAY : Hid (saysB (rtext s) s ((0 : Int) == z && 0 == pn) = (sameS q s && (0 : Int) == z && 0 == pn)) := Lib.hid (by
        unfold saysB
        rw [hp]
        simp only
        rw [Bool.and_assoc])
      rw [parseR_some hp]
      clear hp
      obtain ⟨ct, hct⟩ : ∃ ct, ct = cellsS q noV 0 noV := ⟨_, rfl⟩
      have HCT := Lib.hid hct
      have C1 : Hid (ct.all (·.oneCell') = true) := Lib.hid (by rw [hct]; exact cells_one _ _)
      have C2 : Hid ((Tryz.prog.info? 31).map (·.size) = some ct.size) := Lib.hid (by rw [hct]; exact stepSize)
      have C3 : Hid (zeroS.size = ct.size) := Lib.hid (by rw [hct]; rfl)
      have HB43 : Hid (Below w3.heap.size w3 ((w3.alloc (.cells zeroS 31)).setRow w3.heap.size ct)) := Lib.hid (below_row (below_alloc _ _) (Nat.le_refl _) _)
      have HB4 : Hid (Below w.heap.size w ((w3.alloc (.cells zeroS 31)).setRow w3.heap.size ct)) := Lib.hid (bstep' HB3.out HB43.out)
      have HT4 : Hid (((w3.alloc (.cells zeroS 31)).setRow w3.heap.size ct).heap[w3.heap.size]? = some (.cells ct 31 (0, 0))) := Lib.hid (setRow_heap _ _ _ _ _ _ (heap_alloc_new _ _))
      have HS4 : Hid (((w3.alloc (.cells zeroS 31)).setRow w3.heap.size ct).heap[sb]? = some (.cells ss 31 (0, 0))) := Lib.hid ((HB43.out.block _ (lt_of_block HS3.out)).trans HS3.out)
      rw [← hct]
      clear hct
      go_wp2_with (first
        | ((with_reducible (refine wpList_store_rowTo rfl 31 (Operand.tmp 5) (Operand.tmp 72) rfl rfl w3.heap.size ct ?_ ?_ 31 zeroS ?_ ?_ ?_ ?_ ?_)); (· rfl); (· rfl); (· exact heap_alloc_new _ _); (· exact C2.out); (· exact C3.out); (· exact C1.out); change wpList _ _ _ _ _ ((w3.alloc (.cells zeroS 31)).setRow w3.heap.size ct); generalize (w3.alloc (.cells zeroS 31)).setRow w3.heap.size ct = w4 at *; generalize w3.heap.size = g4 at *)
        | ((with_reducible (refine wpList_load_rowG ?_ 31 (Operand.tmp 5) rfl g4 ?_ 31 ct (0, 0) _ ?_ Tryz.underlying31 ?_ ?_ ?_)); (· rfl); (· rfl); (· exact HT4.out); (· rfl); (· exact C2.out))
        | ((with_reducible (refine wpList_load_rowG ?_ 31 (Operand.tmp 1) rfl sb ?_ 31 ss (0, 0) _ ?_ Tryz.underlying31 ?_ ?_ ?_)); (· rfl); (· rfl); (· exact HS4.out); (· rfl); (· exact S2.out)))
      have hsa := rsame_any q s none oa none pa 0 n 0 cc 0 pn 0 pc 0 z (fun _ => rfl) (by rw [HQM.out]; rfl) HN.out (by rw [HQM.out]; simp) (by have := HSM.out.1.2.2.2; omega) w4 (mv_nil w4 HQM.out) (HMV.out.grow HB4.out)
      rw [show cellsS q (.slice none 0 0) 0 (.slice none 0 0) = ct from HCT.out.symm, ← HSS.out] at hsa
      refine hsa.mono ?_
      rintro e w5 ⟨rfl, hb5⟩
      have HB5 : Hid (Below w.heap.size w w5) := Lib.hid (bstep' HB4.out hb5)
      clear hsa hb5
      cases hv : (sameS q s && (0 : Int) == z && 0 == pn) with
      | false =>
        have HRES : Hid (lineR s ((0 : Int) == z && 0 == pn) = .tuple #[.string ⟨#[]⟩, .int .i64 11]) := Lib.hid (by
          rw [HRL.out, HSAY.out, hv]; rfl)
        clear hv
        go_wp2_with fail
        go_ret2
        exact ⟨congrArg Ending.returned HRES.out.symm, HB5.out⟩
      | true =>
        have HRES : Hid (lineR s ((0 : Int) == z && 0 == pn) = .tuple #[.string L, .int .i64 0]) := Lib.hid (by
          rw [HRL.out, HSAY.out, hv, HL.out]; rfl)
        clear hv
        go_wp2_with fail
        go_ret2
        exact ⟨congrArg Ending.returned HRES.out.symm, HB5.out⟩
  · have sC : w1.cell? ⟨sb, 2, none⟩ = some (.int .i64 s.n) := HBX.out.cell 2 _ rfl
    rw [hk] at s0
    have hdl : (bs (Lib.itoa s.n)).size ≤ 21 := by rw [bs_size]; exact Lib.itoa_length_le _ (HI.out .nn).1 (HI.out .nn).2
    obtain ⟨V, hV⟩ : ∃ V, V = bs (Lib.itoa s.n) := ⟨_, rfl⟩
    have HV2 := Lib.hid hV
    have v1 : ¬ 9223372036854775807 < 2 + V.size := by rw [hV]; omega
    obtain ⟨L, hL⟩ : ∃ L, L = (⟨#[100, 32]⟩ : ByteArray) ++ V := ⟨_, rfl⟩
    have HL : Hid (L = bs (rtext s)) := Lib.hid (by
      rw [hL, hV, show rtext s = 100 :: 32 :: Lib.itoa s.n from by unfold rtext; rw [hk]; rfl]
      rfl)
    have hLs := hL.symm
    clear hV hdl hL hk
    go_wp2_with fail
    refine (Dec_any s.n (HI.out .nn).1 (HI.out .nn).2 w1).mono ?_
    rintro e w9 ⟨rfl, kd, rfl⟩
    rw [show bs (Lib.itoa s.n) = V from HV2.out.symm]
    have HBT : Hid (Below w.heap.size w (w1.drewN kd)) := Lib.hid (below_drewN HB1.out kd)
    have HSBT : Hid ((w1.drewN kd).heap[sb]? = some (.cells ss 31 (0, 0))) := Lib.hid (HSY _ (below_drewN (Below.refl _ _) kd))
    clear HSY
    generalize w1.drewN kd = wt at *
    go_wp2_with fail
    clear s0 sC v1 hLs hw1 hsb
    have HLS : Hid (L.size ≤ 1000000) := Lib.hid (by rw [HL.out, bs_size]; exact rtext_len HSM.out HI.out)
    refine (RParse_any L HLS.out wt).mono ?_
    rintro e w3 ⟨rfl, hb3⟩
    have HB3 : Hid (Below w.heap.size w w3) := Lib.hid (bstep' HBT.out hb3)
    have HS3 : Hid (w3.heap[sb]? = some (.cells ss 31 (0, 0))) := Lib.hid ((hb3.block _ (lt_of_block HSBT.out)).trans HSBT.out)
    have HLD : Hid (L.data.toList = rtext s) := Lib.hid (by rw [HL.out]; rfl)
    have HRL := Lib.hid (lineR_is s ((0 : Int) == z && 0 == pn))
    clear hb3
    rw [HLD.out]
    cases hp : parseP (wds (rtext s)) with
    | none =>
      have HRES : Hid (lineR s ((0 : Int) == z && 0 == pn) = .tuple #[.string ⟨#[]⟩, .int .i64 11]) := Lib.hid (by
        rw [HRL.out, if_neg]
        unfold saysB
        rw [hp]; exact Bool.false_ne_true)
      rw [parseR_none hp]
      have HB4 : Hid (Below w.heap.size w ((w3.alloc (.cells zeroS 31)).setRow w3.heap.size zeroS)) := Lib.hid (below_row (HB3.out.alloc HB3.out.size _) HB3.out.size _)
      clear hp
      go_wp2_with ((with_reducible (refine wpList_store_rowTo rfl 31 (Operand.tmp 5) (Operand.tmp 72) rfl rfl w3.heap.size zeroS ?_ ?_ 31 zeroS ?_ ?_ ?_ ?_ ?_)); (· rfl); (· rfl); (· exact heap_alloc_new _ _); (· exact zeroS_size); (· rfl); (· exact zeroS_one); change wpList _ _ _ _ _ ((w3.alloc (.cells zeroS 31)).setRow w3.heap.size zeroS); generalize (w3.alloc (.cells zeroS 31)).setRow w3.heap.size zeroS = w4 at *; generalize w3.heap.size = g4 at *)
      go_ret2
      exact ⟨congrArg Ending.returned HRES.out.symm, HB4.out⟩
    | some q =>
      have HQM := Lib.hid (parseP_m hp)
      have HSAY : Hid (saysB (rtext s) s ((0 : Int) == z && 0 == pn) = (sameS q s && (0 : Int) == z && 0 == pn)) := Lib.hid (by
        unfold saysB
        rw [hp]
        simp only
        rw [Bool.and_assoc])
      rw [parseR_some hp]
      clear hp
      obtain ⟨ct, hct⟩ : ∃ ct, ct = cellsS q noV 0 noV := ⟨_, rfl⟩
      have HCT := Lib.hid hct
      have C1 : Hid (ct.all (·.oneCell') = true) := Lib.hid (by rw [hct]; exact cells_one _ _)
      have C2 : Hid ((Tryz.prog.info? 31).map (·.size) = some ct.size) := Lib.hid (by rw [hct]; exact stepSize)
      have C3 : Hid (zeroS.size = ct.size) := Lib.hid (by rw [hct]; rfl)
      have HB43 : Hid (Below w3.heap.size w3 ((w3.alloc (.cells zeroS 31)).setRow w3.heap.size ct)) := Lib.hid (below_row (below_alloc _ _) (Nat.le_refl _) _)
      have HB4 : Hid (Below w.heap.size w ((w3.alloc (.cells zeroS 31)).setRow w3.heap.size ct)) := Lib.hid (bstep' HB3.out HB43.out)
      have HT4 : Hid (((w3.alloc (.cells zeroS 31)).setRow w3.heap.size ct).heap[w3.heap.size]? = some (.cells ct 31 (0, 0))) := Lib.hid (setRow_heap _ _ _ _ _ _ (heap_alloc_new _ _))
      have HS4 : Hid (((w3.alloc (.cells zeroS 31)).setRow w3.heap.size ct).heap[sb]? = some (.cells ss 31 (0, 0))) := Lib.hid ((HB43.out.block _ (lt_of_block HS3.out)).trans HS3.out)
      rw [← hct]
      clear hct
      go_wp2_with (first
        | ((with_reducible (refine wpList_store_rowTo rfl 31 (Operand.tmp 5) (Operand.tmp 72) rfl rfl w3.heap.size ct ?_ ?_ 31 zeroS ?_ ?_ ?_ ?_ ?_)); (· rfl); (· rfl); (· exact heap_alloc_new _ _); (· exact C2.out); (· exact C3.out); (· exact C1.out); change wpList _ _ _ _ _ ((w3.alloc (.cells zeroS 31)).setRow w3.heap.size ct); generalize (w3.alloc (.cells zeroS 31)).setRow w3.heap.size ct = w4 at *; generalize w3.heap.size = g4 at *)
        | ((with_reducible (refine wpList_load_rowG ?_ 31 (Operand.tmp 5) rfl g4 ?_ 31 ct (0, 0) _ ?_ Tryz.underlying31 ?_ ?_ ?_)); (· rfl); (· rfl); (· exact HT4.out); (· rfl); (· exact C2.out))
        | ((with_reducible (refine wpList_load_rowG ?_ 31 (Operand.tmp 1) rfl sb ?_ 31 ss (0, 0) _ ?_ Tryz.underlying31 ?_ ?_ ?_)); (· rfl); (· rfl); (· exact HS4.out); (· rfl); (· exact S2.out)))
      have hsa := rsame_any q s none oa none pa 0 n 0 cc 0 pn 0 pc 0 z (fun _ => rfl) (by rw [HQM.out]; rfl) HN.out (by rw [HQM.out]; simp) (by have := HSM.out.1.2.2.2; omega) w4 (mv_nil w4 HQM.out) (HMV.out.grow HB4.out)
      rw [show cellsS q (.slice none 0 0) 0 (.slice none 0 0) = ct from HCT.out.symm, ← HSS.out] at hsa
      refine hsa.mono ?_
      rintro e w5 ⟨rfl, hb5⟩
      have HB5 : Hid (Below w.heap.size w w5) := Lib.hid (bstep' HB4.out hb5)
      clear hsa hb5
      cases hv : (sameS q s && (0 : Int) == z && 0 == pn) with
      | false =>
        have HRES : Hid (lineR s ((0 : Int) == z && 0 == pn) = .tuple #[.string ⟨#[]⟩, .int .i64 11]) := Lib.hid (by
          rw [HRL.out, HSAY.out, hv]; rfl)
        clear hv
        go_wp2_with fail
        go_ret2
        exact ⟨congrArg Ending.returned HRES.out.symm, HB5.out⟩
      | true =>
        have HRES : Hid (lineR s ((0 : Int) == z && 0 == pn) = .tuple #[.string L, .int .i64 0]) := Lib.hid (by
          rw [HRL.out, HSAY.out, hv, HL.out]; rfl)
        clear hv
        go_wp2_with fail
        go_ret2
        exact ⟨congrArg Ending.returned HRES.out.symm, HB5.out⟩
  · have sC : w1.cell? ⟨sb, 2, none⟩ = some (.int .i64 s.n) := HBX.out.cell 2 _ rfl
    rw [hk] at s0
    have hdl : (bs (Lib.itoa s.n)).size ≤ 21 := by rw [bs_size]; exact Lib.itoa_length_le _ (HI.out .nn).1 (HI.out .nn).2
    obtain ⟨V, hV⟩ : ∃ V, V = bs (Lib.itoa s.n) := ⟨_, rfl⟩
    have HV2 := Lib.hid hV
    have v1 : ¬ 9223372036854775807 < 2 + V.size := by rw [hV]; omega
    obtain ⟨L, hL⟩ : ∃ L, L = (⟨#[116, 32]⟩ : ByteArray) ++ V := ⟨_, rfl⟩
    have HL : Hid (L = bs (rtext s)) := Lib.hid (by
      rw [hL, hV, show rtext s = 116 :: 32 :: Lib.itoa s.n from by unfold rtext; rw [hk]; rfl]
      rfl)
    have hLs := hL.symm
    clear hV hdl hL hk
    go_wp2_with fail
    refine (Dec_any s.n (HI.out .nn).1 (HI.out .nn).2 w1).mono ?_
    rintro e w9 ⟨rfl, kd, rfl⟩
    rw [show bs (Lib.itoa s.n) = V from HV2.out.symm]
    have HBT : Hid (Below w.heap.size w (w1.drewN kd)) := Lib.hid (below_drewN HB1.out kd)
    have HSBT : Hid ((w1.drewN kd).heap[sb]? = some (.cells ss 31 (0, 0))) := Lib.hid (HSY _ (below_drewN (Below.refl _ _) kd))
    clear HSY
    generalize w1.drewN kd = wt at *
    go_wp2_with fail
    clear s0 sC v1 hLs hw1 hsb
    have HLS : Hid (L.size ≤ 1000000) := Lib.hid (by rw [HL.out, bs_size]; exact rtext_len HSM.out HI.out)
    refine (RParse_any L HLS.out wt).mono ?_
    rintro e w3 ⟨rfl, hb3⟩
    have HB3 : Hid (Below w.heap.size w w3) := Lib.hid (bstep' HBT.out hb3)
    have HS3 : Hid (w3.heap[sb]? = some (.cells ss 31 (0, 0))) := Lib.hid ((hb3.block _ (lt_of_block HSBT.out)).trans HSBT.out)
    have HLD : Hid (L.data.toList = rtext s) := Lib.hid (by rw [HL.out]; rfl)
    have HRL := Lib.hid (lineR_is s ((0 : Int) == z && 0 == pn))
    clear hb3
    rw [HLD.out]
    cases hp : parseP (wds (rtext s)) with
    | none =>
      have HRES : Hid (lineR s ((0 : Int) == z && 0 == pn) = .tuple #[.string ⟨#[]⟩, .int .i64 11]) := Lib.hid (by
        rw [HRL.out, if_neg]
        unfold saysB
        rw [hp]; exact Bool.false_ne_true)
      rw [parseR_none hp]
      have HB4 : Hid (Below w.heap.size w ((w3.alloc (.cells zeroS 31)).setRow w3.heap.size zeroS)) := Lib.hid (below_row (HB3.out.alloc HB3.out.size _) HB3.out.size _)
      clear hp
      go_wp2_with ((with_reducible (refine wpList_store_rowTo rfl 31 (Operand.tmp 5) (Operand.tmp 72) rfl rfl w3.heap.size zeroS ?_ ?_ 31 zeroS ?_ ?_ ?_ ?_ ?_)); (· rfl); (· rfl); (· exact heap_alloc_new _ _); (· exact zeroS_size); (· rfl); (· exact zeroS_one); change wpList _ _ _ _ _ ((w3.alloc (.cells zeroS 31)).setRow w3.heap.size zeroS); generalize (w3.alloc (.cells zeroS 31)).setRow w3.heap.size zeroS = w4 at *; generalize w3.heap.size = g4 at *)
      go_ret2
      exact ⟨congrArg Ending.returned HRES.out.symm, HB4.out⟩
    | some q =>
      have HQM := Lib.hid (parseP_m hp)
      have HSAY : Hid (saysB (rtext s) s ((0 : Int) == z && 0 == pn) = (sameS q s && (0 : Int) == z && 0 == pn)) := Lib.hid (by
        unfold saysB
        rw [hp]
        simp only
        rw [Bool.and_assoc])
      rw [parseR_some hp]
      clear hp
      obtain ⟨ct, hct⟩ : ∃ ct, ct = cellsS q noV 0 noV := ⟨_, rfl⟩
      have HCT := Lib.hid hct
      have C1 : Hid (ct.all (·.oneCell') = true) := Lib.hid (by rw [hct]; exact cells_one _ _)
      have C2 : Hid ((Tryz.prog.info? 31).map (·.size) = some ct.size) := Lib.hid (by rw [hct]; exact stepSize)
      have C3 : Hid (zeroS.size = ct.size) := Lib.hid (by rw [hct]; rfl)
      have HB43 : Hid (Below w3.heap.size w3 ((w3.alloc (.cells zeroS 31)).setRow w3.heap.size ct)) := Lib.hid (below_row (below_alloc _ _) (Nat.le_refl _) _)
      have HB4 : Hid (Below w.heap.size w ((w3.alloc (.cells zeroS 31)).setRow w3.heap.size ct)) := Lib.hid (bstep' HB3.out HB43.out)
      have HT4 : Hid (((w3.alloc (.cells zeroS 31)).setRow w3.heap.size ct).heap[w3.heap.size]? = some (.cells ct 31 (0, 0))) := Lib.hid (setRow_heap _ _ _ _ _ _ (heap_alloc_new _ _))
      have HS4 : Hid (((w3.alloc (.cells zeroS 31)).setRow w3.heap.size ct).heap[sb]? = some (.cells ss 31 (0, 0))) := Lib.hid ((HB43.out.block _ (lt_of_block HS3.out)).trans HS3.out)
      rw [← hct]
      clear hct
      go_wp2_with (first
        | ((with_reducible (refine wpList_store_rowTo rfl 31 (Operand.tmp 5) (Operand.tmp 72) rfl rfl w3.heap.size ct ?_ ?_ 31 zeroS ?_ ?_ ?_ ?_ ?_)); (· rfl); (· rfl); (· exact heap_alloc_new _ _); (· exact C2.out); (· exact C3.out); (· exact C1.out); change wpList _ _ _ _ _ ((w3.alloc (.cells zeroS 31)).setRow w3.heap.size ct); generalize (w3.alloc (.cells zeroS 31)).setRow w3.heap.size ct = w4 at *; generalize w3.heap.size = g4 at *)
        | ((with_reducible (refine wpList_load_rowG ?_ 31 (Operand.tmp 5) rfl g4 ?_ 31 ct (0, 0) _ ?_ Tryz.underlying31 ?_ ?_ ?_)); (· rfl); (· rfl); (· exact HT4.out); (· rfl); (· exact C2.out))
        | ((with_reducible (refine wpList_load_rowG ?_ 31 (Operand.tmp 1) rfl sb ?_ 31 ss (0, 0) _ ?_ Tryz.underlying31 ?_ ?_ ?_)); (· rfl); (· rfl); (· exact HS4.out); (· rfl); (· exact S2.out)))
      have hsa := rsame_any q s none oa none pa 0 n 0 cc 0 pn 0 pc 0 z (fun _ => rfl) (by rw [HQM.out]; rfl) HN.out (by rw [HQM.out]; simp) (by have := HSM.out.1.2.2.2; omega) w4 (mv_nil w4 HQM.out) (HMV.out.grow HB4.out)
      rw [show cellsS q (.slice none 0 0) 0 (.slice none 0 0) = ct from HCT.out.symm, ← HSS.out] at hsa
      refine hsa.mono ?_
      rintro e w5 ⟨rfl, hb5⟩
      have HB5 : Hid (Below w.heap.size w w5) := Lib.hid (bstep' HB4.out hb5)
      clear hsa hb5
      cases hv : (sameS q s && (0 : Int) == z && 0 == pn) with
      | false =>
        have HRES : Hid (lineR s ((0 : Int) == z && 0 == pn) = .tuple #[.string ⟨#[]⟩, .int .i64 11]) := Lib.hid (by
          rw [HRL.out, HSAY.out, hv]; rfl)
        clear hv
        go_wp2_with fail
        go_ret2
        exact ⟨congrArg Ending.returned HRES.out.symm, HB5.out⟩
      | true =>
        have HRES : Hid (lineR s ((0 : Int) == z && 0 == pn) = .tuple #[.string L, .int .i64 0]) := Lib.hid (by
          rw [HRL.out, HSAY.out, hv, HL.out]; rfl)
        clear hv
        go_wp2_with fail
        go_ret2
        exact ⟨congrArg Ending.returned HRES.out.symm, HB5.out⟩
  · have sC : w1.cell? ⟨sb, 1, none⟩ = some (.int .i64 s.c) := HBX.out.cell 1 _ rfl
    rw [hk] at s0
    have hdl : (bs (Lib.itoa s.c)).size ≤ 21 := by rw [bs_size]; exact Lib.itoa_length_le _ (HI.out .cl).1 (HI.out .cl).2
    obtain ⟨V, hV⟩ : ∃ V, V = bs (Lib.itoa s.c) := ⟨_, rfl⟩
    have HV2 := Lib.hid hV
    have v1 : ¬ 9223372036854775807 < 2 + V.size := by rw [hV]; omega
    obtain ⟨L, hL⟩ : ∃ L, L = (⟨#[120, 32]⟩ : ByteArray) ++ V := ⟨_, rfl⟩
    have HL : Hid (L = bs (rtext s)) := Lib.hid (by
      rw [hL, hV, show rtext s = 120 :: 32 :: Lib.itoa s.c from by unfold rtext; rw [hk]; rfl]
      rfl)
    have hLs := hL.symm
    clear hV hdl hL hk
    go_wp2_with fail
    refine (Dec_any s.c (HI.out .cl).1 (HI.out .cl).2 w1).mono ?_
    rintro e w9 ⟨rfl, kd, rfl⟩
    rw [show bs (Lib.itoa s.c) = V from HV2.out.symm]
    have HBT : Hid (Below w.heap.size w (w1.drewN kd)) := Lib.hid (below_drewN HB1.out kd)
    have HSBT : Hid ((w1.drewN kd).heap[sb]? = some (.cells ss 31 (0, 0))) := Lib.hid (HSY _ (below_drewN (Below.refl _ _) kd))
    clear HSY
    generalize w1.drewN kd = wt at *
    go_wp2_with fail
    clear s0 sC v1 hLs hw1 hsb
    have HLS : Hid (L.size ≤ 1000000) := Lib.hid (by rw [HL.out, bs_size]; exact rtext_len HSM.out HI.out)
    refine (RParse_any L HLS.out wt).mono ?_
    rintro e w3 ⟨rfl, hb3⟩
    have HB3 : Hid (Below w.heap.size w w3) := Lib.hid (bstep' HBT.out hb3)
    have HS3 : Hid (w3.heap[sb]? = some (.cells ss 31 (0, 0))) := Lib.hid ((hb3.block _ (lt_of_block HSBT.out)).trans HSBT.out)
    have HLD : Hid (L.data.toList = rtext s) := Lib.hid (by rw [HL.out]; rfl)
    have HRL := Lib.hid (lineR_is s ((0 : Int) == z && 0 == pn))
    clear hb3
    rw [HLD.out]
    cases hp : parseP (wds (rtext s)) with
    | none =>
      have HRES : Hid (lineR s ((0 : Int) == z && 0 == pn) = .tuple #[.string ⟨#[]⟩, .int .i64 11]) := Lib.hid (by
        rw [HRL.out, if_neg]
        unfold saysB
        rw [hp]; exact Bool.false_ne_true)
      rw [parseR_none hp]
      have HB4 : Hid (Below w.heap.size w ((w3.alloc (.cells zeroS 31)).setRow w3.heap.size zeroS)) := Lib.hid (below_row (HB3.out.alloc HB3.out.size _) HB3.out.size _)
      clear hp
      go_wp2_with ((with_reducible (refine wpList_store_rowTo rfl 31 (Operand.tmp 5) (Operand.tmp 72) rfl rfl w3.heap.size zeroS ?_ ?_ 31 zeroS ?_ ?_ ?_ ?_ ?_)); (· rfl); (· rfl); (· exact heap_alloc_new _ _); (· exact zeroS_size); (· rfl); (· exact zeroS_one); change wpList _ _ _ _ _ ((w3.alloc (.cells zeroS 31)).setRow w3.heap.size zeroS); generalize (w3.alloc (.cells zeroS 31)).setRow w3.heap.size zeroS = w4 at *; generalize w3.heap.size = g4 at *)
      go_ret2
      exact ⟨congrArg Ending.returned HRES.out.symm, HB4.out⟩
    | some q =>
      have HQM := Lib.hid (parseP_m hp)
      have HSAY : Hid (saysB (rtext s) s ((0 : Int) == z && 0 == pn) = (sameS q s && (0 : Int) == z && 0 == pn)) := Lib.hid (by
        unfold saysB
        rw [hp]
        simp only
        rw [Bool.and_assoc])
      rw [parseR_some hp]
      clear hp
      obtain ⟨ct, hct⟩ : ∃ ct, ct = cellsS q noV 0 noV := ⟨_, rfl⟩
      have HCT := Lib.hid hct
      have C1 : Hid (ct.all (·.oneCell') = true) := Lib.hid (by rw [hct]; exact cells_one _ _)
      have C2 : Hid ((Tryz.prog.info? 31).map (·.size) = some ct.size) := Lib.hid (by rw [hct]; exact stepSize)
      have C3 : Hid (zeroS.size = ct.size) := Lib.hid (by rw [hct]; rfl)
      have HB43 : Hid (Below w3.heap.size w3 ((w3.alloc (.cells zeroS 31)).setRow w3.heap.size ct)) := Lib.hid (below_row (below_alloc _ _) (Nat.le_refl _) _)
      have HB4 : Hid (Below w.heap.size w ((w3.alloc (.cells zeroS 31)).setRow w3.heap.size ct)) := Lib.hid (bstep' HB3.out HB43.out)
      have HT4 : Hid (((w3.alloc (.cells zeroS 31)).setRow w3.heap.size ct).heap[w3.heap.size]? = some (.cells ct 31 (0, 0))) := Lib.hid (setRow_heap _ _ _ _ _ _ (heap_alloc_new _ _))
      have HS4 : Hid (((w3.alloc (.cells zeroS 31)).setRow w3.heap.size ct).heap[sb]? = some (.cells ss 31 (0, 0))) := Lib.hid ((HB43.out.block _ (lt_of_block HS3.out)).trans HS3.out)
      rw [← hct]
      clear hct
      go_wp2_with (first
        | ((with_reducible (refine wpList_store_rowTo rfl 31 (Operand.tmp 5) (Operand.tmp 72) rfl rfl w3.heap.size ct ?_ ?_ 31 zeroS ?_ ?_ ?_ ?_ ?_)); (· rfl); (· rfl); (· exact heap_alloc_new _ _); (· exact C2.out); (· exact C3.out); (· exact C1.out); change wpList _ _ _ _ _ ((w3.alloc (.cells zeroS 31)).setRow w3.heap.size ct); generalize (w3.alloc (.cells zeroS 31)).setRow w3.heap.size ct = w4 at *; generalize w3.heap.size = g4 at *)
        | ((with_reducible (refine wpList_load_rowG ?_ 31 (Operand.tmp 5) rfl g4 ?_ 31 ct (0, 0) _ ?_ Tryz.underlying31 ?_ ?_ ?_)); (· rfl); (· rfl); (· exact HT4.out); (· rfl); (· exact C2.out))
        | ((with_reducible (refine wpList_load_rowG ?_ 31 (Operand.tmp 1) rfl sb ?_ 31 ss (0, 0) _ ?_ Tryz.underlying31 ?_ ?_ ?_)); (· rfl); (· rfl); (· exact HS4.out); (· rfl); (· exact S2.out)))
      have hsa := rsame_any q s none oa none pa 0 n 0 cc 0 pn 0 pc 0 z (fun _ => rfl) (by rw [HQM.out]; rfl) HN.out (by rw [HQM.out]; simp) (by have := HSM.out.1.2.2.2; omega) w4 (mv_nil w4 HQM.out) (HMV.out.grow HB4.out)
      rw [show cellsS q (.slice none 0 0) 0 (.slice none 0 0) = ct from HCT.out.symm, ← HSS.out] at hsa
      refine hsa.mono ?_
      rintro e w5 ⟨rfl, hb5⟩
      have HB5 : Hid (Below w.heap.size w w5) := Lib.hid (bstep' HB4.out hb5)
      clear hsa hb5
      cases hv : (sameS q s && (0 : Int) == z && 0 == pn) with
      | false =>
        have HRES : Hid (lineR s ((0 : Int) == z && 0 == pn) = .tuple #[.string ⟨#[]⟩, .int .i64 11]) := Lib.hid (by
          rw [HRL.out, HSAY.out, hv]; rfl)
        clear hv
        go_wp2_with fail
        go_ret2
        exact ⟨congrArg Ending.returned HRES.out.symm, HB5.out⟩
      | true =>
        have HRES : Hid (lineR s ((0 : Int) == z && 0 == pn) = .tuple #[.string L, .int .i64 0]) := Lib.hid (by
          rw [HRL.out, HSAY.out, hv, HL.out]; rfl)
        clear hv
        go_wp2_with fail
        go_ret2
        exact ⟨congrArg Ending.returned HRES.out.symm, HB5.out⟩
  · have sC : w1.cell? ⟨sb, 2, none⟩ = some (.int .i64 s.n) := HBX.out.cell 2 _ rfl
    rw [hk] at s0
    have hdl : (bs (Lib.itoa s.n)).size ≤ 21 := by rw [bs_size]; exact Lib.itoa_length_le _ (HI.out .nn).1 (HI.out .nn).2
    obtain ⟨V, hV⟩ : ∃ V, V = bs (Lib.itoa s.n) := ⟨_, rfl⟩
    have HV2 := Lib.hid hV
    have v1 : ¬ 9223372036854775807 < 2 + V.size := by rw [hV]; omega
    obtain ⟨L, hL⟩ : ∃ L, L = (⟨#[117, 32]⟩ : ByteArray) ++ V := ⟨_, rfl⟩
    have HL : Hid (L = bs (rtext s)) := Lib.hid (by
      rw [hL, hV, show rtext s = 117 :: 32 :: Lib.itoa s.n from by unfold rtext; rw [hk]; rfl]
      rfl)
    have hLs := hL.symm
    clear hV hdl hL hk
    go_wp2_with fail
    refine (Dec_any s.n (HI.out .nn).1 (HI.out .nn).2 w1).mono ?_
    rintro e w9 ⟨rfl, kd, rfl⟩
    rw [show bs (Lib.itoa s.n) = V from HV2.out.symm]
    have HBT : Hid (Below w.heap.size w (w1.drewN kd)) := Lib.hid (below_drewN HB1.out kd)
    have HSBT : Hid ((w1.drewN kd).heap[sb]? = some (.cells ss 31 (0, 0))) := Lib.hid (HSY _ (below_drewN (Below.refl _ _) kd))
    clear HSY
    generalize w1.drewN kd = wt at *
    go_wp2_with fail
    clear s0 sC v1 hLs hw1 hsb
    have HLS : Hid (L.size ≤ 1000000) := Lib.hid (by rw [HL.out, bs_size]; exact rtext_len HSM.out HI.out)
    refine (RParse_any L HLS.out wt).mono ?_
    rintro e w3 ⟨rfl, hb3⟩
    have HB3 : Hid (Below w.heap.size w w3) := Lib.hid (bstep' HBT.out hb3)
    have HS3 : Hid (w3.heap[sb]? = some (.cells ss 31 (0, 0))) := Lib.hid ((hb3.block _ (lt_of_block HSBT.out)).trans HSBT.out)
    have HLD : Hid (L.data.toList = rtext s) := Lib.hid (by rw [HL.out]; rfl)
    have HRL := Lib.hid (lineR_is s ((0 : Int) == z && 0 == pn))
    clear hb3
    rw [HLD.out]
    cases hp : parseP (wds (rtext s)) with
    | none =>
      have HRES : Hid (lineR s ((0 : Int) == z && 0 == pn) = .tuple #[.string ⟨#[]⟩, .int .i64 11]) := Lib.hid (by
        rw [HRL.out, if_neg]
        unfold saysB
        rw [hp]; exact Bool.false_ne_true)
      rw [parseR_none hp]
      have HB4 : Hid (Below w.heap.size w ((w3.alloc (.cells zeroS 31)).setRow w3.heap.size zeroS)) := Lib.hid (below_row (HB3.out.alloc HB3.out.size _) HB3.out.size _)
      clear hp
      go_wp2_with ((with_reducible (refine wpList_store_rowTo rfl 31 (Operand.tmp 5) (Operand.tmp 72) rfl rfl w3.heap.size zeroS ?_ ?_ 31 zeroS ?_ ?_ ?_ ?_ ?_)); (· rfl); (· rfl); (· exact heap_alloc_new _ _); (· exact zeroS_size); (· rfl); (· exact zeroS_one); change wpList _ _ _ _ _ ((w3.alloc (.cells zeroS 31)).setRow w3.heap.size zeroS); generalize (w3.alloc (.cells zeroS 31)).setRow w3.heap.size zeroS = w4 at *; generalize w3.heap.size = g4 at *)
      go_ret2
      exact ⟨congrArg Ending.returned HRES.out.symm, HB4.out⟩
    | some q =>
      have HQM := Lib.hid (parseP_m hp)
      have HSAY : Hid (saysB (rtext s) s ((0 : Int) == z && 0 == pn) = (sameS q s && (0 : Int) == z && 0 == pn)) := Lib.hid (by
        unfold saysB
        rw [hp]
        simp only
        rw [Bool.and_assoc])
      rw [parseR_some hp]
      clear hp
      obtain ⟨ct, hct⟩ : ∃ ct, ct = cellsS q noV 0 noV := ⟨_, rfl⟩
      have HCT := Lib.hid hct
      have C1 : Hid (ct.all (·.oneCell') = true) := Lib.hid (by rw [hct]; exact cells_one _ _)
      have C2 : Hid ((Tryz.prog.info? 31).map (·.size) = some ct.size) := Lib.hid (by rw [hct]; exact stepSize)
      have C3 : Hid (zeroS.size = ct.size) := Lib.hid (by rw [hct]; rfl)
      have HB43 : Hid (Below w3.heap.size w3 ((w3.alloc (.cells zeroS 31)).setRow w3.heap.size ct)) := Lib.hid (below_row (below_alloc _ _) (Nat.le_refl _) _)
      have HB4 : Hid (Below w.heap.size w ((w3.alloc (.cells zeroS 31)).setRow w3.heap.size ct)) := Lib.hid (bstep' HB3.out HB43.out)
      have HT4 : Hid (((w3.alloc (.cells zeroS 31)).setRow w3.heap.size ct).heap[w3.heap.size]? = some (.cells ct 31 (0, 0))) := Lib.hid (setRow_heap _ _ _ _ _ _ (heap_alloc_new _ _))
      have HS4 : Hid (((w3.alloc (.cells zeroS 31)).setRow w3.heap.size ct).heap[sb]? = some (.cells ss 31 (0, 0))) := Lib.hid ((HB43.out.block _ (lt_of_block HS3.out)).trans HS3.out)
      rw [← hct]
      clear hct
      go_wp2_with (first
        | ((with_reducible (refine wpList_store_rowTo rfl 31 (Operand.tmp 5) (Operand.tmp 72) rfl rfl w3.heap.size ct ?_ ?_ 31 zeroS ?_ ?_ ?_ ?_ ?_)); (· rfl); (· rfl); (· exact heap_alloc_new _ _); (· exact C2.out); (· exact C3.out); (· exact C1.out); change wpList _ _ _ _ _ ((w3.alloc (.cells zeroS 31)).setRow w3.heap.size ct); generalize (w3.alloc (.cells zeroS 31)).setRow w3.heap.size ct = w4 at *; generalize w3.heap.size = g4 at *)
        | ((with_reducible (refine wpList_load_rowG ?_ 31 (Operand.tmp 5) rfl g4 ?_ 31 ct (0, 0) _ ?_ Tryz.underlying31 ?_ ?_ ?_)); (· rfl); (· rfl); (· exact HT4.out); (· rfl); (· exact C2.out))
        | ((with_reducible (refine wpList_load_rowG ?_ 31 (Operand.tmp 1) rfl sb ?_ 31 ss (0, 0) _ ?_ Tryz.underlying31 ?_ ?_ ?_)); (· rfl); (· rfl); (· exact HS4.out); (· rfl); (· exact S2.out)))
      have hsa := rsame_any q s none oa none pa 0 n 0 cc 0 pn 0 pc 0 z (fun _ => rfl) (by rw [HQM.out]; rfl) HN.out (by rw [HQM.out]; simp) (by have := HSM.out.1.2.2.2; omega) w4 (mv_nil w4 HQM.out) (HMV.out.grow HB4.out)
      rw [show cellsS q (.slice none 0 0) 0 (.slice none 0 0) = ct from HCT.out.symm, ← HSS.out] at hsa
      refine hsa.mono ?_
      rintro e w5 ⟨rfl, hb5⟩
      have HB5 : Hid (Below w.heap.size w w5) := Lib.hid (bstep' HB4.out hb5)
      clear hsa hb5
      cases hv : (sameS q s && (0 : Int) == z && 0 == pn) with
      | false =>
        have HRES : Hid (lineR s ((0 : Int) == z && 0 == pn) = .tuple #[.string ⟨#[]⟩, .int .i64 11]) := Lib.hid (by
          rw [HRL.out, HSAY.out, hv]; rfl)
        clear hv
        go_wp2_with fail
        go_ret2
        exact ⟨congrArg Ending.returned HRES.out.symm, HB5.out⟩
      | true =>
        have HRES : Hid (lineR s ((0 : Int) == z && 0 == pn) = .tuple #[.string L, .int .i64 0]) := Lib.hid (by
          rw [HRL.out, HSAY.out, hv, HL.out]; rfl)
        clear hv
        go_wp2_with fail
        go_ret2
        exact ⟨congrArg Ending.returned HRES.out.symm, HB5.out⟩
  · rw [hk] at s0
    obtain ⟨L, hL⟩ : ∃ L, L = (⟨#[111]⟩ : ByteArray) := ⟨_, rfl⟩
    have HL : Hid (L = bs (rtext s)) := Lib.hid (by
      rw [hL, show rtext s = [111] from by unfold rtext; rw [hk]; rfl]
      rfl)
    clear hk
    have HBT := Lib.hid HB1.out
    have HSBT := Lib.hid HSB.out
    go_wp2_with fail
    rw [← hL]
    clear hL s0 hw1 hsb
    clear HSY
    generalize w1 = wt at HBT HSBT ⊢
    have HLS : Hid (L.size ≤ 1000000) := Lib.hid (by rw [HL.out, bs_size]; exact rtext_len HSM.out HI.out)
    refine (RParse_any L HLS.out wt).mono ?_
    rintro e w3 ⟨rfl, hb3⟩
    have HB3 : Hid (Below w.heap.size w w3) := Lib.hid (bstep' HBT.out hb3)
    have HS3 : Hid (w3.heap[sb]? = some (.cells ss 31 (0, 0))) := Lib.hid ((hb3.block _ (lt_of_block HSBT.out)).trans HSBT.out)
    have HLD : Hid (L.data.toList = rtext s) := Lib.hid (by rw [HL.out]; rfl)
    have HRL := Lib.hid (lineR_is s ((0 : Int) == z && 0 == pn))
    clear hb3
    rw [HLD.out]
    cases hp : parseP (wds (rtext s)) with
    | none =>
      have HRES : Hid (lineR s ((0 : Int) == z && 0 == pn) = .tuple #[.string ⟨#[]⟩, .int .i64 11]) := Lib.hid (by
        rw [HRL.out, if_neg]
        unfold saysB
        rw [hp]; exact Bool.false_ne_true)
      rw [parseR_none hp]
      have HB4 : Hid (Below w.heap.size w ((w3.alloc (.cells zeroS 31)).setRow w3.heap.size zeroS)) := Lib.hid (below_row (HB3.out.alloc HB3.out.size _) HB3.out.size _)
      clear hp
      go_wp2_with ((with_reducible (refine wpList_store_rowTo rfl 31 (Operand.tmp 5) (Operand.tmp 72) rfl rfl w3.heap.size zeroS ?_ ?_ 31 zeroS ?_ ?_ ?_ ?_ ?_)); (· rfl); (· rfl); (· exact heap_alloc_new _ _); (· exact zeroS_size); (· rfl); (· exact zeroS_one); change wpList _ _ _ _ _ ((w3.alloc (.cells zeroS 31)).setRow w3.heap.size zeroS); generalize (w3.alloc (.cells zeroS 31)).setRow w3.heap.size zeroS = w4 at *; generalize w3.heap.size = g4 at *)
      go_ret2
      exact ⟨congrArg Ending.returned HRES.out.symm, HB4.out⟩
    | some q =>
      have HQM := Lib.hid (parseP_m hp)
      have HSAY : Hid (saysB (rtext s) s ((0 : Int) == z && 0 == pn) = (sameS q s && (0 : Int) == z && 0 == pn)) := Lib.hid (by
        unfold saysB
        rw [hp]
        simp only
        rw [Bool.and_assoc])
      rw [parseR_some hp]
      clear hp
      obtain ⟨ct, hct⟩ : ∃ ct, ct = cellsS q noV 0 noV := ⟨_, rfl⟩
      have HCT := Lib.hid hct
      have C1 : Hid (ct.all (·.oneCell') = true) := Lib.hid (by rw [hct]; exact cells_one _ _)
      have C2 : Hid ((Tryz.prog.info? 31).map (·.size) = some ct.size) := Lib.hid (by rw [hct]; exact stepSize)
      have C3 : Hid (zeroS.size = ct.size) := Lib.hid (by rw [hct]; rfl)
      have HB43 : Hid (Below w3.heap.size w3 ((w3.alloc (.cells zeroS 31)).setRow w3.heap.size ct)) := Lib.hid (below_row (below_alloc _ _) (Nat.le_refl _) _)
      have HB4 : Hid (Below w.heap.size w ((w3.alloc (.cells zeroS 31)).setRow w3.heap.size ct)) := Lib.hid (bstep' HB3.out HB43.out)
      have HT4 : Hid (((w3.alloc (.cells zeroS 31)).setRow w3.heap.size ct).heap[w3.heap.size]? = some (.cells ct 31 (0, 0))) := Lib.hid (setRow_heap _ _ _ _ _ _ (heap_alloc_new _ _))
      have HS4 : Hid (((w3.alloc (.cells zeroS 31)).setRow w3.heap.size ct).heap[sb]? = some (.cells ss 31 (0, 0))) := Lib.hid ((HB43.out.block _ (lt_of_block HS3.out)).trans HS3.out)
      rw [← hct]
      clear hct
      go_wp2_with (first
        | ((with_reducible (refine wpList_store_rowTo rfl 31 (Operand.tmp 5) (Operand.tmp 72) rfl rfl w3.heap.size ct ?_ ?_ 31 zeroS ?_ ?_ ?_ ?_ ?_)); (· rfl); (· rfl); (· exact heap_alloc_new _ _); (· exact C2.out); (· exact C3.out); (· exact C1.out); change wpList _ _ _ _ _ ((w3.alloc (.cells zeroS 31)).setRow w3.heap.size ct); generalize (w3.alloc (.cells zeroS 31)).setRow w3.heap.size ct = w4 at *; generalize w3.heap.size = g4 at *)
        | ((with_reducible (refine wpList_load_rowG ?_ 31 (Operand.tmp 5) rfl g4 ?_ 31 ct (0, 0) _ ?_ Tryz.underlying31 ?_ ?_ ?_)); (· rfl); (· rfl); (· exact HT4.out); (· rfl); (· exact C2.out))
        | ((with_reducible (refine wpList_load_rowG ?_ 31 (Operand.tmp 1) rfl sb ?_ 31 ss (0, 0) _ ?_ Tryz.underlying31 ?_ ?_ ?_)); (· rfl); (· rfl); (· exact HS4.out); (· rfl); (· exact S2.out)))
      have hsa := rsame_any q s none oa none pa 0 n 0 cc 0 pn 0 pc 0 z (fun _ => rfl) (by rw [HQM.out]; rfl) HN.out (by rw [HQM.out]; simp) (by have := HSM.out.1.2.2.2; omega) w4 (mv_nil w4 HQM.out) (HMV.out.grow HB4.out)
      rw [show cellsS q (.slice none 0 0) 0 (.slice none 0 0) = ct from HCT.out.symm, ← HSS.out] at hsa
      refine hsa.mono ?_
      rintro e w5 ⟨rfl, hb5⟩
      have HB5 : Hid (Below w.heap.size w w5) := Lib.hid (bstep' HB4.out hb5)
      clear hsa hb5
      cases hv : (sameS q s && (0 : Int) == z && 0 == pn) with
      | false =>
        have HRES : Hid (lineR s ((0 : Int) == z && 0 == pn) = .tuple #[.string ⟨#[]⟩, .int .i64 11]) := Lib.hid (by
          rw [HRL.out, HSAY.out, hv]; rfl)
        clear hv
        go_wp2_with fail
        go_ret2
        exact ⟨congrArg Ending.returned HRES.out.symm, HB5.out⟩
      | true =>
        have HRES : Hid (lineR s ((0 : Int) == z && 0 == pn) = .tuple #[.string L, .int .i64 0]) := Lib.hid (by
          rw [HRL.out, HSAY.out, hv, HL.out]; rfl)
        clear hv
        go_wp2_with fail
        go_ret2
        exact ⟨congrArg Ending.returned HRES.out.symm, HB5.out⟩
  · have sC : w1.cell? ⟨sb, 3, none⟩ = some (.int .i64 s.f) := HBX.out.cell 3 _ rfl
    rw [hk] at s0
    have hdl : (bs (Lib.itoa s.f)).size ≤ 21 := by rw [bs_size]; exact Lib.itoa_length_le _ (HI.out .fa).1 (HI.out .fa).2
    obtain ⟨V, hV⟩ : ∃ V, V = bs (Lib.itoa s.f) := ⟨_, rfl⟩
    have HV2 := Lib.hid hV
    have v1 : ¬ 9223372036854775807 < 2 + V.size := by rw [hV]; omega
    obtain ⟨L, hL⟩ : ∃ L, L = (⟨#[109, 32]⟩ : ByteArray) ++ V := ⟨_, rfl⟩
    have HL : Hid (L = bs (rtext s)) := Lib.hid (by
      rw [hL, hV, show rtext s = 109 :: 32 :: Lib.itoa s.f from by unfold rtext; rw [hk]; rfl]
      rfl)
    have hLs := hL.symm
    clear hV hdl hL hk
    go_wp2_with fail
    refine (Dec_any s.f (HI.out .fa).1 (HI.out .fa).2 w1).mono ?_
    rintro e w9 ⟨rfl, kd, rfl⟩
    rw [show bs (Lib.itoa s.f) = V from HV2.out.symm]
    have HBT : Hid (Below w.heap.size w (w1.drewN kd)) := Lib.hid (below_drewN HB1.out kd)
    have HSBT : Hid ((w1.drewN kd).heap[sb]? = some (.cells ss 31 (0, 0))) := Lib.hid (HSY _ (below_drewN (Below.refl _ _) kd))
    clear HSY
    generalize w1.drewN kd = wt at *
    go_wp2_with fail
    clear s0 sC v1 hLs hw1 hsb
    have HLS : Hid (L.size ≤ 1000000) := Lib.hid (by rw [HL.out, bs_size]; exact rtext_len HSM.out HI.out)
    refine (RParse_any L HLS.out wt).mono ?_
    rintro e w3 ⟨rfl, hb3⟩
    have HB3 : Hid (Below w.heap.size w w3) := Lib.hid (bstep' HBT.out hb3)
    have HS3 : Hid (w3.heap[sb]? = some (.cells ss 31 (0, 0))) := Lib.hid ((hb3.block _ (lt_of_block HSBT.out)).trans HSBT.out)
    have HLD : Hid (L.data.toList = rtext s) := Lib.hid (by rw [HL.out]; rfl)
    have HRL := Lib.hid (lineR_is s ((0 : Int) == z && 0 == pn))
    clear hb3
    rw [HLD.out]
    cases hp : parseP (wds (rtext s)) with
    | none =>
      have HRES : Hid (lineR s ((0 : Int) == z && 0 == pn) = .tuple #[.string ⟨#[]⟩, .int .i64 11]) := Lib.hid (by
        rw [HRL.out, if_neg]
        unfold saysB
        rw [hp]; exact Bool.false_ne_true)
      rw [parseR_none hp]
      have HB4 : Hid (Below w.heap.size w ((w3.alloc (.cells zeroS 31)).setRow w3.heap.size zeroS)) := Lib.hid (below_row (HB3.out.alloc HB3.out.size _) HB3.out.size _)
      clear hp
      go_wp2_with ((with_reducible (refine wpList_store_rowTo rfl 31 (Operand.tmp 5) (Operand.tmp 72) rfl rfl w3.heap.size zeroS ?_ ?_ 31 zeroS ?_ ?_ ?_ ?_ ?_)); (· rfl); (· rfl); (· exact heap_alloc_new _ _); (· exact zeroS_size); (· rfl); (· exact zeroS_one); change wpList _ _ _ _ _ ((w3.alloc (.cells zeroS 31)).setRow w3.heap.size zeroS); generalize (w3.alloc (.cells zeroS 31)).setRow w3.heap.size zeroS = w4 at *; generalize w3.heap.size = g4 at *)
      go_ret2
      exact ⟨congrArg Ending.returned HRES.out.symm, HB4.out⟩
    | some q =>
      have HQM := Lib.hid (parseP_m hp)
      have HSAY : Hid (saysB (rtext s) s ((0 : Int) == z && 0 == pn) = (sameS q s && (0 : Int) == z && 0 == pn)) := Lib.hid (by
        unfold saysB
        rw [hp]
        simp only
        rw [Bool.and_assoc])
      rw [parseR_some hp]
      clear hp
      obtain ⟨ct, hct⟩ : ∃ ct, ct = cellsS q noV 0 noV := ⟨_, rfl⟩
      have HCT := Lib.hid hct
      have C1 : Hid (ct.all (·.oneCell') = true) := Lib.hid (by rw [hct]; exact cells_one _ _)
      have C2 : Hid ((Tryz.prog.info? 31).map (·.size) = some ct.size) := Lib.hid (by rw [hct]; exact stepSize)
      have C3 : Hid (zeroS.size = ct.size) := Lib.hid (by rw [hct]; rfl)
      have HB43 : Hid (Below w3.heap.size w3 ((w3.alloc (.cells zeroS 31)).setRow w3.heap.size ct)) := Lib.hid (below_row (below_alloc _ _) (Nat.le_refl _) _)
      have HB4 : Hid (Below w.heap.size w ((w3.alloc (.cells zeroS 31)).setRow w3.heap.size ct)) := Lib.hid (bstep' HB3.out HB43.out)
      have HT4 : Hid (((w3.alloc (.cells zeroS 31)).setRow w3.heap.size ct).heap[w3.heap.size]? = some (.cells ct 31 (0, 0))) := Lib.hid (setRow_heap _ _ _ _ _ _ (heap_alloc_new _ _))
      have HS4 : Hid (((w3.alloc (.cells zeroS 31)).setRow w3.heap.size ct).heap[sb]? = some (.cells ss 31 (0, 0))) := Lib.hid ((HB43.out.block _ (lt_of_block HS3.out)).trans HS3.out)
      rw [← hct]
      clear hct
      go_wp2_with (first
        | ((with_reducible (refine wpList_store_rowTo rfl 31 (Operand.tmp 5) (Operand.tmp 72) rfl rfl w3.heap.size ct ?_ ?_ 31 zeroS ?_ ?_ ?_ ?_ ?_)); (· rfl); (· rfl); (· exact heap_alloc_new _ _); (· exact C2.out); (· exact C3.out); (· exact C1.out); change wpList _ _ _ _ _ ((w3.alloc (.cells zeroS 31)).setRow w3.heap.size ct); generalize (w3.alloc (.cells zeroS 31)).setRow w3.heap.size ct = w4 at *; generalize w3.heap.size = g4 at *)
        | ((with_reducible (refine wpList_load_rowG ?_ 31 (Operand.tmp 5) rfl g4 ?_ 31 ct (0, 0) _ ?_ Tryz.underlying31 ?_ ?_ ?_)); (· rfl); (· rfl); (· exact HT4.out); (· rfl); (· exact C2.out))
        | ((with_reducible (refine wpList_load_rowG ?_ 31 (Operand.tmp 1) rfl sb ?_ 31 ss (0, 0) _ ?_ Tryz.underlying31 ?_ ?_ ?_)); (· rfl); (· rfl); (· exact HS4.out); (· rfl); (· exact S2.out)))
      have hsa := rsame_any q s none oa none pa 0 n 0 cc 0 pn 0 pc 0 z (fun _ => rfl) (by rw [HQM.out]; rfl) HN.out (by rw [HQM.out]; simp) (by have := HSM.out.1.2.2.2; omega) w4 (mv_nil w4 HQM.out) (HMV.out.grow HB4.out)
      rw [show cellsS q (.slice none 0 0) 0 (.slice none 0 0) = ct from HCT.out.symm, ← HSS.out] at hsa
      refine hsa.mono ?_
      rintro e w5 ⟨rfl, hb5⟩
      have HB5 : Hid (Below w.heap.size w w5) := Lib.hid (bstep' HB4.out hb5)
      clear hsa hb5
      cases hv : (sameS q s && (0 : Int) == z && 0 == pn) with
      | false =>
        have HRES : Hid (lineR s ((0 : Int) == z && 0 == pn) = .tuple #[.string ⟨#[]⟩, .int .i64 11]) := Lib.hid (by
          rw [HRL.out, HSAY.out, hv]; rfl)
        clear hv
        go_wp2_with fail
        go_ret2
        exact ⟨congrArg Ending.returned HRES.out.symm, HB5.out⟩
      | true =>
        have HRES : Hid (lineR s ((0 : Int) == z && 0 == pn) = .tuple #[.string L, .int .i64 0]) := Lib.hid (by
          rw [HRL.out, HSAY.out, hv, HL.out]; rfl)
        clear hv
        go_wp2_with fail
        go_ret2
        exact ⟨congrArg Ending.returned HRES.out.symm, HB5.out⟩
  · have b1 : (s.k == 1) = false := beq_eq_false_iff_ne.2 h1
    have b2 : (s.k == 2) = false := beq_eq_false_iff_ne.2 h2
    have b3 : (s.k == 3) = false := beq_eq_false_iff_ne.2 h3
    have b4 : (s.k == 4) = false := beq_eq_false_iff_ne.2 h4
    have b5 : (s.k == 5) = false := beq_eq_false_iff_ne.2 h5
    have b6 : (s.k == 6) = false := beq_eq_false_iff_ne.2 h6
    have b7 : (s.k == 7) = false := beq_eq_false_iff_ne.2 h7
    have b8 : (s.k == 8) = false := beq_eq_false_iff_ne.2 h8
    have b10 : (s.k == 10) = false := beq_eq_false_iff_ne.2 h10
    obtain ⟨L, hL⟩ : ∃ L, L = (⟨#[]⟩ : ByteArray) := ⟨_, rfl⟩
    have HL : Hid (L = bs (rtext s)) := Lib.hid (by
      rw [hL, show rtext s = [] from by unfold rtext; rw [if_neg h1, if_neg h2, if_neg h3, if_neg h4, if_neg h5, if_neg h6, if_neg h7, if_neg h8, if_neg h10]]
      rfl)
    clear h1 h2 h3 h4 h5 h6 h7 h8 h10
    have HBT := Lib.hid HB1.out
    have HSBT := Lib.hid HSB.out
    go_wp2_with fail
    rw [← hL]
    clear hL s0 b1 b2 b3 b4 b5 b6 b7 b8 b10 hw1 hsb
    clear HSY
    generalize w1 = wt at HBT HSBT ⊢
    have HLS : Hid (L.size ≤ 1000000) := Lib.hid (by rw [HL.out, bs_size]; exact rtext_len HSM.out HI.out)
    refine (RParse_any L HLS.out wt).mono ?_
    rintro e w3 ⟨rfl, hb3⟩
    have HB3 : Hid (Below w.heap.size w w3) := Lib.hid (bstep' HBT.out hb3)
    have HS3 : Hid (w3.heap[sb]? = some (.cells ss 31 (0, 0))) := Lib.hid ((hb3.block _ (lt_of_block HSBT.out)).trans HSBT.out)
    have HLD : Hid (L.data.toList = rtext s) := Lib.hid (by rw [HL.out]; rfl)
    have HRL := Lib.hid (lineR_is s ((0 : Int) == z && 0 == pn))
    clear hb3
    rw [HLD.out]
    cases hp : parseP (wds (rtext s)) with
    | none =>
      have HRES : Hid (lineR s ((0 : Int) == z && 0 == pn) = .tuple #[.string ⟨#[]⟩, .int .i64 11]) := Lib.hid (by
        rw [HRL.out, if_neg]
        unfold saysB
        rw [hp]; exact Bool.false_ne_true)
      rw [parseR_none hp]
      have HB4 : Hid (Below w.heap.size w ((w3.alloc (.cells zeroS 31)).setRow w3.heap.size zeroS)) := Lib.hid (below_row (HB3.out.alloc HB3.out.size _) HB3.out.size _)
      clear hp
      go_wp2_with ((with_reducible (refine wpList_store_rowTo rfl 31 (Operand.tmp 5) (Operand.tmp 72) rfl rfl w3.heap.size zeroS ?_ ?_ 31 zeroS ?_ ?_ ?_ ?_ ?_)); (· rfl); (· rfl); (· exact heap_alloc_new _ _); (· exact zeroS_size); (· rfl); (· exact zeroS_one); change wpList _ _ _ _ _ ((w3.alloc (.cells zeroS 31)).setRow w3.heap.size zeroS); generalize (w3.alloc (.cells zeroS 31)).setRow w3.heap.size zeroS = w4 at *; generalize w3.heap.size = g4 at *)
      go_ret2
      exact ⟨congrArg Ending.returned HRES.out.symm, HB4.out⟩
    | some q =>
      have HQM := Lib.hid (parseP_m hp)
      have HSAY : Hid (saysB (rtext s) s ((0 : Int) == z && 0 == pn) = (sameS q s && (0 : Int) == z && 0 == pn)) := Lib.hid (by
        unfold saysB
        rw [hp]
        simp only
        rw [Bool.and_assoc])
      rw [parseR_some hp]
      clear hp
      obtain ⟨ct, hct⟩ : ∃ ct, ct = cellsS q noV 0 noV := ⟨_, rfl⟩
      have HCT := Lib.hid hct
      have C1 : Hid (ct.all (·.oneCell') = true) := Lib.hid (by rw [hct]; exact cells_one _ _)
      have C2 : Hid ((Tryz.prog.info? 31).map (·.size) = some ct.size) := Lib.hid (by rw [hct]; exact stepSize)
      have C3 : Hid (zeroS.size = ct.size) := Lib.hid (by rw [hct]; rfl)
      have HB43 : Hid (Below w3.heap.size w3 ((w3.alloc (.cells zeroS 31)).setRow w3.heap.size ct)) := Lib.hid (below_row (below_alloc _ _) (Nat.le_refl _) _)
      have HB4 : Hid (Below w.heap.size w ((w3.alloc (.cells zeroS 31)).setRow w3.heap.size ct)) := Lib.hid (bstep' HB3.out HB43.out)
      have HT4 : Hid (((w3.alloc (.cells zeroS 31)).setRow w3.heap.size ct).heap[w3.heap.size]? = some (.cells ct 31 (0, 0))) := Lib.hid (setRow_heap _ _ _ _ _ _ (heap_alloc_new _ _))
      have HS4 : Hid (((w3.alloc (.cells zeroS 31)).setRow w3.heap.size ct).heap[sb]? = some (.cells ss 31 (0, 0))) := Lib.hid ((HB43.out.block _ (lt_of_block HS3.out)).trans HS3.out)
      rw [← hct]
      clear hct
      go_wp2_with (first
        | ((with_reducible (refine wpList_store_rowTo rfl 31 (Operand.tmp 5) (Operand.tmp 72) rfl rfl w3.heap.size ct ?_ ?_ 31 zeroS ?_ ?_ ?_ ?_ ?_)); (· rfl); (· rfl); (· exact heap_alloc_new _ _); (· exact C2.out); (· exact C3.out); (· exact C1.out); change wpList _ _ _ _ _ ((w3.alloc (.cells zeroS 31)).setRow w3.heap.size ct); generalize (w3.alloc (.cells zeroS 31)).setRow w3.heap.size ct = w4 at *; generalize w3.heap.size = g4 at *)
        | ((with_reducible (refine wpList_load_rowG ?_ 31 (Operand.tmp 5) rfl g4 ?_ 31 ct (0, 0) _ ?_ Tryz.underlying31 ?_ ?_ ?_)); (· rfl); (· rfl); (· exact HT4.out); (· rfl); (· exact C2.out))
        | ((with_reducible (refine wpList_load_rowG ?_ 31 (Operand.tmp 1) rfl sb ?_ 31 ss (0, 0) _ ?_ Tryz.underlying31 ?_ ?_ ?_)); (· rfl); (· rfl); (· exact HS4.out); (· rfl); (· exact S2.out)))
      have hsa := rsame_any q s none oa none pa 0 n 0 cc 0 pn 0 pc 0 z (fun _ => rfl) (by rw [HQM.out]; rfl) HN.out (by rw [HQM.out]; simp) (by have := HSM.out.1.2.2.2; omega) w4 (mv_nil w4 HQM.out) (HMV.out.grow HB4.out)
      rw [show cellsS q (.slice none 0 0) 0 (.slice none 0 0) = ct from HCT.out.symm, ← HSS.out] at hsa
      refine hsa.mono ?_
      rintro e w5 ⟨rfl, hb5⟩
      have HB5 : Hid (Below w.heap.size w w5) := Lib.hid (bstep' HB4.out hb5)
      clear hsa hb5
      cases hv : (sameS q s && (0 : Int) == z && 0 == pn) with
      | false =>
        have HRES : Hid (lineR s ((0 : Int) == z && 0 == pn) = .tuple #[.string ⟨#[]⟩, .int .i64 11]) := Lib.hid (by
          rw [HRL.out, HSAY.out, hv]; rfl)
        clear hv
        go_wp2_with fail
        go_ret2
        exact ⟨congrArg Ending.returned HRES.out.symm, HB5.out⟩
      | true =>
        have HRES : Hid (lineR s ((0 : Int) == z && 0 == pn) = .tuple #[.string L, .int .i64 0]) := Lib.hid (by
          rw [HRL.out, HSAY.out, hv, HL.out]; rfl)
        clear hv
        go_wp2_with fail
        go_ret2
        exact ⟨congrArg Ending.returned HRES.out.symm, HB5.out⟩
end Go.Proofs.YtiffmigihhcgcaaGreatDoor.ConW

/- ConsoleLines. -/
namespace Go.Proofs.YtiffmigihhcgcaaGreatDoor.ConW
set_option maxRecDepth 100000
set_option linter.constructorNameAsVariable false
set_option linter.unusedVariables false
open Go.RowKit ConP OpP OpW
set_option maxHeartbeats 6400000 in
theorem lines_walk (s : Stp) (oa : Option Addr) (n cc : Nat) (z : Int) (pa : Option Addr) (pn pc : Nat) (hn : n = s.a.o.m.length) (hi : Ints s) (W : World) (hv : PV W) (hm : MvAt W oa s.a.o.m) (hch : ChAt W pa pn) :
    Calls Tryz.prog 3 #[.agg (cellsS s (.slice oa n cc) z (.slice pa pn pc))] W fun e w' => e = .returned (.bool true) ∧ Below W.heap.size W w' := by
  have HV := Lib.hid hv
  have HN := Lib.hid hn
  have HI := Lib.hid hi
  have HM := Lib.hid hm
  have HCH := Lib.hid hch
  obtain ⟨ss, hss⟩ : ∃ ss, ss = cellsS s (.slice oa n cc) z (.slice pa pn pc) := ⟨_, rfl⟩
  have HSS := Lib.hid hss
  have S2 : Hid ((Tryz.prog.info? 31).map (·.size) = some ss.size) := Lib.hid (by rw [hss]; exact stepSize)
  have HB1 := Lib.hid (below_alloc W (.cells ss 31))
  have HSB : Hid ((W.alloc (.cells ss 31)).heap[W.heap.size]? = some (.cells ss 31 (0, 0))) := Lib.hid (heap_alloc_new _ _)
  rw [← hss]
  clear hv hn hi hm hch hss
  go_enter Tryz.func3, Tryz.ntmps3
  go_wp2_with ((with_reducible (refine wpList_load_row rfl 31 (Operand.tmp 1) rfl W.heap.size ?_ 31 ss (0, 0) _ ?_ Tryz.underlying31 ?_ ?_ ?_)); (· rfl); (· exact HSB.out); (· rfl); (· exact S2.out))
  generalize W.alloc (.cells ss 31) = w1 at *
  obtain ⟨sb, hsb⟩ : ∃ sb, sb = W.heap.size := ⟨_, rfl⟩
  rw [← hsb] at HSB
  rw [← hsb]
  clear hsb
  have hla := large_s s oa pa n cc pn pc HN.out z w1 (HCH.out.keep HB1.out)
  rw [← HSS.out] at hla
  refine hla.mono ?_
  rintro e w2 ⟨⟨lb, rfl, hsm⟩, hb2⟩
  have HB2 : Hid (Below W.heap.size W w2) := Lib.hid (bstep' HB1.out hb2)
  have HSB2 : Hid (w2.heap[sb]? = some (.cells ss 31 (0, 0))) := Lib.hid ((hb2.block _ (lt_of_block HSB.out)).trans HSB.out)
  have HSM := Lib.hid hsm
  clear hla hsm hb2 HSB
  cases lb with
  | true =>
    go_wp2_with fail
    refine (wakes_any w2 (HV.out.keep HB2.out)).mono ?_
    rintro e w6 ⟨rfl, hb6⟩
    have HB6 := Lib.hid (bstep' HB2.out hb6)
    clear hb6
    go_wp2_with fail
    go_ret
    exact ⟨rfl, HB6.out⟩
  | false =>
    have HSML : Hid (SmallS s) := Lib.hid (HSM.out rfl)
    go_wp2_with ((with_reducible (refine wpList_load_row rfl 31 (Operand.tmp 1) rfl sb ?_ 31 ss (0, 0) _ ?_ Tryz.underlying31 ?_ ?_ ?_)); (· rfl); (· exact HSB2.out); (· rfl); (· exact S2.out))
    have hln := Line_any s (small_num HSML.out HI.out) (lineL_len HSML.out HI.out) oa pa n cc pn pc HN.out (by have := HSML.out.1.2.2.2; omega) z w2 (HM.out.grow HB2.out) (HV.out.keep HB2.out)
    rw [← HSS.out] at hln
    refine hln.mono ?_
    rintro e w3 ⟨rfl, hb3⟩
    have HB3 := Lib.hid (bstep' HB2.out hb3)
    have HSB3 : Hid (w3.heap[sb]? = some (.cells ss 31 (0, 0))) := Lib.hid ((hb3.block _ (lt_of_block HSB2.out)).trans HSB2.out)
    clear hln hb3
    have HLR0 : Hid (lineR s ((0 : Int) == z && 0 == pn) = match lineP s ((0 : Int) == z && 0 == pn) with | some t => .tuple #[.string (bs t), .int .i64 0] | none => .tuple #[.string ⟨#[]⟩, .int .i64 11]) := Lib.hid rfl
    cases hp : lineP s ((0 : Int) == z && 0 == pn) with
    | none =>
      have HLR : Hid (lineR s ((0 : Int) == z && 0 == pn) = .tuple #[.string ⟨#[]⟩, .int .i64 11]) := Lib.hid (by rw [HLR0.out, hp])
      rw [HLR.out]
      clear hp
      go_wp2_with ((with_reducible (refine wpList_load_row rfl 31 (Operand.tmp 1) rfl sb ?_ 31 ss (0, 0) _ ?_ Tryz.underlying31 ?_ ?_ ?_)); (· rfl); (· exact HSB3.out); (· rfl); (· exact S2.out))
      have hrl := RLine_any s oa n cc z pa pn pc HN.out HSML.out HI.out w3 (HV.out.keep HB3.out) (HM.out.grow HB3.out)
      rw [← HSS.out, HLR.out] at hrl
      refine hrl.mono ?_
      rintro e w4 ⟨rfl, hb4⟩
      have HB4 := Lib.hid (bstep' HB3.out hb4)
      clear hrl hb4
      have heq : ((⟨#[]⟩ : ByteArray).toList == (⟨#[]⟩ : ByteArray).toList) = true := beq_self_eq_true _
      go_wp2_with fail
      refine (wakes_any w4 (HV.out.keep HB4.out)).mono ?_
      rintro e w6 ⟨rfl, hb6⟩
      have HB6 := Lib.hid (bstep' HB4.out hb6)
      clear hb6
      go_wp2_with fail
      go_ret
      exact ⟨rfl, HB6.out⟩
    | some tx =>
      obtain ⟨L, hL⟩ : ∃ L, L = bs tx := ⟨_, rfl⟩
      have HLR : Hid (lineR s ((0 : Int) == z && 0 == pn) = .tuple #[.string L, .int .i64 0]) := Lib.hid (by rw [HLR0.out, hp, hL])
      rw [HLR.out]
      clear hp hL
      go_wp2_with ((with_reducible (refine wpList_load_row rfl 31 (Operand.tmp 1) rfl sb ?_ 31 ss (0, 0) _ ?_ Tryz.underlying31 ?_ ?_ ?_)); (· rfl); (· exact HSB3.out); (· rfl); (· exact S2.out))
      have hrl := RLine_any s oa n cc z pa pn pc HN.out HSML.out HI.out w3 (HV.out.keep HB3.out) (HM.out.grow HB3.out)
      rw [← HSS.out, HLR.out] at hrl
      refine hrl.mono ?_
      rintro e w4 ⟨rfl, hb4⟩
      have HB4 := Lib.hid (bstep' HB3.out hb4)
      clear hrl hb4
      have heq : ((L : ByteArray).toList == (L : ByteArray).toList) = true := beq_self_eq_true _
      go_wp2_with fail
      refine (wakes_any w4 (HV.out.keep HB4.out)).mono ?_
      rintro e w6 ⟨rfl, hb6⟩
      have HB6 := Lib.hid (bstep' HB4.out hb6)
      clear hb6
      go_wp2_with fail
      go_ret
      exact ⟨rfl, HB6.out⟩
end Go.Proofs.YtiffmigihhcgcaaGreatDoor.ConW
