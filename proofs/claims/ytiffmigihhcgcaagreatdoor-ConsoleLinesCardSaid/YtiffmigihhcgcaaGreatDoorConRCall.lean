/- The document's call: a call's words. -/
import Derived.Test.YtiffmigihhcgcaaGreatDoorConDec
import Derived.Test.YtiffmigihhcgcaaGreatDoorConRHex
import Derived.Test.YtiffmigihhcgcaaGreatDoorConStep
import Derived.Test.YtiffmigihhcgcaaGreatDoorConRParse
import Derived.Test.YtiffmigihhcgcaaGreatDoorConSameH
namespace Go.Proofs.YtiffmigihhcgcaaGreatDoor.ConW
set_option maxRecDepth 100000
set_option linter.constructorNameAsVariable false
set_option linter.unusedVariables false
open Go.RowKit ConP OpP OpW
theorem wpList_runW {P : Program} {ops : Array Oper} {rest : List Oper} {o : Oper} {a : Act} {w : World} {Q : Exit → Act → World → Prop} (d : Option Tmp) {v : Value} (hw : Region.wanted o (yielded ops a.tmps) = true) (hd : o.dst = d)
    (hr : (execOp a.eval o).run P w = .ok (.value v) w) (h : wpList P ops Q rest (a.put d v) w) : wpList P ops Q (o :: rest) a w := by
  subst hd
  unfold wpList
  rw [if_pos hw]
  refine .inl ?_
  unfold Oper.wp
  rw [hr]
  exact h
def zeroFr : Array Value := #[.string ⟨#[]⟩, .int .i64 0, .int .i64 0, .string ⟨#[]⟩]
theorem zeroFr_one (x : ConP.Fr) : (frCells x).toArray.all (·.oneCell') = true := by simp [frCells, Value.oneCell']
theorem rfs_len : ∀ x ∈ rforms, x.fs.length ≤ 3 ∧ x.w.length ≤ 10 := by decide
theorem tail_len (B : Nat) : ∀ l : List Bs, (∀ a ∈ l, a.length ≤ B) → (tailW l).length ≤ l.length * (B + 1)
  | [], _ => by simp [tailW]
  | a :: l, h => by
    have h1 := h a (.head _)
    have h2 := tail_len B l fun x hx => h x (.tail _ hx)
    unfold tailW at h2 ⊢
    rw [List.flatMap_cons, List.length_append, List.length_cons, List.length_cons, Nat.succ_mul]
    omega
theorem find_snoc {p : ConP.Fr → Bool} {l : List ConP.Fr} {x : ConP.Fr} (h : l.find? p = none) : (l ++ [x]).find? p = if p x then some x else none := by
  rw [List.find?_append, h]
  simp only [Option.none_or, List.find?_cons, List.find?_nil]
  cases p x <;> rfl
theorem rforms_at (w : World) (b : Nat) (h : w.heap[b]? = some (.cells rformCells 71 (0, 0))) : ∀ (k : Nat) (x : ConP.Fr), rforms[k]? = some x → ∀ (j : Nat) v, (frCells x).toArray.toList[j]? = some v → w.cell? ((⟨b, k * 4, none⟩ : Addr).add j) = some v := by
  intro k x hx j v hv
  have e2 : (⟨b, k * 4, none⟩ : Addr).add j = ⟨b, k * 4 + j, none⟩ := by
    unfold Addr.add
    by_cases h : j = 0
    · rw [if_pos h, h]; rfl
    · rw [if_neg h]
  rw [e2, Lib.cell_of_heap h]
  have hp := flat_part frCells 4 (fun _ => rfl) rforms k x hx
  have hj : j < 4 := (List.getElem?_eq_some_iff.1 hv).1
  have : rformCells[k * 4 + j]? = (((rforms.flatMap frCells).drop (k * 4)).take 4)[j]? := by
    rw [List.getElem?_take_of_lt hj, List.getElem?_drop]
    unfold rformCells
    rw [List.getElem?_toArray]
  rw [this, hp]
  exact hv
set_option maxHeartbeats 6400000 in
theorem rcall_any (s : Stp) (oa : Option Addr) (n cc : Nat) (hsm : SmallS s) (hi : Ints s) (w : World) :
    Calls Tryz.prog 15 #[.agg (cellsC s.a (.slice oa n cc))] w fun e w' => e = .returned (.string (bs (rcall s))) ∧ Below w.heap.size w w' := by
  have HSM := Lib.hid hsm
  have HI := Lib.hid hi
  obtain ⟨ct, hct⟩ : ∃ ct, ct = cellsC s.a (.slice oa n cc) := ⟨_, rfl⟩
  have HCT := Lib.hid hct
  have HB1 : Hid (Below w.heap.size w (w.alloc (.cells ct 26))) := Lib.hid (below_alloc w _)
  have HCB : Hid ((w.alloc (.cells ct 26)).heap[w.heap.size]? = some (.cells ct 26 (0, 0))) := Lib.hid (heap_alloc_new w _)
  rw [← hct]
  clear hsm hi hct
  go_enter Tryz.func15, Tryz.ntmps15
  go_wp2_with fail
  generalize w.alloc (.cells ct 26) = w1 at *
  obtain ⟨cb, hcb⟩ : ∃ cb, cb = w.heap.size := ⟨_, rfl⟩
  rw [← hcb] at HCB ⊢
  clear hcb
  refine (rforms_any w1).mono ?_
  rintro e w2 ⟨rfl, hrow, hb2⟩
  have HB2 : Hid (Below w.heap.size w w2) := Lib.hid (bstep' HB1.out hb2)
  have HCB2 : Hid (w2.heap[cb]? = some (.cells ct 26 (0, 0))) := Lib.hid ((hb2.block _ (lt_of_block HCB.out)).trans HCB.out)
  obtain ⟨fb, hfb⟩ : ∃ fb, fb = w1.heap.size := ⟨_, rfl⟩
  rw [← hfb] at hrow ⊢
  have HRW := Lib.hid hrow
  clear hrow hb2 hfb HCB HB1
  go_wp2_with fail
  go_loopw [4] (fun i wr => ∃ k : Nat, k ≤ 19 ∧ i = .int .i64 (k : Int) ∧ (rforms.take k).find? (fits s.a) = none ∧ Below w2.heap.size w2 wr) (fun i _ => ((19 : Int) - intOf i).toNat)
  case atStart => exact ⟨0, by omega, rfl, rfl, Below.refl _ _⟩
  case round =>
    obtain ⟨k, hk, rfl, hno, hbl⟩ := hrel
    have HNO := Lib.hid hno
    have HBL := Lib.hid hbl
    clear hno hbl
    by_cases hlt : k < 19
    · have hk1 : (k : Int) < 19 := by omega
      obtain ⟨x, hx⟩ : ∃ x, rforms[k]? = some x := ⟨_, List.getElem?_eq_getElem (show k < rforms.length from hlt)⟩
      have HXM : Hid (x ∈ rforms) := Lib.hid (List.mem_of_getElem? hx)
      have HNX : Hid ((rforms.take (k + 1)).find? (fits s.a) = if fits s.a x then some x else none) := Lib.hid (by
        rw [List.take_add_one, hx]
        exact find_snoc HNO.out)
      have HXL : Hid (∀ f ∈ x.fs, f = 112 ∨ f = 113 ∨ f = 100 ∨ f = 110 ∨ f = 104 ∨ f = 111) := Lib.hid (rforms_let x HXM.out)
      have HAT := Lib.hid (rforms_at wr fb ((HBL.out.block _ (lt_of_block HRW.out)).trans HRW.out) k x hx)
      obtain ⟨xc, hxc⟩ : ∃ xc, xc = (frCells x).toArray := ⟨_, rfl⟩
      have HXC := Lib.hid hxc
      have X1 : Hid (xc.all (·.oneCell') = true) := Lib.hid (by rw [hxc]; exact zeroFr_one x)
      have X2 : Hid ((Tryz.prog.info? 71).map (·.size) = some xc.size) := Lib.hid (by rw [hxc]; exact frSize)
      have X3 : Hid (zeroFr.size = xc.size) := Lib.hid (by rw [hxc]; rfl)
      rw [← hxc] at HAT
      clear hxc hx
      have HBL3 : Hid (Below w2.heap.size w2 ((wr.alloc (.cells zeroFr 71)).setRow wr.heap.size xc)) := Lib.hid (below_row (HBL.out.alloc HBL.out.size _) HBL.out.size _)
      have HXB : Hid (((wr.alloc (.cells zeroFr 71)).setRow wr.heap.size xc).heap[wr.heap.size]? = some (.cells xc 71 (0, 0))) := Lib.hid (setRow_heap _ _ _ _ _ _ (heap_alloc_new _ _))
      have HXR : Hid (RBox ((wr.alloc (.cells zeroFr 71)).setRow wr.heap.size xc) wr.heap.size x) := Lib.hid (by unfold RBox; rw [← HXC.out]; exact HXB.out)
      have HCX : Hid (((wr.alloc (.cells zeroFr 71)).setRow wr.heap.size xc).heap[cb]? = some (.cells (cellsC s.a (.slice oa n cc)) 26 (0, 0))) := Lib.hid (by
        rw [← HCT.out]
        exact (HBL3.out.block _ (lt_of_block HCB2.out)).trans HCB2.out)
      obtain ⟨f0, f1, f2, f3⟩ := RBox.cells HXR.out
      have q0 : ((wr.alloc (.cells zeroFr 71)).setRow wr.heap.size xc).cell? ⟨cb, 0, none⟩ = some (.int .i64 s.a.k) := by rw [Lib.cell_of_heap HCX.out]; rfl
      have q3 : ((wr.alloc (.cells zeroFr 71)).setRow wr.heap.size xc).cell? ⟨cb, 3, none⟩ = some (.int .i64 s.a.o.k) := by rw [Lib.cell_of_heap HCX.out]; rfl
      cases hfit : fits s.a x with
      | false =>
        have HNF : Hid ((rforms.take (k + 1)).find? (fits s.a) = none) := Lib.hid (by rw [HNX.out, hfit]; rfl)
        have hq : (x.c != s.a.k) = true ∨ ((x.c != s.a.k) = false ∧ (x.o != s.a.o.k) = true ∧ ((x.c == 1) = true)) := by
          unfold fits at hfit
          by_cases h1 : x.c = s.a.k
          · rw [h1, beq_self_eq_true, Bool.true_and, Bool.or_eq_false_iff] at hfit
            obtain ⟨g1, g2⟩ := hfit
            refine .inr ⟨by rw [h1]; exact bne_self_eq_false _, ?_, ?_⟩
            · rw [bne, g1]; rfl
            · rw [h1]
              rw [bne] at g2
              cases hb : (s.a.k == 1) with
              | true => rfl
              | false => rw [hb] at g2; cases g2
          · exact .inl (bne_iff_ne.2 h1)
        clear hfit
        rcases hq with h1 | ⟨h1, h2, h3⟩
        all_goals
          go_wp2_with (first
            | ((with_reducible (refine wpList_runW (some 19) (v := .agg xc) rfl rfl ?_ ?_)); (· exact run_load_part 71 (Operand.tmp 18) rfl ⟨fb, k * 4, none⟩ rfl xc HAT.out Tryz.underlying71 rfl X2.out))
            | ((with_reducible (refine wpList_store_rowTo rfl 71 (Operand.tmp 5) (Operand.tmp 19) rfl rfl wr.heap.size xc ?_ ?_ 71 zeroFr ?_ ?_ ?_ ?_ ?_)); (· rfl); (· rfl); (· exact heap_alloc_new _ _); (· exact X2.out); (· exact X3.out); (· exact X1.out); change wpList _ _ _ _ _ ((wr.alloc (.cells zeroFr 71)).setRow wr.heap.size xc); generalize (wr.alloc (.cells zeroFr 71)).setRow wr.heap.size xc = w3 at *; generalize wr.heap.size = g3 at *))
          all_goals exact ⟨⟨k + 1, by omega, by simp, HNF.out, HBL3.out⟩, by simp [intOf]; omega⟩
      | true =>
        have HRC : Hid (rcall s = x.w ++ tailW (x.ps.map (getW s))) := Lib.hid (by
          have e : rforms.find? (fits s.a) = some x := by
            conv => lhs; rw [← List.take_append_drop (k + 1) rforms]
            rw [List.find?_append, HNX.out, hfit]; rfl
          unfold rcall
          rw [e])
        have h1 : (x.c != s.a.k) = false := by
          unfold fits at hfit
          rw [Bool.and_eq_true] at hfit
          rw [bne, hfit.1]; rfl
        have h2 : (x.o != s.a.o.k) = false ∨ ((x.o != s.a.o.k) = true ∧ (x.c == 1) = false) := by
          unfold fits at hfit
          rw [Bool.and_eq_true, Bool.or_eq_true] at hfit
          rcases hb : (x.o != s.a.o.k) with _ | _
          · exact .inl rfl
          · refine .inr ⟨rfl, ?_⟩
            rcases hfit.2 with g | g
            · rw [bne, g] at hb; cases hb
            · rw [bne] at g
              cases hc : (x.c == 1) with
              | true => rw [hc] at g; cases g
              | false => rfl
        clear hfit
        have HXS := Lib.hid (rfs_len x HXM.out)
        rcases h2 with h2 | ⟨h2, h3⟩
        all_goals
          go_wp2_with (first
            | ((with_reducible (refine wpList_runW (some 19) (v := .agg xc) rfl rfl ?_ ?_)); (· exact run_load_part 71 (Operand.tmp 18) rfl ⟨fb, k * 4, none⟩ rfl xc HAT.out Tryz.underlying71 rfl X2.out))
            | ((with_reducible (refine wpList_store_rowTo rfl 71 (Operand.tmp 5) (Operand.tmp 19) rfl rfl wr.heap.size xc ?_ ?_ 71 zeroFr ?_ ?_ ?_ ?_ ?_)); (· rfl); (· rfl); (· exact heap_alloc_new _ _); (· exact X2.out); (· exact X3.out); (· exact X1.out); change wpList _ _ _ _ _ ((wr.alloc (.cells zeroFr 71)).setRow wr.heap.size xc); generalize (wr.alloc (.cells zeroFr 71)).setRow wr.heap.size xc = w3 at *; generalize wr.heap.size = g3 at *))
        all_goals
          clear f0 f1 f2 f3 q0 q3
          go_loopw [6, 7] (fun v i wr => ∃ (j : Nat) (A : ByteArray), j ≤ x.fs.length ∧ i = .int .i64 (j : Int) ∧ v = .string A ∧ A = bs (x.w ++ tailW ((x.ps.take j).map (getW s))) ∧ Below w3.heap.size w3 wr) (fun _ i _ => ((x.fs.length : Int) - intOf i).toNat)
          case atStart => exact ⟨0, _, by omega, rfl, rfl, by simp [tailW], Below.refl _ _⟩
          case round =>
            obtain ⟨j, A, hj, rfl, rfl, hA, hbr⟩ := hrel
            have HA := Lib.hid hA
            have HBL := Lib.hid hbr
            have hA0 : A.size = (x.w ++ tailW ((x.ps.take j).map (getW s))).length := by rw [hA, bs_size]
            have hAl : A.size ≤ 40000 := by
              have h4 := tail_len 10001 ((x.ps.take j).map (getW s)) (by
                intro a ha
                obtain ⟨p, _, rfl⟩ := List.mem_map.1 ha
                exact getW_len HSM.out HI.out p)
              have h5 := HXS.out
              rw [List.length_map, List.length_take] at h4
              have h6 : min j x.ps.length * (10001 + 1) ≤ 3 * (10001 + 1) := Nat.mul_le_mul_right _ (by omega)
              rw [hA0, List.length_append]
              omega
            have HFR := Lib.hid (((hbr.block _ (lt_of_block HXR.out)).trans HXR.out : RBox wr _ x))
            have HCW : Hid (wr.heap[cb]? = some (.cells (cellsC s.a (.slice oa n cc)) 26 (0, 0))) := Lib.hid ((hbr.block _ (lt_of_block HCX.out)).trans HCX.out)
            obtain ⟨f0, f1, f2, f3⟩ := RBox.cells HFR.out
            have hfsz : (bs x.fs).size = x.fs.length := bs_size _
            clear hA hbr
            by_cases hlj : j < x.fs.length
            · have hj1 : (j : Int) < (x.fs.length : Int) := by omega
              have hj3 : (j : Int) < 3 := by have := HXS.out; omega
              obtain ⟨f, hf⟩ : ∃ f, x.fs[j]? = some f := ⟨_, List.getElem?_eq_getElem hlj⟩
              have hf6 := HXL.out f (List.mem_of_getElem? hf)
              have HTK : Hid ((x.ps.take (j + 1)).map (getW s) = (x.ps.take j).map (getW s) ++ [getW s (place2 (x.o != 0) f)]) := Lib.hid (by
                unfold ConP.Fr.ps
                rw [List.take_add_one, List.getElem?_map, hf, List.map_append]
                rfl)
              have hix := idx_is (bs x.fs) j (by rw [bs_size]; exact hlj) f (by
                have e : (bs x.fs)[j]'(by rw [bs_size]; exact hlj) = x.fs[j]'hlj := by rfl
                rw [e]
                rw [List.getElem?_eq_getElem hlj] at hf
                injection hf) wr
              clear hf
              rcases hf6 with rfl | rfl | rfl | rfl | rfl | rfl
              · cases hop : (x.o != 0) with
                | true =>
                  have HPL : Hid (place2 (x.o != 0) 112 = .op) := Lib.hid (by rw [hop]; rfl)
                  have cv : wr.cell? ⟨cb, 4, none⟩ = some (.string (s.a.o.p)) := by rw [Lib.cell_of_heap HCW.out]; rfl
                  obtain ⟨V, hV⟩ : ∃ V, V = bs (getW s .op) := ⟨_, rfl⟩
                  have HV := Lib.hid hV
                  have hvl : V.size ≤ 10001 := by rw [hV, bs_size]; exact getW_len HSM.out HI.out .op
                  have v1 : ¬ 9223372036854775807 < A.size + 1 := by omega
                  have v2 : ¬ 9223372036854775807 < A.size + 1 + V.size := by omega
                  have HAN : Hid (A ++ (⟨#[32]⟩ : ByteArray) ++ V = bs (x.w ++ tailW ((x.ps.take (j + 1)).map (getW s)))) := Lib.hid (by
                    rw [hV, HA.out, HTK.out, HPL.out]
                    apply ByteArray.ext
                    apply Array.toList_inj.1
                    simp [bs, tailW])
                  clear hvl hA0 hAl
                  have hVs : s.a.o.p = V := hV.symm
                  rw [hVs] at cv
                  clear hV hVs
                  go_wp2_with fail
                  exact ⟨⟨j + 1, _, by omega, by simp, rfl, HAN.out, HBL.out⟩, by simp [intOf]; omega⟩
                | false =>
                  have HPL : Hid (place2 (x.o != 0) 112 = .p) := Lib.hid (by rw [hop]; rfl)
                  have cv : wr.cell? ⟨cb, 13, none⟩ = some (.string (s.a.p)) := by rw [Lib.cell_of_heap HCW.out]; rfl
                  obtain ⟨V, hV⟩ : ∃ V, V = bs (getW s .p) := ⟨_, rfl⟩
                  have HV := Lib.hid hV
                  have hvl : V.size ≤ 10001 := by rw [hV, bs_size]; exact getW_len HSM.out HI.out .p
                  have v1 : ¬ 9223372036854775807 < A.size + 1 := by omega
                  have v2 : ¬ 9223372036854775807 < A.size + 1 + V.size := by omega
                  have HAN : Hid (A ++ (⟨#[32]⟩ : ByteArray) ++ V = bs (x.w ++ tailW ((x.ps.take (j + 1)).map (getW s)))) := Lib.hid (by
                    rw [hV, HA.out, HTK.out, HPL.out]
                    apply ByteArray.ext
                    apply Array.toList_inj.1
                    simp [bs, tailW])
                  clear hvl hA0 hAl
                  have hVs : s.a.p = V := hV.symm
                  rw [hVs] at cv
                  clear hV hVs
                  go_wp2_with fail
                  exact ⟨⟨j + 1, _, by omega, by simp, rfl, HAN.out, HBL.out⟩, by simp [intOf]; omega⟩
              · have HPL : Hid (place2 (x.o != 0) 113 = .ot) := Lib.hid (by cases (x.o != 0) <;> rfl)
                have cv : wr.cell? ⟨cb, 5, none⟩ = some (.string (s.a.o.t)) := by rw [Lib.cell_of_heap HCW.out]; rfl
                obtain ⟨V, hV⟩ : ∃ V, V = bs (getW s .ot) := ⟨_, rfl⟩
                have HV := Lib.hid hV
                have hvl : V.size ≤ 10001 := by rw [hV, bs_size]; exact getW_len HSM.out HI.out .ot
                have v1 : ¬ 9223372036854775807 < A.size + 1 := by omega
                have v2 : ¬ 9223372036854775807 < A.size + 1 + V.size := by omega
                have HAN : Hid (A ++ (⟨#[32]⟩ : ByteArray) ++ V = bs (x.w ++ tailW ((x.ps.take (j + 1)).map (getW s)))) := Lib.hid (by
                  rw [hV, HA.out, HTK.out, HPL.out]
                  apply ByteArray.ext
                  apply Array.toList_inj.1
                  simp [bs, tailW])
                clear hvl hA0 hAl
                have hVs : s.a.o.t = V := hV.symm
                rw [hVs] at cv
                clear hV hVs
                go_wp2_with fail
                exact ⟨⟨j + 1, _, by omega, by simp, rfl, HAN.out, HBL.out⟩, by simp [intOf]; omega⟩
              · have HPL : Hid (place2 (x.o != 0) 100 = .d) := Lib.hid (by cases (x.o != 0) <;> rfl)
                have cv : wr.cell? ⟨cb, 17, none⟩ = some (.string (s.a.d)) := by rw [Lib.cell_of_heap HCW.out]; rfl
                obtain ⟨V, hV⟩ : ∃ V, V = bs (getW s .d) := ⟨_, rfl⟩
                have HV := Lib.hid hV
                have hvl : V.size ≤ 10001 := by rw [hV, bs_size]; exact getW_len HSM.out HI.out .d
                have v1 : ¬ 9223372036854775807 < A.size + 1 := by omega
                have v2 : ¬ 9223372036854775807 < A.size + 1 + V.size := by omega
                have HAN : Hid (A ++ (⟨#[32]⟩ : ByteArray) ++ V = bs (x.w ++ tailW ((x.ps.take (j + 1)).map (getW s)))) := Lib.hid (by
                  rw [hV, HA.out, HTK.out, HPL.out]
                  apply ByteArray.ext
                  apply Array.toList_inj.1
                  simp [bs, tailW])
                clear hvl hA0 hAl
                clear hV
                go_wp2_with fail
                refine (rhex_any s.a.d (by have := HSM.out.2.2; omega) wr).mono ?_
                rintro e w9 ⟨rfl, hb9⟩
                rw [show bs (hexS (s.a.d).data.toList) = V from HV.out.symm]
                have HBL9 := Lib.hid (bstep' HBL.out hb9)
                clear hb9
                go_wp2_with fail
                exact ⟨⟨j + 1, _, by omega, by simp, rfl, HAN.out, HBL9.out⟩, by simp [intOf]; omega⟩
              · cases hop : (x.o != 0) with
                | true =>
                  have HPL : Hid (place2 (x.o != 0) 110 = .oz) := Lib.hid (by rw [hop]; rfl)
                  have cv : wr.cell? ⟨cb, 6, none⟩ = some (.int .i64 s.a.o.sz) := by rw [Lib.cell_of_heap HCW.out]; rfl
                  obtain ⟨V, hV⟩ : ∃ V, V = bs (getW s .oz) := ⟨_, rfl⟩
                  have HV := Lib.hid hV
                  have hvl : V.size ≤ 10001 := by rw [hV, bs_size]; exact getW_len HSM.out HI.out .oz
                  have v1 : ¬ 9223372036854775807 < A.size + 1 := by omega
                  have v2 : ¬ 9223372036854775807 < A.size + 1 + V.size := by omega
                  have HAN : Hid (A ++ (⟨#[32]⟩ : ByteArray) ++ V = bs (x.w ++ tailW ((x.ps.take (j + 1)).map (getW s)))) := Lib.hid (by
                    rw [hV, HA.out, HTK.out, HPL.out]
                    apply ByteArray.ext
                    apply Array.toList_inj.1
                    simp [bs, tailW])
                  clear hvl hA0 hAl
                  clear hV
                  go_wp2_with fail
                  refine (Dec_any s.a.o.sz (HI.out .oz).1 (HI.out .oz).2 wr).mono ?_
                  rintro e w9 ⟨rfl, kd, rfl⟩
                  rw [show bs (Lib.itoa s.a.o.sz) = V from HV.out.symm]
                  have HBL9 := Lib.hid (below_drewN HBL.out kd)
                  go_wp2_with fail
                  exact ⟨⟨j + 1, _, by omega, by simp, rfl, HAN.out, HBL9.out⟩, by simp [intOf]; omega⟩
                | false =>
                  have HPL : Hid (place2 (x.o != 0) 110 = .z) := Lib.hid (by rw [hop]; rfl)
                  have cv : wr.cell? ⟨cb, 16, none⟩ = some (.int .i64 s.a.s) := by rw [Lib.cell_of_heap HCW.out]; rfl
                  obtain ⟨V, hV⟩ : ∃ V, V = bs (getW s .z) := ⟨_, rfl⟩
                  have HV := Lib.hid hV
                  have hvl : V.size ≤ 10001 := by rw [hV, bs_size]; exact getW_len HSM.out HI.out .z
                  have v1 : ¬ 9223372036854775807 < A.size + 1 := by omega
                  have v2 : ¬ 9223372036854775807 < A.size + 1 + V.size := by omega
                  have HAN : Hid (A ++ (⟨#[32]⟩ : ByteArray) ++ V = bs (x.w ++ tailW ((x.ps.take (j + 1)).map (getW s)))) := Lib.hid (by
                    rw [hV, HA.out, HTK.out, HPL.out]
                    apply ByteArray.ext
                    apply Array.toList_inj.1
                    simp [bs, tailW])
                  clear hvl hA0 hAl
                  clear hV
                  go_wp2_with fail
                  refine (Dec_any s.a.s (HI.out .z).1 (HI.out .z).2 wr).mono ?_
                  rintro e w9 ⟨rfl, kd, rfl⟩
                  rw [show bs (Lib.itoa s.a.s) = V from HV.out.symm]
                  have HBL9 := Lib.hid (below_drewN HBL.out kd)
                  go_wp2_with fail
                  exact ⟨⟨j + 1, _, by omega, by simp, rfl, HAN.out, HBL9.out⟩, by simp [intOf]; omega⟩
              · cases hop : (x.o != 0) with
                | true =>
                  have HPL : Hid (place2 (x.o != 0) 104 = .oh) := Lib.hid (by rw [hop]; rfl)
                  have cv : wr.cell? ⟨cb, 7, none⟩ = some (.int .i64 s.a.o.h) := by rw [Lib.cell_of_heap HCW.out]; rfl
                  obtain ⟨V, hV⟩ : ∃ V, V = bs (getW s .oh) := ⟨_, rfl⟩
                  have HV := Lib.hid hV
                  have hvl : V.size ≤ 10001 := by rw [hV, bs_size]; exact getW_len HSM.out HI.out .oh
                  have v1 : ¬ 9223372036854775807 < A.size + 1 := by omega
                  have v2 : ¬ 9223372036854775807 < A.size + 1 + V.size := by omega
                  have HAN : Hid (A ++ (⟨#[32]⟩ : ByteArray) ++ V = bs (x.w ++ tailW ((x.ps.take (j + 1)).map (getW s)))) := Lib.hid (by
                    rw [hV, HA.out, HTK.out, HPL.out]
                    apply ByteArray.ext
                    apply Array.toList_inj.1
                    simp [bs, tailW])
                  clear hvl hA0 hAl
                  clear hV
                  go_wp2_with fail
                  refine (Dec_any s.a.o.h (HI.out .oh).1 (HI.out .oh).2 wr).mono ?_
                  rintro e w9 ⟨rfl, kd, rfl⟩
                  rw [show bs (Lib.itoa s.a.o.h) = V from HV.out.symm]
                  have HBL9 := Lib.hid (below_drewN HBL.out kd)
                  go_wp2_with fail
                  exact ⟨⟨j + 1, _, by omega, by simp, rfl, HAN.out, HBL9.out⟩, by simp [intOf]; omega⟩
                | false =>
                  have HPL : Hid (place2 (x.o != 0) 104 = .h) := Lib.hid (by rw [hop]; rfl)
                  have cv : wr.cell? ⟨cb, 14, none⟩ = some (.int .i64 s.a.h) := by rw [Lib.cell_of_heap HCW.out]; rfl
                  obtain ⟨V, hV⟩ : ∃ V, V = bs (getW s .h) := ⟨_, rfl⟩
                  have HV := Lib.hid hV
                  have hvl : V.size ≤ 10001 := by rw [hV, bs_size]; exact getW_len HSM.out HI.out .h
                  have v1 : ¬ 9223372036854775807 < A.size + 1 := by omega
                  have v2 : ¬ 9223372036854775807 < A.size + 1 + V.size := by omega
                  have HAN : Hid (A ++ (⟨#[32]⟩ : ByteArray) ++ V = bs (x.w ++ tailW ((x.ps.take (j + 1)).map (getW s)))) := Lib.hid (by
                    rw [hV, HA.out, HTK.out, HPL.out]
                    apply ByteArray.ext
                    apply Array.toList_inj.1
                    simp [bs, tailW])
                  clear hvl hA0 hAl
                  clear hV
                  go_wp2_with fail
                  refine (Dec_any s.a.h (HI.out .h).1 (HI.out .h).2 wr).mono ?_
                  rintro e w9 ⟨rfl, kd, rfl⟩
                  rw [show bs (Lib.itoa s.a.h) = V from HV.out.symm]
                  have HBL9 := Lib.hid (below_drewN HBL.out kd)
                  go_wp2_with fail
                  exact ⟨⟨j + 1, _, by omega, by simp, rfl, HAN.out, HBL9.out⟩, by simp [intOf]; omega⟩
              · have HPL : Hid (place2 (x.o != 0) 111 = .of) := Lib.hid (by cases (x.o != 0) <;> rfl)
                have cv : wr.cell? ⟨cb, 15, none⟩ = some (.int .i64 s.a.f) := by rw [Lib.cell_of_heap HCW.out]; rfl
                obtain ⟨V, hV⟩ : ∃ V, V = bs (getW s .of) := ⟨_, rfl⟩
                have HV := Lib.hid hV
                have hvl : V.size ≤ 10001 := by rw [hV, bs_size]; exact getW_len HSM.out HI.out .of
                have v1 : ¬ 9223372036854775807 < A.size + 1 := by omega
                have v2 : ¬ 9223372036854775807 < A.size + 1 + V.size := by omega
                have HAN : Hid (A ++ (⟨#[32]⟩ : ByteArray) ++ V = bs (x.w ++ tailW ((x.ps.take (j + 1)).map (getW s)))) := Lib.hid (by
                  rw [hV, HA.out, HTK.out, HPL.out]
                  apply ByteArray.ext
                  apply Array.toList_inj.1
                  simp [bs, tailW])
                clear hvl hA0 hAl
                clear hV
                go_wp2_with fail
                refine (Dec_any s.a.f (HI.out .of).1 (HI.out .of).2 wr).mono ?_
                rintro e w9 ⟨rfl, kd, rfl⟩
                rw [show bs (Lib.itoa s.a.f) = V from HV.out.symm]
                have HBL9 := Lib.hid (below_drewN HBL.out kd)
                go_wp2_with fail
                exact ⟨⟨j + 1, _, by omega, by simp, rfl, HAN.out, HBL9.out⟩, by simp [intOf]; omega⟩
            · obtain rfl : j = x.fs.length := by omega
              have HFIN : Hid (A = bs (rcall s)) := Lib.hid (by
                rw [HA.out, HRC.out]
                unfold ConP.Fr.ps
                rw [List.take_of_length_le (by simp)])
              clear hlj hA0 hAl hj
              go_wp2_with fail
              go_ret
              exact ⟨congrArg (fun q => Ending.returned (.string q)) HFIN.out, bstep' HB2.out (bstep' HBL3.out HBL.out)⟩
    · obtain rfl : k = 19 := by omega
      have HRES : Hid (rcall s = []) := Lib.hid (by
        have e : rforms.find? (fits s.a) = none := by
          have h := HNO.out
          rw [List.take_of_length_le (show rforms.length ≤ 19 by decide)] at h
          exact h
        unfold rcall
        rw [e])
      clear hlt hk
      go_wp2_with fail
      go_ret
      exact ⟨by rw [HRES.out]; rfl, bstep' HB2.out HBL.out⟩
end Go.Proofs.YtiffmigihhcgcaaGreatDoor.ConW
