/- console.Line. -/
import Derived.Test.YtiffmigihhcgcaaGreatDoorConLineW
import Derived.Test.YtiffmigihhcgcaaGreatDoorConSameP
namespace Go.Proofs.YtiffmigihhcgcaaGreatDoor.ConW
set_option maxRecDepth 100000
set_option linter.constructorNameAsVariable false
set_option linter.unusedVariables false
open Go.RowKit ConP OpP OpW
open PathW (Strs strV strinfo ext_mid ext_drop str_list list_size Rds)
theorem putW_m {s t : Stp} {p : Pl} {w : Bs} (h : putW s p w = some t) : t.a.o.m = s.a.o.m := by
  rcases put_form h with ⟨v, rfl⟩ | ⟨v, rfl⟩
  all_goals (cases p <;> rfl)
theorem putAll_m : ∀ {ps : List Pl} {ws : List Bs} {s t : Stp}, putAll s ps ws = some t → t.a.o.m = s.a.o.m
  | [], [], _, _, h => by injection h with h; rw [h]
  | [], _ :: _, _, _, h => by simp [putAll] at h
  | _ :: _, [], _, _, h => by simp [putAll] at h
  | p :: ps, w :: ws, s, t, h => by
    rw [putAll] at h
    cases hp : putW s p w with
    | none => rw [hp] at h; cases h
    | some s' =>
      rw [hp] at h
      exact (putAll_m (s := s') h).trans (putW_m hp)
theorem parseP_m {l : List Bs} {q : Stp} (h : parseP l = some q) : q.a.o.m = [] := by
  obtain ⟨x, _, hf⟩ := parseP_some h
  unfold parseF at hf
  cases hb : bodyW x l with
  | none => rw [hb] at hf; cases hf
  | some r => rw [hb] at hf; exact putAll_m hf
theorem line_any (x : Fm) (hfl : x.fs.length ≤ 10) (s : Stp) (hk : s.a.k = x.c) (hr : Num s) (hjl : (joinW (lineL x s)).length ≤ 1000000) (m c : Value) (hm : m.oneCell' = true) (hc : c.oneCell' = true) (z : Int) (w : World) (hv : CV w) :
    Calls Tryz.prog 12 #[.agg (fmCells x).toArray, .agg (cellsS s m z c)] w fun e w' => e = .returned (.string (bs (joinW (lineL x s)))) ∧ Below w.heap.size w w' := by
  by_cases h : x.k = 1
  · exact line_call x h hfl s hk hr (by omega) m c hm hc z w hv
  · exact line_rest x h hfl s hk hr (by omega) m c hm hc z w hv
/-- what Line answers -/
def lineR (s : Stp) (z : Bool) : Value := match lineP s z with | some t => .tuple #[.string (bs t), .int .i64 0] | none => .tuple #[.string ⟨#[]⟩, .int .i64 11]
theorem parseR_some {t : Bs} {q : Stp} (h : parseP (wds t) = some q) : parseR t = .tuple #[.agg (cellsS q noV 0 noV), .int .i64 0] := by unfold parseR; rw [h]
theorem parseR_none {t : Bs} (h : parseP (wds t) = none) : parseR t = .tuple #[.agg zeroS, .int .i64 320] := by unfold parseR; rw [h]
theorem psame_is (a b : Stp) (v : Bool) (oa ob pa pb : Option Addr) (na nb ca cb pna pnb pca pcb : Nat) (za zb : Int) (hv : (sameS a b && za == zb && pna == pnb) = v) (hz : pna = pnb → pna = 0) (ha : na = a.a.o.m.length) (hb : nb = b.a.o.m.length) (zx : a.a.o.m.length ≤ 1000000) (zy : b.a.o.m.length ≤ 1000000) (w : World) (h1 : MvAt w oa a.a.o.m) (h2 : MvAt w ob b.a.o.m) :
    Calls Tryz.prog 13 #[.agg (cellsS a (.slice oa na ca) za (.slice pa pna pca)), .agg (cellsS b (.slice ob nb cb) zb (.slice pb pnb pcb))] w fun e w' => e = .returned (.bool v) ∧ Below w.heap.size w w' := by
  rw [← hv]; exact psame_any a b oa ob pa pb na nb ca cb pna pnb pca pcb za zb hz ha hb zx zy w h1 h2
theorem mv_nil (w : World) {l : List Mv} (h : l = []) : MvAt w none l := by subst h; intro j x hx; simp at hx
theorem wpList_load_rowG {P : Program} {ops : Array Oper} {rest : List Oper} {o : Oper} {a : Act} {w : World} {Q : Exit → Act → World → Prop} (hw : Region.wanted o (yielded ops a.tmps) = true) (ty : TypeId) (x : Operand) (ho : o.op = .load ty x)
    (g : Nat) (hx : a.eval x = .pointer (some ⟨g, 0, none⟩)) (t : TypeId) (cs : Array Value) (fr : Nat × Nat) (d : TypeDesc) (hg : w.heap[g]? = some (.cells cs t fr))
    (hu : P.underlying ty = some d) (hd : (match d with | .struct _ | .array _ _ => true | _ => false) = true) (hi : (P.info? ty).map (·.size) = some cs.size)
    (h : wpList P ops Q rest (a.put o.dst (.agg cs)) w) : wpList P ops Q (o :: rest) a w := by
  unfold wpList
  rw [if_pos hw]
  exact .inl (wp_load_row ty x ho g hx t cs fr d hg hu hd hi h)
theorem sbox_keys {w : World} {b : Nat} {s : Stp} {m c : Value} {z : Int} (h : SBox w b s m z c) : w.cell? ⟨b, 0, none⟩ = some (.int .i64 s.k) ∧ w.cell? ⟨b, 4, none⟩ = some (.int .i64 s.a.k) ∧ w.cell? ⟨b, 7, none⟩ = some (.int .i64 s.a.o.k) := ⟨h.cell 0 _ rfl, h.cell 4 _ rfl, h.cell 7 _ rfl⟩
set_option maxHeartbeats 6400000 in
theorem Line_any (s : Stp) (hr : Num s) (hsz : ∀ x ∈ forms, x.key = s.key → (joinW (lineL x s)).length ≤ 1000000) (oa pa : Option Addr) (n cc pn pc : Nat) (hn : n = s.a.o.m.length) (hm6 : s.a.o.m.length ≤ 1000000) (z : Int) (w : World) (hmv : MvAt w oa s.a.o.m) (hv : PV w) :
    Calls Tryz.prog 6 #[.agg (cellsS s (.slice oa n cc) z (.slice pa pn pc))] w fun e w' => e = .returned (lineR s ((0 : Int) == z && 0 == pn)) ∧ Below w.heap.size w w' := by
  have HR := Lib.hid hr
  have HSZ := Lib.hid hsz
  have HN := Lib.hid hn
  have HM6 := Lib.hid hm6
  have HMV := Lib.hid hmv
  obtain ⟨ss, hss⟩ : ∃ ss, ss = cellsS s (.slice oa n cc) z (.slice pa pn pc) := ⟨_, rfl⟩
  have HSS := Lib.hid hss
  have S1 : Hid (ss.all (·.oneCell') = true) := Lib.hid (by rw [hss]; simp [cellsS, Value.oneCell'])
  have S2 : Hid ((Tryz.prog.info? 31).map (·.size) = some ss.size) := Lib.hid (by rw [hss]; exact stepSize)
  have HB1 := Lib.hid (below_alloc w (.cells ss 31))
  have HSB : Hid ((w.alloc (.cells ss 31)).heap[w.heap.size]? = some (.cells ss 31 (0, 0))) := Lib.hid (heap_alloc_new _ _)
  have HV1 := Lib.hid (hv.keep HB1.out)
  obtain ⟨t0, fr, hfv⟩ := HV1.out.fv
  have HFV := Lib.hid hfv
  obtain ⟨fc, hfc⟩ : ∃ fc, fc = formCells := ⟨_, rfl⟩
  have HFC := Lib.hid hfc
  rw [← hfc] at HFV
  have HFZ : Hid ((Tryz.prog.info? 51).map (·.size) = some fc.size) := Lib.hid (by rw [hfc, show formCells.size = 135 from rfl]; kernel_rfl)
  rw [← hss]
  clear hr hsz hn hm6 hmv hss hv hfv hfc
  go_enter Tryz.func6, Tryz.ntmps6
  go_wp2_with ((with_reducible (refine wpList_load_row rfl 51 (Operand.global 0) rfl 0 ?_ t0 fc fr _ ?_ Tryz.underlying51 ?_ ?_ ?_)); (· rfl); (· exact HFV.out); (· rfl); (· exact HFZ.out))
  generalize w.alloc (.cells ss 31) = w1 at *
  obtain ⟨sb, hsb⟩ : ∃ sb, sb = w.heap.size := ⟨_, rfl⟩
  rw [← hsb] at HSB
  have HLT : Hid (sb < w1.heap.size ∧ w.heap.size ≤ w1.heap.size) := Lib.hid ⟨lt_of_block HSB.out, HB1.out.size⟩
  rw [← hsb]
  clear hsb
  go_loopw [10] (fun c wr => ∃ k : Nat, k ≤ 27 ∧ c = .int .i64 (k : Int) ∧ (forms.take k).findSome? (fun x => if x.key = s.key then tryF s ((0 : Int) == z && 0 == pn) x else none) = none ∧ Below w1.heap.size w1 wr) (fun c _ => ((27 : Int) - intOf c).toNat)
  case atStart => exact ⟨0, by omega, rfl, rfl, Below.refl _ _⟩
  case round =>
    obtain ⟨k, hk, rfl, hno, hbl⟩ := hrel
    have HNO := Lib.hid hno
    have HBL := Lib.hid hbl
    clear hno hbl
    by_cases hlt : k < 27
    · have hk1 : (k : Int) < 27 := by omega
      obtain ⟨x, hx⟩ : ∃ x, forms[k]? = some x := ⟨_, List.getElem?_eq_getElem (by rw [forms_len]; exact hlt)⟩
      have HXM : Hid (x ∈ forms) := Lib.hid (List.mem_of_getElem? hx)
      have HX : Hid ((forms.take (k + 1)).findSome? (fun x => if x.key = s.key then tryF s ((0 : Int) == z && 0 == pn) x else none) = if x.key = s.key then tryF s ((0 : Int) == z && 0 == pn) x else none) := Lib.hid (by
        rw [List.take_add_one, hx, List.findSome?_append, HNO.out]
        simp)
      have HPP : Hid (∀ t, x.key = s.key → tryF s ((0 : Int) == z && 0 == pn) x = some t → lineR s ((0 : Int) == z && 0 == pn) = .tuple #[.string (bs t), .int .i64 0]) := Lib.hid fun t hk ht => by
        unfold lineR
        have : lineP s ((0 : Int) == z && 0 == pn) = some t := by
          unfold lineP
          conv => lhs; rw [← List.take_append_drop (k + 1) forms]
          rw [List.findSome?_append, HX.out, if_pos hk, ht]; rfl
        rw [this]
      have hix := run_form k hlt x hx wr
      rw [← HFC.out] at hix
      obtain ⟨xc, hxc⟩ : ∃ xc, xc = (fmCells x).toArray := ⟨_, rfl⟩
      have HXC := Lib.hid hxc
      have X1 : Hid (xc.all (·.oneCell') = true) := Lib.hid (by rw [hxc]; exact fm_one x)
      have X2 : Hid ((Tryz.prog.info? 50).map (·.size) = some xc.size) := Lib.hid (by rw [hxc]; exact fmSize)
      have X3 : Hid (zeroF.size = xc.size) := Lib.hid (by rw [hxc]; rfl)
      rw [← hxc] at hix
      clear hx hxc
      have HBL3 : Hid (Below w1.heap.size w1 ((wr.alloc (.cells zeroF 50)).setRow wr.heap.size xc)) := Lib.hid (below_row (HBL.out.alloc HBL.out.size _) HBL.out.size _)
      have HXB : Hid (((wr.alloc (.cells zeroF 50)).setRow wr.heap.size xc).heap[wr.heap.size]? = some (.cells xc 50 (0, 0))) := Lib.hid (setRow_heap _ _ _ _ _ _ (heap_alloc_new _ _))
      have HSX : Hid (((wr.alloc (.cells zeroF 50)).setRow wr.heap.size xc).heap[sb]? = some (.cells ss 31 (0, 0))) := Lib.hid ((HBL3.out.block sb HLT.out.1).trans HSB.out)
      obtain ⟨f0, f1, f2, f3, f4⟩ : _ ∧ _ ∧ _ ∧ _ ∧ _ := FBox.cells (w := (wr.alloc (.cells zeroF 50)).setRow wr.heap.size xc) (b := wr.heap.size) (x := x) (by unfold FBox; rw [← HXC.out]; exact HXB.out)
      have hsx : SBox ((wr.alloc (.cells zeroF 50)).setRow wr.heap.size xc) sb s (.slice oa n cc) z (.slice pa pn pc) := by unfold SBox; rw [← HSS.out]; exact HSX.out
      obtain ⟨s0, s4, s7⟩ := sbox_keys hsx
      clear f0 f4 hsx
      by_cases hkey : x.key = s.key
      · have hk1' := hkey
        unfold Fm.key Stp.key at hk1'
        simp only [Prod.mk.injEq] at hk1'
        obtain ⟨e1, e2, e3⟩ := hk1'
        have HK2 : Hid (s.a.k = x.c) := Lib.hid e2.symm
        have HKEY := Lib.hid hkey
        have h1 : (x.k != s.k) = false := by rw [e1]; exact bne_self_eq_false _
        have h2 : (x.c != s.a.k) = false := by rw [e2]; exact bne_self_eq_false _
        have h3 : (x.o != s.a.o.k) = false := by rw [e3]; exact bne_self_eq_false _
        have HFL : Hid (x.fs.length ≤ 10) := Lib.hid (form_short x HXM.out)
        clear hkey e1 e2 e3
        go_wp2_with (first
          | ((with_reducible (refine wpList_store_rowTo rfl 50 (Operand.tmp 5) (Operand.tmp 12) rfl rfl wr.heap.size xc ?_ ?_ 50 zeroF ?_ ?_ ?_ ?_ ?_)); (· rfl); (· rfl); (· exact heap_alloc_new _ _); (· exact X2.out); (· exact X3.out); (· exact X1.out); change wpList _ _ _ _ _ ((wr.alloc (.cells zeroF 50)).setRow wr.heap.size xc); generalize (wr.alloc (.cells zeroF 50)).setRow wr.heap.size xc = w3 at *; generalize wr.heap.size = g3 at *)
          | ((with_reducible (refine wpList_load_row rfl 50 (Operand.tmp 5) rfl g3 ?_ 50 xc (0, 0) _ ?_ Tryz.underlying50 ?_ ?_ ?_)); (· rfl); (· exact HXB.out); (· rfl); (· exact X2.out))
          | ((with_reducible (refine wpList_load_row rfl 31 (Operand.tmp 1) rfl sb ?_ 31 ss (0, 0) _ ?_ Tryz.underlying31 ?_ ?_ ?_)); (· rfl); (· exact HSX.out); (· rfl); (· exact S2.out)))
        clear f1 f2 f3 s0 s4 s7 h1 h2 h3 hix
        have hla := line_any x HFL.out s HK2.out HR.out (HSZ.out x HXM.out HKEY.out) (.slice oa n cc) (.slice pa pn pc) rfl rfl z w3 (HV1.out.cv.keep HBL3.out)
        rw [← HXC.out, ← HSS.out] at hla
        refine hla.mono ?_
        rintro e w4 ⟨rfl, hb4⟩
        have HBL4 : Hid (Below w1.heap.size w1 w4) := Lib.hid (bstep' HBL3.out hb4)
        clear hla hb4
        obtain ⟨tx, htx⟩ : ∃ tx, tx = joinW (lineL x s) := ⟨_, rfl⟩
        have HTX := Lib.hid htx
        have HTL : Hid ((bs tx).size ≤ 1000000) := Lib.hid (by rw [bs_size, htx]; exact HSZ.out x HXM.out HKEY.out)
        have HTRY : Hid (tryF s ((0 : Int) == z && 0 == pn) x = if saysB tx s ((0 : Int) == z && 0 == pn) then some tx else none) := Lib.hid (by unfold tryF; rw [← htx])
        rw [← htx]
        clear htx
        go_wp2_with fail
        refine (Parse_any (bs tx) HTL.out w4 (HV1.out.keep HBL4.out)).mono ?_
        rintro e w5 ⟨rfl, hb5⟩
        have HBL5 : Hid (Below w1.heap.size w1 w5) := Lib.hid (bstep' HBL4.out hb5)
        clear hb5
        rw [bs_data]
        have HBL6 : ∀ ct, Hid (Below w1.heap.size w1 ((w5.alloc (.cells zeroS 31)).setRow w5.heap.size ct)) := fun ct => Lib.hid (below_row (HBL5.out.alloc HBL5.out.size _) HBL5.out.size _)
        cases hp : parseP (wds tx) with
        | none =>
          have HNF : Hid ((forms.take (k + 1)).findSome? (fun x => if x.key = s.key then tryF s ((0 : Int) == z && 0 == pn) x else none) = none) := Lib.hid (by
            rw [HX.out, if_pos HKEY.out, HTRY.out]
            unfold saysB
            rw [hp]; rfl)
          rw [parseR_none hp]
          have H6 := HBL6 zeroS
          clear hp
          go_wp2_with ((with_reducible (refine wpList_store_rowTo rfl 31 (Operand.tmp 7) (Operand.tmp 41) rfl rfl w5.heap.size zeroS ?_ ?_ 31 zeroS ?_ ?_ ?_ ?_ ?_)); (· rfl); (· rfl); (· exact heap_alloc_new _ _); (· exact zeroS_size); (· rfl); (· exact zeroS_one); change wpList _ _ _ _ _ ((w5.alloc (.cells zeroS 31)).setRow w5.heap.size zeroS); generalize (w5.alloc (.cells zeroS 31)).setRow w5.heap.size zeroS = w6 at *)
          all_goals exact ⟨⟨k + 1, by omega, by simp, HNF.out, H6.out⟩, by simp [intOf]; omega⟩
        | some q =>
          have HQM := Lib.hid (parseP_m hp)
          have HSAY : Hid (saysB tx s ((0 : Int) == z && 0 == pn) = (sameS q s && (0 : Int) == z && 0 == pn)) := Lib.hid (by
            unfold saysB
            rw [hp]
            simp only
            rw [Bool.and_assoc])
          rw [parseR_some hp]
          clear hp
          obtain ⟨ct, hct⟩ : ∃ ct, ct = cellsS q noV 0 noV := ⟨_, rfl⟩
          have HCT := Lib.hid hct
          have C1 : Hid (ct.all (·.oneCell') = true) := Lib.hid (by rw [hct]; exact cells_one _ _)
          have C2 : Hid ((Tryz.prog.info? 31).map (·.size) = some ct.size) := Lib.hid (by rw [hct]; exact stepSize)
          have C3 : Hid (zeroS.size = ct.size) := Lib.hid (by rw [hct]; rfl)
          have H6 := HBL6 ct
          have HCB : Hid (((w5.alloc (.cells zeroS 31)).setRow w5.heap.size ct).heap[w5.heap.size]? = some (.cells ct 31 (0, 0))) := Lib.hid (setRow_heap _ _ _ _ _ _ (heap_alloc_new _ _))
          have HSX6 : Hid (((w5.alloc (.cells zeroS 31)).setRow w5.heap.size ct).heap[sb]? = some (.cells ss 31 (0, 0))) := Lib.hid ((H6.out.block sb HLT.out.1).trans HSB.out)
          rw [← hct]
          clear hct HBL6
          go_wp2_with (first
            | ((with_reducible (refine wpList_store_rowTo rfl 31 (Operand.tmp 7) (Operand.tmp 41) rfl rfl w5.heap.size ct ?_ ?_ 31 zeroS ?_ ?_ ?_ ?_ ?_)); (· rfl); (· rfl); (· exact heap_alloc_new _ _); (· exact C2.out); (· exact C3.out); (· exact C1.out); change wpList _ _ _ _ _ ((w5.alloc (.cells zeroS 31)).setRow w5.heap.size ct); generalize (w5.alloc (.cells zeroS 31)).setRow w5.heap.size ct = w6 at *; generalize w5.heap.size = g5 at *)
            | ((with_reducible (refine wpList_load_rowG ?_ 31 (Operand.tmp 7) rfl g5 ?_ 31 ct (0, 0) _ ?_ Tryz.underlying31 ?_ ?_ ?_)); (· rfl); (· rfl); (· exact HCB.out); (· rfl); (· exact C2.out))
            | ((with_reducible (refine wpList_load_rowG ?_ 31 (Operand.tmp 1) rfl sb ?_ 31 ss (0, 0) _ ?_ Tryz.underlying31 ?_ ?_ ?_)); (· rfl); (· rfl); (· exact HSX6.out); (· rfl); (· exact S2.out)))
          have HB06 : Hid (Below w.heap.size w w6) := Lib.hid (bstep' HB1.out H6.out)
          cases hv : (sameS q s && (0 : Int) == z && 0 == pn) with
          | false =>
            have hsa := psame_is q s false none oa none pa 0 n 0 cc 0 pn 0 pc 0 z hv (fun _ => rfl) (by rw [HQM.out]; rfl) HN.out (by rw [HQM.out]; simp) HM6.out w6 (mv_nil w6 HQM.out) (HMV.out.grow HB06.out)
            have HNF : Hid ((forms.take (k + 1)).findSome? (fun x => if x.key = s.key then tryF s ((0 : Int) == z && 0 == pn) x else none) = none) := Lib.hid (by
              rw [HX.out, if_pos HKEY.out, HTRY.out, HSAY.out, hv]; rfl)
            rw [show cellsS q (.slice none 0 0) 0 (.slice none 0 0) = ct from HCT.out.symm, ← HSS.out] at hsa
            clear hv
            refine hsa.mono ?_
            rintro e w7 ⟨rfl, hb7⟩
            have H7 := Lib.hid (bstep' H6.out hb7)
            clear hsa hb7
            go_wp2_with fail
            all_goals exact ⟨⟨k + 1, by omega, by simp, HNF.out, H7.out⟩, by simp [intOf]; omega⟩
          | true =>
            have hsa := psame_is q s true none oa none pa 0 n 0 cc 0 pn 0 pc 0 z hv (fun _ => rfl) (by rw [HQM.out]; rfl) HN.out (by rw [HQM.out]; simp) HM6.out w6 (mv_nil w6 HQM.out) (HMV.out.grow HB06.out)
            have HRES : Hid (lineR s ((0 : Int) == z && 0 == pn) = .tuple #[.string (bs tx), .int .i64 0]) := Lib.hid (HPP.out tx HKEY.out (by
              rw [HTRY.out, HSAY.out, hv]; rfl))
            rw [show cellsS q (.slice none 0 0) 0 (.slice none 0 0) = ct from HCT.out.symm, ← HSS.out] at hsa
            clear hv
            refine hsa.mono ?_
            rintro e w7 ⟨rfl, hb7⟩
            have H7 := Lib.hid (bstep' HB06.out hb7)
            clear hsa hb7
            go_wp2_with fail
            go_ret2
            exact ⟨congrArg Ending.returned HRES.out.symm, H7.out⟩
      · have HNF : Hid ((forms.take (k + 1)).findSome? (fun x => if x.key = s.key then tryF s ((0 : Int) == z && 0 == pn) x else none) = none) := Lib.hid (by rw [HX.out, if_neg hkey])
        have hq : (x.k != s.k) = true ∨ ((x.k != s.k) = false ∧ (x.c != s.a.k) = true) ∨ ((x.k != s.k) = false ∧ (x.c != s.a.k) = false ∧ (x.o != s.a.o.k) = true) := by
          by_cases h1 : x.k = s.k
          · by_cases h2 : x.c = s.a.k
            · by_cases h3 : x.o = s.a.o.k
              · exact absurd (by unfold Fm.key Stp.key; rw [h1, h2, h3]) hkey
              · exact .inr (.inr ⟨by rw [h1]; exact bne_self_eq_false _, by rw [h2]; exact bne_self_eq_false _, bne_iff_ne.2 h3⟩)
            · exact .inr (.inl ⟨by rw [h1]; exact bne_self_eq_false _, bne_iff_ne.2 h2⟩)
          · exact .inl (bne_iff_ne.2 h1)
        clear hkey
        rcases hq with h1 | ⟨h1, h2⟩ | ⟨h1, h2, h3⟩
        all_goals
          go_wp2_with ((with_reducible (refine wpList_store_rowTo rfl 50 (Operand.tmp 5) (Operand.tmp 12) rfl rfl wr.heap.size xc ?_ ?_ 50 zeroF ?_ ?_ ?_ ?_ ?_)); (· rfl); (· rfl); (· exact heap_alloc_new _ _); (· exact X2.out); (· exact X3.out); (· exact X1.out); change wpList _ _ _ _ _ ((wr.alloc (.cells zeroF 50)).setRow wr.heap.size xc); generalize (wr.alloc (.cells zeroF 50)).setRow wr.heap.size xc = w3 at *; generalize wr.heap.size = g3 at *)
          all_goals exact ⟨⟨k + 1, by omega, by simp, HNF.out, HBL3.out⟩, by simp [intOf]; omega⟩
    · obtain rfl : k = 27 := by omega
      have HRES : Hid (lineR s ((0 : Int) == z && 0 == pn) = .tuple #[.string ⟨#[]⟩, .int .i64 11]) := Lib.hid (by
        unfold lineR
        have : lineP s ((0 : Int) == z && 0 == pn) = none := by
          have h := HNO.out
          rw [List.take_of_length_le (by rw [forms_len]; exact Nat.le_refl _)] at h
          exact h
        rw [this])
      have HB6 : Hid (Below w.heap.size w wr) := Lib.hid (bstep' HB1.out HBL.out)
      clear hlt hk
      go_wp2_with fail
      go_ret2
      exact ⟨congrArg Ending.returned HRES.out.symm, HB6.out⟩
end Go.Proofs.YtiffmigihhcgcaaGreatDoor.ConW
