/- console.Parse. -/
import Derived.Test.YtiffmigihhcgcaaGreatDoorConParse
namespace Go.Proofs.YtiffmigihhcgcaaGreatDoor.ConW
set_option maxRecDepth 100000
set_option linter.constructorNameAsVariable false
open Go.RowKit ConP
open PathW (Strs strV strinfo ext_mid ext_drop str_list list_size Rds)
theorem wds_len : ∀ p : Bs, (wds p).length ≤ p.length + 1 ∧ ∀ y ∈ wds p, y.length ≤ p.length
  | [] => by simp [wds]
  | c :: p => by
    obtain ⟨h1, h2⟩ := wds_len p
    by_cases hc : c = 32
    · subst hc
      rw [wds_blank]
      refine ⟨by simp; omega, fun y hy => ?_⟩
      rcases List.mem_cons.1 hy with rfl | hy
      · simp
      · have := h2 y hy; simp; omega
    · obtain ⟨s, r, e1, e2⟩ := wds_cons c p hc
      rw [e2]
      rw [e1] at h1 h2
      refine ⟨by simp at h1 ⊢; omega, fun y hy => ?_⟩
      rcases List.mem_cons.1 hy with rfl | hy
      · have := h2 s (by simp); simp; omega
      · have := h2 y (by simp [hy]); simp; omega
theorem flat_part {α : Type} (f : α → List Value) (n : Nat) (hf : ∀ x, (f x).length = n) : ∀ (l : List α) (k : Nat) (x : α), l[k]? = some x → ((l.flatMap f).drop (k * n)).take n = f x
  | [], k, x, h => by simp at h
  | y :: l, 0, x, h => by
    simp at h
    subst h
    rw [List.flatMap_cons, Nat.zero_mul, List.drop_zero, List.take_append_of_le_length (by rw [hf]; exact Nat.le_refl _), List.take_of_length_le (by rw [hf]; exact Nat.le_refl _)]
  | y :: l, k + 1, x, h => by
    have ih := flat_part f n hf l k x (by simpa using h)
    rw [List.flatMap_cons, Nat.succ_mul, Nat.add_comm, ← List.drop_drop]
    have e : (f y ++ l.flatMap f).drop n = l.flatMap f := by
      have := hf y
      rw [← this]; simp
    rw [e, ih]
theorem form_part {k : Nat} {x : Fm} (h : forms[k]? = some x) : formCells.extract (k * 5) (k * 5 + 5) = (fmCells x).toArray := by
  apply Array.toList_inj.1
  rw [Array.toList_extract, List.extract_eq_take_drop]
  have e := flat_part fmCells 5 (fun _ => rfl) forms k x h
  rw [show k * 5 + 5 - k * 5 = 5 by omega]
  exact e
theorem run_form (k : Nat) (hk : k < 27) (x : Fm) (hx : forms[k]? = some x) (w : World) : (Instr.index 51 (.agg formCells) (.int .i64 (k : Int))).run Tryz.prog w = .ok (.agg (fmCells x).toArray) w := by
  have h1 : (0 : Int) ≤ (k : Int) ∧ (k : Int) < 27 := by omega
  have hi : Tryz.prog.info? 50 ≠ none := by
    intro e
    have := fmSize
    rw [e] at this; cases this
  cases hq : Tryz.prog.info? 50 with
  | none => exact absurd hq hi
  | some i =>
    have hs : i.size = 5 := by have := fmSize; rw [hq] at this; simpa using this
    have e := form_part hx
    simp [Instr.index, run_underlying Tryz.underlying51, run_underlying Tryz.underlying50, asIntOf, part, isAgg, sizeOf, typeInfo, hq, hs]
    rw [if_pos hk, e]
def zeroF : Array Value := #[.string ⟨#[]⟩, .int .i64 0, .int .i64 0, .int .i64 0, .string ⟨#[]⟩]
theorem form_short : ∀ x ∈ forms, x.fs.length ≤ 10 := by decide
/-- what the program makes of a line -/
def parseR (l : Bs) : Value := match parseP (wds l) with | some t => .tuple #[.agg (cellsS t noV 0 noV), .int .i64 0] | none => .tuple #[.agg zeroS, .int .i64 320]
set_option maxHeartbeats 3200000 in
theorem Parse_any (s : ByteArray) (hs : s.size ≤ 1000000) (w : World) (hv : PV w) :
    Calls Tryz.prog 10 #[.string s] w fun e w' => e = .returned (parseR s.data.toList) ∧ Below w.heap.size w w' := by
  have HV := Lib.hid hv
  clear hv
  go_enter Tryz.func10, Tryz.ntmps10
  go_wp2_with fail
  change Calls _ _ _ (w.alloc (.cells zeroS 31)) _
  have ha := below_alloc w (.cells zeroS 31)
  have hr0 := heap_alloc_new w (.cells zeroS 31)
  have HA := Lib.hid ha
  have HR0 := Lib.hid hr0
  clear ha hr0
  generalize w.alloc (.cells zeroS 31) = w1 at *
  refine (cut_any s hs w1).mono ?_
  rintro e w2 ⟨v, rfl, hstr, hb2⟩
  obtain ⟨l, hl⟩ : ∃ l, l = wds s.data.toList := ⟨_, rfl⟩
  have HL := Lib.hid hl
  have hlw := wds_len s.data.toList
  rw [list_size] at hlw
  rw [← hl] at hstr hlw
  obtain ⟨oa, cap, rfl⟩ := hstr.form
  have HCAP : Hid (l.length ≤ cap) := Lib.hid (Strs.cap hstr).2
  have HRD := Lib.hid (Rds.of_strs hstr)
  have HNE : Hid (l ≠ []) := Lib.hid (by rw [hl]; exact wds_ne _)
  have HLL : Hid (l.length ≤ 1000001 ∧ ∀ y ∈ l, y.length ≤ 1000000) := Lib.hid ⟨by omega, fun y hy => by have := hlw.2 y hy; omega⟩
  have HB2 := Lib.hid (bstep' HA.out hb2)
  have HRB : Hid (w2.heap[w.heap.size]? = some (.cells zeroS 31 (0, 0))) := Lib.hid ((hb2.block _ (lt_of_block HR0.out)).trans HR0.out)
  have HV2 := Lib.hid (HV.out.keep HB2.out)
  obtain ⟨t0, fr, hfv⟩ := HV2.out.fv
  have HFV := Lib.hid hfv
  obtain ⟨rb, hrb⟩ : ∃ rb, rb = w.heap.size := ⟨_, rfl⟩
  rw [← hrb] at HRB
  have HRW : Hid (w.heap.size ≤ rb ∧ rb < w2.heap.size) := Lib.hid ⟨by omega, lt_of_block HRB.out⟩
  have HSZ : Hid ((Tryz.prog.info? 51).map (·.size) = some formCells.size) := Lib.hid (by rw [show formCells.size = 135 from rfl]; kernel_rfl)
  rw [← hrb]
  clear hl hstr hb2 hlw hrb hfv HV HA HR0
  obtain ⟨fc, hfc⟩ : ∃ fc, fc = formCells := ⟨_, rfl⟩
  rw [← hfc] at HFV HSZ
  have HFC := Lib.hid hfc
  clear hfc
  go_wp2_with ((with_reducible (refine wpList_load_row rfl 51 (Operand.global 0) rfl 0 ?_ t0 fc fr _ ?_ Tryz.underlying51 ?_ ?_ ?_)); (· rfl); (· exact HFV.out); (· rfl); (· exact HSZ.out))
  go_loopw [12] (fun c wr => ∃ k : Nat, k ≤ 27 ∧ c = .int .i64 (k : Int) ∧ (forms.take k).findSome? (parseF · l) = none ∧ Below w2.heap.size w2 wr) (fun c _ => ((27 : Int) - intOf c).toNat)
  case atStart => exact ⟨0, by omega, rfl, rfl, Below.refl _ _⟩
  case round =>
    obtain ⟨k, hk, rfl, hno, hbl⟩ := hrel
    have HNO := Lib.hid hno
    have HBL := Lib.hid hbl
    clear hno hbl
    by_cases hlt : k < 27
    · have hk1 : (k : Int) < 27 := by omega
      obtain ⟨x, hx⟩ : ∃ x, forms[k]? = some x := ⟨_, List.getElem?_eq_getElem (by rw [forms_len]; exact hlt)⟩
      have HX : Hid ((forms.take (k + 1)).findSome? (parseF · l) = parseF x l) := Lib.hid (by
        rw [List.take_add_one, hx, List.findSome?_append, HNO.out]
        simp)
      have HXF : Hid (x.fs.length ≤ 10) := Lib.hid (form_short x (List.mem_of_getElem? hx))
      have HPP : Hid (∀ t, parseF x l = some t → parseR s.data.toList = .tuple #[.agg (cellsS t noV 0 noV), .int .i64 0]) := Lib.hid fun t ht => by
        unfold parseR
        rw [← HL.out]
        have : parseP l = some t := by
          unfold parseP
          conv => lhs; rw [← List.take_append_drop (k + 1) forms]
          rw [List.findSome?_append, HX.out, ht]; rfl
        rw [this]
      have hix := run_form k hlt x hx wr
      rw [← HFC.out] at hix
      obtain ⟨xc, hxc⟩ : ∃ xc, xc = (fmCells x).toArray := ⟨_, rfl⟩
      have HXC := Lib.hid hxc
      have X1 : Hid (xc.all (·.oneCell') = true) := Lib.hid (by rw [hxc]; exact fm_one x)
      have X2 : Hid ((Tryz.prog.info? 50).map (·.size) = some xc.size) := Lib.hid (by rw [hxc]; exact fmSize)
      have X3 : Hid (zeroF.size = xc.size) := Lib.hid (by rw [hxc]; rfl)
      rw [← hxc] at hix
      clear hx hxc
      have HBL3 : Hid (Below w2.heap.size w2 ((wr.alloc (.cells zeroF 50)).setRow wr.heap.size xc)) := Lib.hid (below_row (HBL.out.alloc HBL.out.size _) HBL.out.size _)
      have HXB : Hid (((wr.alloc (.cells zeroF 50)).setRow wr.heap.size xc).heap[wr.heap.size]? = some (.cells xc 50 (0, 0))) := Lib.hid (setRow_heap _ _ _ _ _ _ (heap_alloc_new _ _))
      go_wp2_with (first
        | ((with_reducible (refine wpList_store_rowTo rfl 50 (Operand.tmp 6) (Operand.tmp 14) rfl rfl wr.heap.size xc ?_ ?_ 50 zeroF ?_ ?_ ?_ ?_ ?_)); (· rfl); (· rfl); (· exact heap_alloc_new _ _); (· exact X2.out); (· exact X3.out); (· exact X1.out))
        | ((with_reducible (refine wpList_load_row rfl 50 (Operand.tmp 6) rfl wr.heap.size ?_ 50 xc (0, 0) _ ?_ Tryz.underlying50 ?_ ?_ ?_)); (· rfl); (· exact HXB.out); (· rfl); (· exact X2.out)))
      change Calls _ _ _ ((wr.alloc (.cells zeroF 50)).setRow wr.heap.size xc) _
      have hpa := parse_any x HXF.out l HNE.out HLL.out.1 HLL.out.2 oa cap HCAP.out ((wr.alloc (.cells zeroF 50)).setRow wr.heap.size xc) (HV2.out.cv.keep HBL3.out) (rds_grow HRD.out HBL3.out)
      rw [← HXC.out] at hpa
      refine hpa.mono ?_
      rintro e w4 ⟨rfl, hb4⟩
      have HBL4 : Hid (Below w2.heap.size w2 w4) := Lib.hid (bstep' HBL3.out hb4)
      clear hpa hb4 HBL3 HXB HXC X1 X2 X3 hix
      obtain ⟨ct, ok, hv, hct⟩ : ∃ ct ok, parseV x l = .tuple #[.agg ct, .bool ok] ∧ ct = cellsS ((parseF x l).getD (stp0 0 0 0)) noV 0 noV ∧ ok = (parseF x l).isSome := ⟨_, _, rfl, rfl, rfl⟩
      have HCT := Lib.hid hct
      have C1 : Hid (ct.all (·.oneCell') = true) := Lib.hid (by rw [hct.1]; exact cells_one _ _)
      have C2 : Hid ((Tryz.prog.info? 31).map (·.size) = some ct.size) := Lib.hid (by rw [hct.1]; exact stepSize)
      have C3 : Hid (zeroS.size = ct.size) := Lib.hid (by rw [hct.1]; rfl)
      rw [hv]
      clear hv hct
      have HBL5 : Hid (Below w2.heap.size w2 ((w4.alloc (.cells zeroS 31)).setRow w4.heap.size ct)) := Lib.hid (below_row (HBL4.out.alloc HBL4.out.size _) HBL4.out.size _)
      have HSB : Hid (((w4.alloc (.cells zeroS 31)).setRow w4.heap.size ct).heap[w4.heap.size]? = some (.cells ct 31 (0, 0))) := Lib.hid (setRow_heap _ _ _ _ _ _ (heap_alloc_new _ _))
      cases ok with
      | false =>
        have HNF : Hid (parseF x l = none) := Lib.hid (by
          have := HCT.out.2
          cases hp : parseF x l with
          | none => rfl
          | some t => rw [hp] at this; cases this)
        go_wp2_with ((with_reducible (refine wpList_store_rowTo rfl 31 (Operand.tmp 7) (Operand.tmp 19) rfl rfl w4.heap.size ct ?_ ?_ 31 zeroS ?_ ?_ ?_ ?_ ?_)); (· rfl); (· rfl); (· exact heap_alloc_new _ _); (· exact C2.out); (· exact C3.out); (· exact C1.out))
        exact ⟨⟨k + 1, by omega, by simp, by rw [HX.out]; exact HNF.out, HBL5.out⟩, by simp [intOf]; omega⟩
      | true =>
        have HRES : Hid (parseR s.data.toList = .tuple #[.agg ct, .int .i64 0]) := Lib.hid (by
          have h2 := HCT.out
          cases hp : parseF x l with
          | none => rw [hp] at h2; cases h2.2
          | some t => rw [HPP.out t hp, h2.1, hp]; rfl)
        have HRB5 : Hid (((w4.alloc (.cells zeroS 31)).setRow w4.heap.size ct).heap[rb]? = some (.cells zeroS 31 (0, 0))) := Lib.hid ((HBL5.out.block rb HRW.out.2).trans HRB.out)
        have HB6 : Hid (Below w.heap.size w ((w4.alloc (.cells zeroS 31)).setRow w4.heap.size ct)) := Lib.hid (bstep' HB2.out HBL5.out)
        go_wp2_with (first
          | ((with_reducible (refine wpList_store_rowTo rfl 31 (Operand.tmp 7) (Operand.tmp 19) rfl rfl w4.heap.size ct ?_ ?_ 31 zeroS ?_ ?_ ?_ ?_ ?_)); (· rfl); (· rfl); (· exact heap_alloc_new _ _); (· exact C2.out); (· exact C3.out); (· exact C1.out))
          | ((with_reducible (refine wpList_load_row rfl 31 (Operand.tmp 7) rfl w4.heap.size ?_ 31 ct (0, 0) _ ?_ Tryz.underlying31 ?_ ?_ ?_)); (· rfl); (· exact HSB.out); (· rfl); (· exact C2.out))
          | ((with_reducible (refine wpList_store_rowTo rfl 31 (Operand.tmp 2) (Operand.tmp 22) rfl rfl rb ct ?_ ?_ 31 zeroS ?_ ?_ ?_ ?_ ?_)); (· rfl); (· rfl); (· exact HRB5.out); (· exact C2.out); (· exact C3.out); (· exact C1.out)))
        refine OpW.ret_row Tryz.results10 rfl rfl (setRow_heap _ _ _ _ _ _ HRB5.out) Tryz.underlying31 rfl C2.out ?_
        exact ⟨congrArg Ending.returned HRES.out.symm, below_row HB6.out HRW.out.1 _⟩
    · obtain rfl : k = 27 := by omega
      have HRES : Hid (parseR s.data.toList = .tuple #[.agg zeroS, .int .i64 320]) := Lib.hid (by
        unfold parseR
        rw [← HL.out]
        have : parseP l = none := by
          have h := HNO.out
          rw [List.take_of_length_le (by rw [forms_len]; exact Nat.le_refl _)] at h
          exact h
        rw [this])
      have HRBR : Hid (wr.heap[rb]? = some (.cells zeroS 31 (0, 0))) := Lib.hid ((HBL.out.block rb HRW.out.2).trans HRB.out)
      have HB6 : Hid (Below w.heap.size w wr) := Lib.hid (bstep' HB2.out HBL.out)
      clear hlt hk
      go_wp2_with ((with_reducible (refine wpList_store_rowTo rfl 31 (Operand.tmp 2) (Operand.tmp 24) rfl rfl rb zeroS ?_ ?_ 31 zeroS ?_ ?_ ?_ ?_ ?_)); (· rfl); (· rfl); (· exact HRBR.out); (· exact zeroS_size); (· rfl); (· exact zeroS_one))
      refine OpW.ret_row Tryz.results10 rfl rfl (setRow_heap _ _ _ _ _ _ HRBR.out) Tryz.underlying31 rfl zeroS_size ?_
      exact ⟨congrArg Ending.returned HRES.out.symm, below_row HB6.out HRW.out.1 _⟩
end Go.Proofs.YtiffmigihhcgcaaGreatDoor.ConW
