/- The document's Parse. -/
import Derived.Test.YtiffmigihhcgcaaGreatDoorConRRead
import Derived.Test.YtiffmigihhcgcaaGreatDoorConParseA
import Derived.Test.YtiffmigihhcgcaaGreatDoorOpDraw
namespace Go.Proofs.YtiffmigihhcgcaaGreatDoor.ConW
set_option maxRecDepth 100000
set_option linter.constructorNameAsVariable false
set_option linter.unusedVariables false
open Go.RowKit ConP
open PathW (Strs strV strinfo ext_mid ext_drop str_list list_size Rds)
theorem rforms_let : ∀ x ∈ rforms, ∀ f ∈ x.fs, f = 112 ∨ f = 113 ∨ f = 100 ∨ f = 110 ∨ f = 104 ∨ f = 111 := by decide
theorem rparse_one (a : Bs) : rparse [a] = if a = [111] then some (stp0 8 0 0) else none := rfl
theorem rparse_two (a b : Bs) : rparse [a, b] = (numW b).bind fun (n : Nat) => rone a (n : Int) := rfl
theorem rparse_more (a b c : Bs) (r : List Bs) (ha : a ≠ [99]) : rparse (a :: b :: c :: r) = if r = [] ∧ a = [103] then (numW b).bind fun (n : Nat) => (numW c).map fun (m : Nat) => ⟨2, (n : Int), 0, (m : Int), cal0 0 0⟩ else none := by
  simp only [rparse]
  rw [if_neg ha]
theorem rparse_call (b c : Bs) (r : List Bs) : rparse ([99] :: b :: c :: r) = (numW b).bind fun (n : Nat) => rcallP (n : Int) c r := by
  simp only [rparse, if_true]
theorem shape (l : List Bs) (h : l ≠ []) : (∃ a, l = [a]) ∨ (∃ a b, l = [a, b]) ∨ (∃ a b c r, l = a :: b :: c :: r ∧ a ≠ [99]) ∨ ∃ b c r, l = [99] :: b :: c :: r := by
  match l, h with
  | [a], _ => exact .inl ⟨a, rfl⟩
  | [a, b], _ => exact .inr (.inl ⟨a, b, rfl⟩)
  | a :: b :: c :: r, _ =>
    by_cases ha : a = [99]
    · exact .inr (.inr (.inr ⟨b, c, r, by rw [ha]⟩))
    · exact .inr (.inr (.inl ⟨a, b, c, r, rfl, ha⟩))
theorem put_head {s t : Stp} {p : Pl} {w : Bs} (h : putW s p w = some t) (hp : inC p = true) : t.k = s.k ∧ t.c = s.c ∧ t.n = s.n ∧ t.f = s.f := by
  rcases put_form h with ⟨v, rfl⟩ | ⟨v, rfl⟩
  all_goals (cases p <;> first | exact ⟨rfl, rfl, rfl, rfl⟩ | (exfalso; revert hp; decide))
theorem putAll_head : ∀ {ps : List Pl} {ws : List Bs} {s t : Stp}, putAll s ps ws = some t → (∀ p ∈ ps, inC p = true) → t.k = s.k ∧ t.c = s.c ∧ t.n = s.n ∧ t.f = s.f
  | [], [], _, _, h, _ => by injection h with h; rw [h]; exact ⟨rfl, rfl, rfl, rfl⟩
  | [], _ :: _, _, _, h, _ => by simp [putAll] at h
  | _ :: _, [], _, _, h, _ => by simp [putAll] at h
  | p :: ps, w :: ws, s, t, h, hp => by
    rw [putAll] at h
    cases hw : putW s p w with
    | none => rw [hw] at h; cases h
    | some s' =>
      rw [hw] at h
      obtain ⟨h1, h2, h3, h4⟩ := putAll_head (s := s') h (fun q hq => hp q (by simp [hq]))
      obtain ⟨g1, g2, g3, g4⟩ := put_head hw (hp p (by simp))
      exact ⟨h1.trans g1, h2.trans g2, h3.trans g3, h4.trans g4⟩
theorem rreadS_head {k : Int} {x : ConP.Fr} {l : List Bs} {t : Stp} (h : rreadS k x l = some t) : t = ⟨1, k, 0, 0, t.a⟩ := by
  obtain ⟨h1, h2, h3, h4⟩ := putAll_head h (fun p hp => by
    unfold Fr.ps at hp
    obtain ⟨f, _, rfl⟩ := List.mem_map.1 hp
    exact place2_in _ _)
  obtain ⟨a, b, c, d, e⟩ := t
  simp only at h1 h2 h3 h4
  subst h1; subst h2; subst h3; subst h4; rfl
theorem run_loadVar_part (w : World) (p : Addr) (ty : TypeId) (cs : List Value) (d : TypeDesc) (hc : ∀ j v, cs[j]? = some v → w.cell? (p.add j) = some v)
    (hu : Tryz.prog.underlying ty = some d) (hd : (match d with | .struct _ | .array _ _ => true | _ => false) = true) (hi : (Tryz.prog.info? ty).map (·.size) = some cs.length) :
    (loadVar ty p).run Tryz.prog w = .ok (.agg cs.toArray) w := by
  have hl := run_loadCells_list (P := Tryz.prog) w p cs hc
  cases hq : Tryz.prog.info? ty with
  | none => simp [hq] at hi
  | some i =>
    have hs : i.size = cs.length := by simpa [hq] using hi
    have hagg : (isAgg ty).run Tryz.prog w = .ok true w := by
      unfold isAgg
      rw [Sem.run_bind, run_underlying hu w]
      cases d <;> simp_all
    simp [loadVar, Sem.run_bind, hagg, sizeOf, typeInfo, hq, hs, hl]
theorem wp_enters {P : Program} {o : Oper} {a : Act} {w : World} {K : Act → World → Prop} {Q : Exit → Act → World → Prop} (d : Option Tmp) {f : FuncId} {args : Array Value} (hd : o.dst = d)
    (hr : (execOp a.eval o).run P w = .ok (.enter f args) w) (v : Value) (R : World → Prop) (hc : Calls P f args w fun e w' => e = .returned v ∧ R w') (h : ∀ w', R w' → K (a.put d v) w') : o.wp P a w K Q := by
  subst hd
  unfold Oper.wp
  rw [hr, Oper.upon_enter]
  refine hc.mono ?_
  rintro e w' ⟨rfl, hw⟩
  exact h w' hw
theorem wp_store_to {P : Program} {o : Oper} {a : Act} {w : World} {K : Act → World → Prop} {Q : Exit → Act → World → Prop} (ty : TypeId) (x y : Operand) (ho : o.op = .store ty x y) (hd : o.dst = none)
    (g : Nat) (cells : Array Value) (hx : a.eval x = .pointer (some ⟨g, 0, none⟩)) (hy : a.eval y = .agg cells)
    (t : TypeId) (old : Array Value) (hg : w.heap[g]? = some (.cells old t (0, 0))) (hi : (P.info? ty).map (·.size) = some cells.size)
    (hold : old.size = cells.size) (h1 : cells.all (·.oneCell') = true)
    (h : K a (w.setRow g cells)) : o.wp P a w K Q :=
  wp_store_row ty x y ho g cells hx hy t old hg hi hold h1 (by rw [hd]; exact h)
theorem built_call (m : Int) (a : Cal) : Tryz.prog.built 31 [(0, .int .i64 1), (1, .int .i64 m), (4, .agg (cellsC a noV))] = some (cellsS ⟨1, m, 0, 0, a⟩ noV 0 noV) := by kernel_rfl
theorem numI_none {b : Bs} (h : numW b = none) : numI b = -1 := by unfold numI; rw [h]
theorem numI_some {b : Bs} {n : Nat} (h : numW b = some n) : numI b = (n : Int) := by unfold numI; rw [h]
set_option maxHeartbeats 6400000 in
theorem RParse_any (s : ByteArray) (hs : s.size ≤ 1000000) (w : World) :
    Calls Tryz.prog 16 #[.string s] w fun e w' => e = .returned (parseR s.data.toList) ∧ Below w.heap.size w w' := by
  go_enter Tryz.func16, Tryz.ntmps16
  go_wp2_with fail
  change Calls _ _ _ (w.alloc (.cells zeroS 31)) _
  have ha := below_alloc w (.cells zeroS 31)
  have hr0 := heap_alloc_new w (.cells zeroS 31)
  have HA := Lib.hid ha
  have HR0 := Lib.hid hr0
  clear ha hr0
  generalize w.alloc (.cells zeroS 31) = w1 at *
  refine (words_any s hs w1).mono ?_
  rintro e w2 ⟨v, rfl, hstr, hb2⟩
  obtain ⟨l, hl⟩ : ∃ l, l = wds s.data.toList := ⟨_, rfl⟩
  have HL := Lib.hid hl
  have hlw := wds_len s.data.toList
  rw [list_size] at hlw
  rw [← hl] at hstr hlw
  obtain ⟨oa, cap, rfl⟩ := hstr.form
  have HCAP : Hid (l.length ≤ cap) := Lib.hid (Strs.cap hstr).2
  have HRD := Lib.hid (Rds.of_strs hstr)
  have hne : l ≠ [] := by rw [hl]; exact wds_ne _
  have HLL : Hid (l.length ≤ 1000001 ∧ ∀ y ∈ l, y.length ≤ 1000000) := Lib.hid ⟨by omega, fun y hy => by have := hlw.2 y hy; omega⟩
  have HB2 := Lib.hid (bstep' HA.out hb2)
  have HRB : Hid (w2.heap[w.heap.size]? = some (.cells zeroS 31 (0, 0))) := Lib.hid ((hb2.block _ (lt_of_block HR0.out)).trans HR0.out)
  obtain ⟨rb, hrb⟩ : ∃ rb, rb = w.heap.size := ⟨_, rfl⟩
  rw [← hrb] at HRB
  have HRW : Hid (w.heap.size ≤ rb ∧ rb < w2.heap.size) := Lib.hid ⟨by omega, lt_of_block HRB.out⟩
  rw [← hrb]
  clear hl hstr hb2 hlw hrb HA HR0
  have hsh := shape l hne
  clear hne
  rcases hsh with hsh | hsh | hsh | hsh
  · obtain ⟨a, hl⟩ := hsh
    have hlen : l.length = 1 := by rw [hl]; rfl
    have h01 : 0 < l.length := by omega
    obtain ⟨ad0, hoa0, had0, c0⟩ := rds_at HRD.out (i := 0) (y := a) (by rw [hl]; rfl)
    subst hoa0
    rw [add_zero'] at c0
    rw [hlen]
    by_cases ha : a = [111]
    · have q0 : ((bs a).toList == [111]) = true := str_eq ha
      have HRES : Hid (parseR s.data.toList = .tuple #[.agg (cellsS (stp0 8 0 0) noV 0 noV), .int .i64 0]) := Lib.hid (by
        unfold parseR
        rw [← HL.out, rparse_is, hl, rparse_one, if_pos ha])
      clear ha hl hlen h01 had0
      go_wp2_with ((with_reducible (refine wpList_store_rowTo rfl 31 (Operand.tmp 2) (Operand.tmp 85) rfl rfl rb (cellsS (stp0 8 0 0) noV 0 noV) ?_ ?_ 31 zeroS ?_ ?_ ?_ ?_ ?_)); (· rfl); (· rfl); (· exact HRB.out); (· exact stepSize); (· rfl); (· exact cells_one _ _))
      refine OpW.ret_row Tryz.results16 rfl rfl (setRow_heap _ _ _ _ _ _ (HRB.out)) Tryz.underlying31 rfl stepSize ?_
      exact ⟨congrArg Ending.returned HRES.out.symm, below_row (HB2.out) HRW.out.1 _⟩
    · have q0 : ((bs a).toList == [111]) = false := str_ne ha
      have HRES : Hid (parseR s.data.toList = .tuple #[.agg zeroS, .int .i64 320]) := Lib.hid (by
        unfold parseR
        rw [← HL.out, rparse_is, hl, rparse_one, if_neg ha])
      clear ha hl hlen h01 had0
      go_wp2_with ((with_reducible (refine wpList_store_rowTo rfl 31 (Operand.tmp 2) (Operand.tmp 113) rfl rfl rb (zeroS) ?_ ?_ 31 zeroS ?_ ?_ ?_ ?_ ?_)); (· rfl); (· rfl); (· exact HRB.out); (· exact zeroS_size); (· rfl); (· exact zeroS_one))
      refine OpW.ret_row Tryz.results16 rfl rfl (setRow_heap _ _ _ _ _ _ (HRB.out)) Tryz.underlying31 rfl zeroS_size ?_
      exact ⟨congrArg Ending.returned HRES.out.symm, below_row (HB2.out) HRW.out.1 _⟩
  · obtain ⟨a, b, hl⟩ := hsh
    have hlen : l.length = 2 := by rw [hl]; rfl
    obtain ⟨ad0, hoa0, had0, c0⟩ := rds_at HRD.out (i := 0) (y := a) (by rw [hl]; rfl)
    obtain ⟨ad1, hoa1, had1, c1⟩ := rds_at HRD.out (i := 1) (y := b) (by rw [hl]; rfl)
    subst hoa0
    obtain rfl : ad0 = ad1 := by injection hoa1
    clear hoa1
    rw [add_zero'] at c0
    rw [add_one'] at c1
    have HYL : Hid (b.length ≤ 1000000) := Lib.hid (HLL.out.2 b (by rw [hl]; simp))
    rw [hlen]
    have HL2 := Lib.hid hl
    clear hl hlen had0 had1
    go_wp2_with fail
    refine (rnum_any (bs b) (by rw [bs_size]; exact HYL.out) _).mono ?_
    rintro e w6 ⟨rfl, rfl⟩
    rw [bs_data]
    cases hn : numW b with
    | none =>
      rw [numI_none hn]
      have HRES : Hid (parseR s.data.toList = .tuple #[.agg zeroS, .int .i64 320]) := Lib.hid (by
        unfold parseR
        rw [← HL.out, rparse_is, HL2.out, rparse_two, hn, Option.bind_none])
      clear hn
      go_wp2_with ((with_reducible (refine wpList_store_rowTo rfl 31 (Operand.tmp 2) (Operand.tmp 113) rfl rfl rb (zeroS) ?_ ?_ 31 zeroS ?_ ?_ ?_ ?_ ?_)); (· rfl); (· rfl); (· exact HRB.out); (· exact zeroS_size); (· rfl); (· exact zeroS_one))
      refine OpW.ret_row Tryz.results16 rfl rfl (setRow_heap _ _ _ _ _ _ (HRB.out)) Tryz.underlying31 rfl zeroS_size ?_
      exact ⟨congrArg Ending.returned HRES.out.symm, below_row (HB2.out) HRW.out.1 _⟩
    | some m =>
      rw [numI_some hn]
      have h0 : decide ((m : Int) < 0) = false := decide_eq_false (by omega)
      have HRO : Hid (rparse l = rone a (m : Int)) := Lib.hid (by rw [HL2.out, rparse_two, hn]; rfl)
      clear hn
      by_cases ha : a = [104]
      · subst ha
        have q104 : ((bs [104]).toList == [104]) = true := str_eq rfl
        have q100 : ((bs [104]).toList == [100]) = false := str_ne (by decide)
        have q116 : ((bs [104]).toList == [116]) = false := str_ne (by decide)
        have q120 : ((bs [104]).toList == [120]) = false := str_ne (by decide)
        have q117 : ((bs [104]).toList == [117]) = false := str_ne (by decide)
        have q109 : ((bs [104]).toList == [109]) = false := str_ne (by decide)
        have HRES : Hid (parseR s.data.toList = .tuple #[.agg (cellsS ⟨3, 0, (m : Int), 0, cal0 0 0⟩ noV 0 noV), .int .i64 0]) := Lib.hid (by
          unfold parseR
          rw [← HL.out, rparse_is, HRO.out, show rone [104] (m : Int) = some ⟨3, 0, (m : Int), 0, cal0 0 0⟩ from rfl])
        generalize bs [104] = ya at *
        go_wp2_with ((with_reducible (refine wpList_store_rowTo rfl 31 (Operand.tmp 2) (Operand.tmp 120) rfl rfl rb (cellsS ⟨3, 0, (m : Int), 0, cal0 0 0⟩ noV 0 noV) ?_ ?_ 31 zeroS ?_ ?_ ?_ ?_ ?_)); (· rfl); (· rfl); (· exact HRB.out); (· exact stepSize); (· rfl); (· exact cells_one _ _))
        refine OpW.ret_row Tryz.results16 rfl rfl (setRow_heap _ _ _ _ _ _ (HRB.out)) Tryz.underlying31 rfl stepSize ?_
        exact ⟨congrArg Ending.returned HRES.out.symm, below_row (HB2.out) HRW.out.1 _⟩
      have q104 : ((bs a).toList == [104]) = false := str_ne ha
      have HA104 := Lib.hid ha
      clear ha
      by_cases ha : a = [100]
      · subst ha
        have q104 : ((bs [100]).toList == [104]) = false := str_ne (by decide)
        have q100 : ((bs [100]).toList == [100]) = true := str_eq rfl
        have q116 : ((bs [100]).toList == [116]) = false := str_ne (by decide)
        have q120 : ((bs [100]).toList == [120]) = false := str_ne (by decide)
        have q117 : ((bs [100]).toList == [117]) = false := str_ne (by decide)
        have q109 : ((bs [100]).toList == [109]) = false := str_ne (by decide)
        have HRES : Hid (parseR s.data.toList = .tuple #[.agg (cellsS ⟨4, 0, (m : Int), 0, cal0 0 0⟩ noV 0 noV), .int .i64 0]) := Lib.hid (by
          unfold parseR
          rw [← HL.out, rparse_is, HRO.out, show rone [100] (m : Int) = some ⟨4, 0, (m : Int), 0, cal0 0 0⟩ from rfl])
        generalize bs [100] = ya at *
        go_wp2_with ((with_reducible (refine wpList_store_rowTo rfl 31 (Operand.tmp 2) (Operand.tmp 124) rfl rfl rb (cellsS ⟨4, 0, (m : Int), 0, cal0 0 0⟩ noV 0 noV) ?_ ?_ 31 zeroS ?_ ?_ ?_ ?_ ?_)); (· rfl); (· rfl); (· exact HRB.out); (· exact stepSize); (· rfl); (· exact cells_one _ _))
        refine OpW.ret_row Tryz.results16 rfl rfl (setRow_heap _ _ _ _ _ _ (HRB.out)) Tryz.underlying31 rfl stepSize ?_
        exact ⟨congrArg Ending.returned HRES.out.symm, below_row (HB2.out) HRW.out.1 _⟩
      have q100 : ((bs a).toList == [100]) = false := str_ne ha
      have HA100 := Lib.hid ha
      clear ha
      by_cases ha : a = [116]
      · subst ha
        have q104 : ((bs [116]).toList == [104]) = false := str_ne (by decide)
        have q100 : ((bs [116]).toList == [100]) = false := str_ne (by decide)
        have q116 : ((bs [116]).toList == [116]) = true := str_eq rfl
        have q120 : ((bs [116]).toList == [120]) = false := str_ne (by decide)
        have q117 : ((bs [116]).toList == [117]) = false := str_ne (by decide)
        have q109 : ((bs [116]).toList == [109]) = false := str_ne (by decide)
        have HRES : Hid (parseR s.data.toList = .tuple #[.agg (cellsS ⟨5, 0, (m : Int), 0, cal0 0 0⟩ noV 0 noV), .int .i64 0]) := Lib.hid (by
          unfold parseR
          rw [← HL.out, rparse_is, HRO.out, show rone [116] (m : Int) = some ⟨5, 0, (m : Int), 0, cal0 0 0⟩ from rfl])
        generalize bs [116] = ya at *
        go_wp2_with ((with_reducible (refine wpList_store_rowTo rfl 31 (Operand.tmp 2) (Operand.tmp 128) rfl rfl rb (cellsS ⟨5, 0, (m : Int), 0, cal0 0 0⟩ noV 0 noV) ?_ ?_ 31 zeroS ?_ ?_ ?_ ?_ ?_)); (· rfl); (· rfl); (· exact HRB.out); (· exact stepSize); (· rfl); (· exact cells_one _ _))
        refine OpW.ret_row Tryz.results16 rfl rfl (setRow_heap _ _ _ _ _ _ (HRB.out)) Tryz.underlying31 rfl stepSize ?_
        exact ⟨congrArg Ending.returned HRES.out.symm, below_row (HB2.out) HRW.out.1 _⟩
      have q116 : ((bs a).toList == [116]) = false := str_ne ha
      have HA116 := Lib.hid ha
      clear ha
      by_cases ha : a = [120]
      · subst ha
        have q104 : ((bs [120]).toList == [104]) = false := str_ne (by decide)
        have q100 : ((bs [120]).toList == [100]) = false := str_ne (by decide)
        have q116 : ((bs [120]).toList == [116]) = false := str_ne (by decide)
        have q120 : ((bs [120]).toList == [120]) = true := str_eq rfl
        have q117 : ((bs [120]).toList == [117]) = false := str_ne (by decide)
        have q109 : ((bs [120]).toList == [109]) = false := str_ne (by decide)
        have HRES : Hid (parseR s.data.toList = .tuple #[.agg (cellsS ⟨6, (m : Int), 0, 0, cal0 0 0⟩ noV 0 noV), .int .i64 0]) := Lib.hid (by
          unfold parseR
          rw [← HL.out, rparse_is, HRO.out, show rone [120] (m : Int) = some ⟨6, (m : Int), 0, 0, cal0 0 0⟩ from rfl])
        generalize bs [120] = ya at *
        go_wp2_with ((with_reducible (refine wpList_store_rowTo rfl 31 (Operand.tmp 2) (Operand.tmp 132) rfl rfl rb (cellsS ⟨6, (m : Int), 0, 0, cal0 0 0⟩ noV 0 noV) ?_ ?_ 31 zeroS ?_ ?_ ?_ ?_ ?_)); (· rfl); (· rfl); (· exact HRB.out); (· exact stepSize); (· rfl); (· exact cells_one _ _))
        refine OpW.ret_row Tryz.results16 rfl rfl (setRow_heap _ _ _ _ _ _ (HRB.out)) Tryz.underlying31 rfl stepSize ?_
        exact ⟨congrArg Ending.returned HRES.out.symm, below_row (HB2.out) HRW.out.1 _⟩
      have q120 : ((bs a).toList == [120]) = false := str_ne ha
      have HA120 := Lib.hid ha
      clear ha
      by_cases ha : a = [117]
      · subst ha
        have q104 : ((bs [117]).toList == [104]) = false := str_ne (by decide)
        have q100 : ((bs [117]).toList == [100]) = false := str_ne (by decide)
        have q116 : ((bs [117]).toList == [116]) = false := str_ne (by decide)
        have q120 : ((bs [117]).toList == [120]) = false := str_ne (by decide)
        have q117 : ((bs [117]).toList == [117]) = true := str_eq rfl
        have q109 : ((bs [117]).toList == [109]) = false := str_ne (by decide)
        have HRES : Hid (parseR s.data.toList = .tuple #[.agg (cellsS ⟨7, 0, (m : Int), 0, cal0 0 0⟩ noV 0 noV), .int .i64 0]) := Lib.hid (by
          unfold parseR
          rw [← HL.out, rparse_is, HRO.out, show rone [117] (m : Int) = some ⟨7, 0, (m : Int), 0, cal0 0 0⟩ from rfl])
        generalize bs [117] = ya at *
        go_wp2_with ((with_reducible (refine wpList_store_rowTo rfl 31 (Operand.tmp 2) (Operand.tmp 136) rfl rfl rb (cellsS ⟨7, 0, (m : Int), 0, cal0 0 0⟩ noV 0 noV) ?_ ?_ 31 zeroS ?_ ?_ ?_ ?_ ?_)); (· rfl); (· rfl); (· exact HRB.out); (· exact stepSize); (· rfl); (· exact cells_one _ _))
        refine OpW.ret_row Tryz.results16 rfl rfl (setRow_heap _ _ _ _ _ _ (HRB.out)) Tryz.underlying31 rfl stepSize ?_
        exact ⟨congrArg Ending.returned HRES.out.symm, below_row (HB2.out) HRW.out.1 _⟩
      have q117 : ((bs a).toList == [117]) = false := str_ne ha
      have HA117 := Lib.hid ha
      clear ha
      by_cases ha : a = [109]
      · subst ha
        have q104 : ((bs [109]).toList == [104]) = false := str_ne (by decide)
        have q100 : ((bs [109]).toList == [100]) = false := str_ne (by decide)
        have q116 : ((bs [109]).toList == [116]) = false := str_ne (by decide)
        have q120 : ((bs [109]).toList == [120]) = false := str_ne (by decide)
        have q117 : ((bs [109]).toList == [117]) = false := str_ne (by decide)
        have q109 : ((bs [109]).toList == [109]) = true := str_eq rfl
        have HRES : Hid (parseR s.data.toList = .tuple #[.agg (cellsS ⟨10, 0, 0, (m : Int), cal0 0 0⟩ noV 0 noV), .int .i64 0]) := Lib.hid (by
          unfold parseR
          rw [← HL.out, rparse_is, HRO.out, show rone [109] (m : Int) = some ⟨10, 0, 0, (m : Int), cal0 0 0⟩ from rfl])
        generalize bs [109] = ya at *
        go_wp2_with ((with_reducible (refine wpList_store_rowTo rfl 31 (Operand.tmp 2) (Operand.tmp 140) rfl rfl rb (cellsS ⟨10, 0, 0, (m : Int), cal0 0 0⟩ noV 0 noV) ?_ ?_ 31 zeroS ?_ ?_ ?_ ?_ ?_)); (· rfl); (· rfl); (· exact HRB.out); (· exact stepSize); (· rfl); (· exact cells_one _ _))
        refine OpW.ret_row Tryz.results16 rfl rfl (setRow_heap _ _ _ _ _ _ (HRB.out)) Tryz.underlying31 rfl stepSize ?_
        exact ⟨congrArg Ending.returned HRES.out.symm, below_row (HB2.out) HRW.out.1 _⟩
      have q109 : ((bs a).toList == [109]) = false := str_ne ha
      have HA109 := Lib.hid ha
      clear ha
      have HRES : Hid (parseR s.data.toList = .tuple #[.agg zeroS, .int .i64 320]) := Lib.hid (by
        unfold parseR
        rw [← HL.out, rparse_is, HRO.out, show rone a (m : Int) = none from by unfold rone; rw [if_neg HA104.out, if_neg HA100.out, if_neg HA116.out, if_neg HA120.out, if_neg HA117.out, if_neg HA109.out]])
      go_wp2_with ((with_reducible (refine wpList_store_rowTo rfl 31 (Operand.tmp 2) (Operand.tmp 141) rfl rfl rb (zeroS) ?_ ?_ 31 zeroS ?_ ?_ ?_ ?_ ?_)); (· rfl); (· rfl); (· exact HRB.out); (· exact zeroS_size); (· rfl); (· exact zeroS_one))
      refine OpW.ret_row Tryz.results16 rfl rfl (setRow_heap _ _ _ _ _ _ (HRB.out)) Tryz.underlying31 rfl zeroS_size ?_
      exact ⟨congrArg Ending.returned HRES.out.symm, below_row (HB2.out) HRW.out.1 _⟩
  · obtain ⟨a, b, c, r, hl, hac⟩ := hsh
    obtain ⟨ad0, hoa0, had0, c0⟩ := rds_at HRD.out (i := 0) (y := a) (by rw [hl]; rfl)
    obtain ⟨ad1, hoa1, had1, c1⟩ := rds_at HRD.out (i := 1) (y := b) (by rw [hl]; rfl)
    obtain ⟨ad2, hoa2, had2, c2⟩ := rds_at HRD.out (i := 2) (y := c) (by rw [hl]; rfl)
    subst hoa0
    obtain rfl : ad0 = ad1 := by injection hoa1
    clear hoa1
    obtain rfl : ad0 = ad2 := by injection hoa2
    clear hoa2
    rw [add_zero'] at c0
    rw [add_one'] at c1
    rw [add_two'] at c2
    have HYL : Hid (b.length ≤ 1000000 ∧ c.length ≤ 1000000) := Lib.hid ⟨HLL.out.2 b (by rw [hl]; simp), HLL.out.2 c (by rw [hl]; simp)⟩
    have q99 : ((bs a).toList == [99]) = false := str_ne hac
    have HRP : Hid (rparse l = if r = [] ∧ a = [103] then (numW b).bind fun (n : Nat) => (numW c).map fun (m : Nat) => ⟨2, (n : Int), 0, (m : Int), cal0 0 0⟩ else none) := Lib.hid (by rw [hl, rparse_more a b c r hac])
    have hln : l.length = r.length + 3 := by rw [hl]; rfl
    obtain ⟨n, hn⟩ : ∃ n, n = l.length := ⟨_, rfl⟩
    have h1 : 3 ≤ (n : Int) := by omega
    have h2 : 2 < (n : Int) := by omega
    have h3 : 1 < (n : Int) := by omega
    have h4 : ((n : Int) == 1) = false := by rw [beq_eq_false_iff_ne]; omega
    have h5 : ((n : Int) == 2) = false := by rw [beq_eq_false_iff_ne]; omega
    have h6 : 0 < n := by omega
    have h7 : 1 < n := by omega
    have h8 : 2 < n := by omega
    have HNR : Hid (n = r.length + 3) := Lib.hid (by omega)
    rw [← hn]
    clear hl hln hn had0 had1 had2 hac
    go_wp2_with fail
    refine (rnum_any (bs b) (by rw [bs_size]; exact HYL.out.1) _).mono ?_
    rintro e w6 ⟨rfl, rfl⟩
    rw [bs_data]
    go_wp2_with fail
    refine (rnum_any (bs c) (by rw [bs_size]; exact HYL.out.2) _).mono ?_
    rintro e w6 ⟨rfl, rfl⟩
    rw [bs_data]
    by_cases hr : r = []
    · have h9 : ((n : Int) == 3) = true := by rw [beq_iff_eq]; have := HNR.out; rw [hr] at this; simp at this; omega
      by_cases ha : a = [103]
      · have q0 : ((bs a).toList == [103]) = true := str_eq ha
        cases hn : numW b with
        | none =>
          rw [numI_none hn]
          have HRES : Hid (parseR s.data.toList = .tuple #[.agg zeroS, .int .i64 320]) := Lib.hid (by
            unfold parseR
            rw [← HL.out, rparse_is, HRP.out, if_pos ⟨hr, ha⟩, hn, Option.bind_none])
          clear hn hr ha
          go_wp2_with ((with_reducible (refine wpList_store_rowTo rfl 31 (Operand.tmp 2) (Operand.tmp 113) rfl rfl rb (zeroS) ?_ ?_ 31 zeroS ?_ ?_ ?_ ?_ ?_)); (· rfl); (· rfl); (· exact HRB.out); (· exact zeroS_size); (· rfl); (· exact zeroS_one))
          refine OpW.ret_row Tryz.results16 rfl rfl (setRow_heap _ _ _ _ _ _ (HRB.out)) Tryz.underlying31 rfl zeroS_size ?_
          exact ⟨congrArg Ending.returned HRES.out.symm, below_row (HB2.out) HRW.out.1 _⟩
        | some m =>
          rw [numI_some hn]
          have h0 : 0 ≤ (m : Int) := by omega
          cases hk : numW c with
          | none =>
            rw [numI_none hk]
            have HRES : Hid (parseR s.data.toList = .tuple #[.agg zeroS, .int .i64 320]) := Lib.hid (by
              unfold parseR
              rw [← HL.out, rparse_is, HRP.out, if_pos ⟨hr, ha⟩, hn, hk, Option.bind_some, Option.map_none])
            clear hn hr ha hk
            go_wp2_with ((with_reducible (refine wpList_store_rowTo rfl 31 (Operand.tmp 2) (Operand.tmp 113) rfl rfl rb (zeroS) ?_ ?_ 31 zeroS ?_ ?_ ?_ ?_ ?_)); (· rfl); (· rfl); (· exact HRB.out); (· exact zeroS_size); (· rfl); (· exact zeroS_one))
            refine OpW.ret_row Tryz.results16 rfl rfl (setRow_heap _ _ _ _ _ _ (HRB.out)) Tryz.underlying31 rfl zeroS_size ?_
            exact ⟨congrArg Ending.returned HRES.out.symm, below_row (HB2.out) HRW.out.1 _⟩
          | some k =>
            rw [numI_some hk]
            have h00 : 0 ≤ (k : Int) := by omega
            have HRES : Hid (parseR s.data.toList = .tuple #[.agg (cellsS ⟨2, (m : Int), 0, (k : Int), cal0 0 0⟩ noV 0 noV), .int .i64 0]) := Lib.hid (by
              unfold parseR
              rw [← HL.out, rparse_is, HRP.out, if_pos ⟨hr, ha⟩, hn, hk, Option.bind_some, Option.map_some])
            clear hn hr ha hk
            go_wp2_with ((with_reducible (refine wpList_store_rowTo rfl 31 (Operand.tmp 2) (Operand.tmp 105) rfl rfl rb (cellsS ⟨2, (m : Int), 0, (k : Int), cal0 0 0⟩ noV 0 noV) ?_ ?_ 31 zeroS ?_ ?_ ?_ ?_ ?_)); (· rfl); (· rfl); (· exact HRB.out); (· exact stepSize); (· rfl); (· exact cells_one _ _))
            refine OpW.ret_row Tryz.results16 rfl rfl (setRow_heap _ _ _ _ _ _ (HRB.out)) Tryz.underlying31 rfl stepSize ?_
            exact ⟨congrArg Ending.returned HRES.out.symm, below_row (HB2.out) HRW.out.1 _⟩
      · have q0 : ((bs a).toList == [103]) = false := str_ne ha
        have HRES : Hid (parseR s.data.toList = .tuple #[.agg zeroS, .int .i64 320]) := Lib.hid (by
          unfold parseR
          rw [← HL.out, rparse_is, HRP.out, if_neg (fun h => ha h.2)])
        clear hr ha
        generalize numI b = y1 at *
        generalize numI c = y2 at *
        go_wp2_with ((with_reducible (refine wpList_store_rowTo rfl 31 (Operand.tmp 2) (Operand.tmp 113) rfl rfl rb (zeroS) ?_ ?_ 31 zeroS ?_ ?_ ?_ ?_ ?_)); (· rfl); (· rfl); (· exact HRB.out); (· exact zeroS_size); (· rfl); (· exact zeroS_one))
        refine OpW.ret_row Tryz.results16 rfl rfl (setRow_heap _ _ _ _ _ _ (HRB.out)) Tryz.underlying31 rfl zeroS_size ?_
        exact ⟨congrArg Ending.returned HRES.out.symm, below_row (HB2.out) HRW.out.1 _⟩
    · have h9 : ((n : Int) == 3) = false := by
        rw [beq_eq_false_iff_ne]
        intro e
        apply hr
        apply List.eq_nil_of_length_eq_zero
        have := HNR.out; omega
      have HRES : Hid (parseR s.data.toList = .tuple #[.agg zeroS, .int .i64 320]) := Lib.hid (by
        unfold parseR
        rw [← HL.out, rparse_is, HRP.out, if_neg (fun h => hr h.1)])
      clear hr
      generalize numI b = y1 at *
      generalize numI c = y2 at *
      go_wp2_with ((with_reducible (refine wpList_store_rowTo rfl 31 (Operand.tmp 2) (Operand.tmp 113) rfl rfl rb (zeroS) ?_ ?_ 31 zeroS ?_ ?_ ?_ ?_ ?_)); (· rfl); (· rfl); (· exact HRB.out); (· exact zeroS_size); (· rfl); (· exact zeroS_one))
      refine OpW.ret_row Tryz.results16 rfl rfl (setRow_heap _ _ _ _ _ _ (HRB.out)) Tryz.underlying31 rfl zeroS_size ?_
      exact ⟨congrArg Ending.returned HRES.out.symm, below_row (HB2.out) HRW.out.1 _⟩
  · obtain ⟨b, c, r, hl⟩ := hsh
    obtain ⟨ad0, hoa0, had0, c0⟩ := rds_at HRD.out (i := 0) (y := [99]) (by rw [hl]; rfl)
    obtain ⟨ad1, hoa1, had1, c1⟩ := rds_at HRD.out (i := 1) (y := b) (by rw [hl]; rfl)
    obtain ⟨ad2, hoa2, had2, c2⟩ := rds_at HRD.out (i := 2) (y := c) (by rw [hl]; rfl)
    subst hoa0
    obtain rfl : ad0 = ad1 := by injection hoa1
    clear hoa1
    obtain rfl : ad0 = ad2 := by injection hoa2
    clear hoa2
    rw [add_zero'] at c0
    rw [add_one'] at c1
    rw [add_two'] at c2
    have HYL : Hid (b.length ≤ 1000000) := Lib.hid (HLL.out.2 b (by rw [hl]; simp))
    have HRL : Hid (r.length ≤ 1000001 ∧ ∀ y ∈ r, y.length ≤ 1000000) := Lib.hid ⟨by have := HLL.out.1; rw [hl] at this; simp at this; omega, fun y hy => HLL.out.2 y (by rw [hl]; simp [hy])⟩
    have q99 : ((bs [99]).toList == [99]) = true := str_eq rfl
    have HRP : Hid (rparse l = (numW b).bind fun (n : Nat) => rcallP (n : Int) c r) := Lib.hid (by rw [hl, rparse_call b c r])
    have hln : l.length = r.length + 3 := by rw [hl]; rfl
    have hcc : ∃ a3 c3, Rds w2.heap.size w2 (some a3) r ∧ ((cap = 3 ∧ a3 = ad0 ∧ c3 = 0) ∨ (cap ≠ 3 ∧ a3 = ⟨ad0.block, ad0.off + 3, none⟩ ∧ c3 = cap - 3)) := by
      by_cases hc : cap = 3
      · refine ⟨_, _, ?_, .inl ⟨hc, rfl, rfl⟩⟩
        have : r = [] := List.eq_nil_of_length_eq_zero (by have := HCAP.out; omega)
        rw [this]
        intro j hj
        simp at hj
      · refine ⟨_, _, ?_, .inr ⟨hc, rfl, rfl⟩⟩
        intro j hj
        obtain ⟨a', h1, h2, h3⟩ := rds_at HRD.out (i := j + 3) (y := r[j]) (by rw [hl]; simp)
        injection h1 with h1
        subst h1
        refine ⟨_, rfl, h2, ?_⟩
        have e : (⟨ad0.block, ad0.off + 3, none⟩ : Addr).add j = ad0.add (j + 3) := by
          unfold Addr.add
          by_cases h : j = 0
          · subst h; simp
          · simp [h]; omega
        rw [e, h3]; rfl
    obtain ⟨a3, c3, hr3, hcc⟩ := hcc
    have HR3 := Lib.hid hr3
    obtain ⟨n, hn⟩ : ∃ n, n = l.length := ⟨_, rfl⟩
    have h1 : 3 ≤ (n : Int) := by omega
    have h6 : 0 < n := by omega
    have h7 : 1 < n := by omega
    have h8 : 2 < n := by omega
    have h9 : 3 ≤ n := by omega
    have HNR : Hid (n - 3 = r.length) := Lib.hid (by omega)
    have HCP : Hid (n ≤ cap) := Lib.hid (by have := HCAP.out; omega)
    have HC2 := Lib.hid c2
    have HAD := Lib.hid had2
    rw [← hn]
    clear hl hln hn had0 had1 had2 hr3
    generalize bs [99] = ya at *
    go_wp2_with fail
    refine (rnum_any (bs b) (by rw [bs_size]; exact HYL.out) _).mono ?_
    rintro e w6 ⟨rfl, rfl⟩
    rw [bs_data]
    go_wp2_with fail
    refine (rforms_any _).mono ?_
    rintro e w3 ⟨rfl, hrow, hb3⟩
    have HB3 := Lib.hid hb3
    have HROW := Lib.hid hrow
    obtain ⟨fa, hfa⟩ : ∃ fa, fa = (⟨w2.heap.size, 0, none⟩ : Addr) := ⟨_, rfl⟩
    have HFAB : Hid (fa.block < w3.heap.size) := Lib.hid (by rw [hfa]; exact lt_of_block hrow)
    have FAC : Hid (∀ W, Below w3.heap.size w3 W → ∀ (k : Nat) (x : ConP.Fr), rforms[k]? = some x → ∀ (j : Nat) v, (frCells x)[j]? = some v → W.cell? ((fa.add (k * 4)).add j) = some v) := Lib.hid (by
      intro W hW k x hx j v hv
      have e : W.heap[w2.heap.size]? = some (.cells rformCells 71 (0, 0)) := (hW.block _ (lt_of_block hrow)).trans hrow
      rw [Go.Deep.add_add, hfa]
      have e2 : (⟨w2.heap.size, 0, none⟩ : Addr).add (k * 4 + j) = ⟨w2.heap.size, k * 4 + j, none⟩ := by
        unfold Addr.add
        by_cases h : k * 4 + j = 0
        · rw [if_pos h, h]
        · rw [if_neg h]; simp
      rw [e2, Lib.cell_of_heap e]
      have hp := flat_part frCells 4 (fun _ => rfl) rforms k x hx
      have hj : j < 4 := (List.getElem?_eq_some_iff.1 hv).1
      have : rformCells[k * 4 + j]? = (((rforms.flatMap frCells).drop (k * 4)).take 4)[j]? := by
        rw [List.getElem?_take_of_lt hj, List.getElem?_drop]
        unfold rformCells
        rw [List.getElem?_toArray]
      rw [this, hp]
      exact hv)
    rw [← hfa]
    have HRB3 : Hid (w3.heap[rb]? = some (.cells zeroS 31 (0, 0))) := Lib.hid ((hb3.block rb HRW.out.2).trans HRB.out)
    clear hrow hb3 hfa c0 c1 c2 q99
    cases hnb : numW b with
    | none =>
      rw [numI_none hnb]
      have HRES : Hid (parseR s.data.toList = .tuple #[.agg zeroS, .int .i64 320]) := Lib.hid (by
        unfold parseR
        rw [← HL.out, rparse_is, HRP.out, hnb, Option.bind_none])
      have HBB : Hid (Below w.heap.size w w3) := Lib.hid (bstep' HB2.out HB3.out)
      clear hnb
      go_wp2_with fail
      go_loopw [8] (fun c wr => c = .int .i64 0 ∧ w3 = wr) (fun _ _ => 0)
      case atStart => exact ⟨rfl, rfl⟩
      case round =>
        obtain ⟨rfl, rfl⟩ := hrel
        go_wp2_with ((with_reducible (refine wpList_store_rowTo rfl 31 (Operand.tmp 2) (Operand.tmp 63) rfl rfl rb (zeroS) ?_ ?_ 31 zeroS ?_ ?_ ?_ ?_ ?_)); (· rfl); (· rfl); (· exact HRB3.out); (· exact zeroS_size); (· rfl); (· exact zeroS_one))
        refine OpW.ret_row Tryz.results16 rfl rfl (setRow_heap _ _ _ _ _ _ (HRB3.out)) Tryz.underlying31 rfl zeroS_size ?_
        exact ⟨congrArg Ending.returned HRES.out.symm, below_row (HBB.out) HRW.out.1 _⟩
    | some m =>
      rw [numI_some hnb]
      have HRC : Hid (rparse l = rcallP (m : Int) c r) := Lib.hid (by rw [HRP.out, hnb, Option.bind_some])
      have hm0 : 0 ≤ (m : Int) := by omega
      clear hnb
      go_wp2_with fail
      go_loopw [8] (fun i wr => ∃ k : Nat, k ≤ 19 ∧ i = .int .i64 (k : Int) ∧ (rforms.take k).findSome? (fun x => if x.w = c then rreadS (m : Int) x r else none) = none ∧ Below w3.heap.size w3 wr) (fun i _ => ((19 : Int) - intOf i).toNat)
      case atStart => exact ⟨0, by omega, rfl, rfl, Below.refl _ _⟩
      case round =>
        obtain ⟨k, hk, rfl, hno, hbl⟩ := hrel
        have HNO := Lib.hid hno
        have HBL := Lib.hid hbl
        have HBW : Hid (Below w2.heap.size w2 wr) := Lib.hid (bstep' HB3.out hbl)
        clear hno hbl
        by_cases hlt : k < 19
        · have hk1 : (k : Int) < 19 := by omega
          obtain ⟨x, hx⟩ : ∃ x, rforms[k]? = some x := ⟨_, List.getElem?_eq_getElem (show k < rforms.length from hlt)⟩
          have HX := Lib.hid hx
          have HNX : Hid ((rforms.take (k + 1)).findSome? (fun x => if x.w = c then rreadS (m : Int) x r else none) = if x.w = c then rreadS (m : Int) x r else none) := Lib.hid (by
            rw [List.take_add_one, hx, List.findSome?_append, HNO.out]
            simp)
          have HXL : Hid (∀ f ∈ x.fs, f = 112 ∨ f = 113 ∨ f = 100 ∨ f = 110 ∨ f = 104 ∨ f = 111) := Lib.hid (rforms_let x (List.mem_of_getElem? hx))
          have d0 := FAC.out wr HBL.out k x hx 0 _ rfl
          rw [add_zero'] at d0
          have c2 := (HBW.out.cell (show (⟨ad0.block, ad0.off + 2, none⟩ : Addr).block < w2.heap.size from HAD.out)).trans HC2.out
          clear hx
          by_cases hw : x.w = c
          · have qw : ((bs x.w).toList == (bs c).toList) = true := by rw [hw]; simp
            have HW := Lib.hid hw
            clear hw
            go_wp2_with fail
            go_region
            go_wp2_with fail
            have HBV : Hid (Below w3.heap.size w3 wr.drew) := Lib.hid HBL.out.drew
            have HBU : Hid (Below w.heap.size w wr.drew) := Lib.hid (bstep' HB2.out HBW.out.drew)
            have HRBV : Hid (wr.drew.heap[rb]? = some (.cells zeroS 31 (0, 0))) := Lib.hid ((HBW.out.block rb HRW.out.2).trans HRB.out)
            have HRV : Hid (Rds wr.drew.heap.size wr.drew (some a3) r) := Lib.hid (rds_grow HR3.out HBW.out.drew)
            clear c2 d0 qw
            generalize wr.drew = wv at *
            have HS0 : Hid (Below wv.heap.size wv wv.drew) := Lib.hid (Below.refl _ _).drew
            obtain ⟨ct, ok, hv, hct⟩ : ∃ ct ok, rreadV (m : Int) x r = .tuple #[.agg ct, .bool ok] ∧ ct = (match rreadS (m : Int) x r with | some t => cellsC t.a noV | none => zeroC) ∧ ok = (rreadS (m : Int) x r).isSome := ⟨_, _, rfl, rfl, rfl⟩
            have HCT := Lib.hid hct
            have C1 : Hid (ct.all (·.oneCell') = true) := Lib.hid (by
              rw [hct.1]
              cases rreadS (m : Int) x r with
              | none => exact zeroC_one
              | some t => exact cellsC_one _)
            have C2 : Hid ((Tryz.prog.info? 26).map (·.size) = some ct.size) := Lib.hid (by
              rw [hct.1]
              cases rreadS (m : Int) x r with
              | none => exact callSize
              | some t => exact callSize)
            have C3 : Hid (zeroC.size = ct.size) := Lib.hid (by
              rw [hct.1]
              cases rreadS (m : Int) x r with
              | none => rfl
              | some t => rfl)
            clear hct
            rcases hcc with ⟨hc, ha3, hc3⟩ | ⟨hc, ha3, hc3⟩
            all_goals
              refine regionL 12 13 (fun W => Below wv.heap.size wv W) (by kernel_rfl) rfl ?_
              refine takeL 0 (some 50) (v := ?_) rfl (by kernel_rfl) (by kernel_rfl) (by kernel_rfl) (by kernel_rfl) (fun _ _ _ h => h) rfl rfl HS0.out ?_ ?_
              rotate_left
              · intro wq hq
                go_simp
                with_reducible rfl
              simp only [Act.put, List.setIfInBounds_toArray, List.set_cons_zero, List.set_cons_succ]
              refine takeL 1 (some 51) (v := ?_) rfl (by kernel_rfl) (by kernel_rfl) (by kernel_rfl) (by kernel_rfl) (fun _ _ _ h => h) rfl rfl HS0.out ?_ ?_
              rotate_left
              · intro wq hq
                go_simp
                with_reducible rfl
              simp only [Act.put, List.setIfInBounds_toArray, List.set_cons_zero, List.set_cons_succ]
              refine takeL 2 (some 52) (v := ?_) rfl (by kernel_rfl) (by kernel_rfl) (by kernel_rfl) (by kernel_rfl) (fun _ _ _ h => h) rfl rfl HS0.out ?_ ?_
              rotate_left
              · intro wq hq
                go_simp
                with_reducible rfl
              simp only [Act.put, List.setIfInBounds_toArray, List.set_cons_zero, List.set_cons_succ]
              refine takeL 3 (some 53) (v := ?_) rfl (by kernel_rfl) (by kernel_rfl) (by kernel_rfl) (by kernel_rfl) (fun _ _ _ h => h) rfl rfl HS0.out ?_ ?_
              rotate_left
              · intro wq hq
                have e0 := FAC.out wq (bstep' HBV.out hq) k x HX.out 0 _ rfl
                rw [add_zero'] at e0
                have e1 : wq.cell? ⟨(fa.add (k * 4)).block, (fa.add (k * 4)).off + 1, none⟩ = _ := FAC.out wq (bstep' HBV.out hq) k x HX.out 1 _ rfl
                have e2 : wq.cell? ⟨(fa.add (k * 4)).block, (fa.add (k * 4)).off + 2, none⟩ = _ := FAC.out wq (bstep' HBV.out hq) k x HX.out 2 _ rfl
                have e3 : wq.cell? ⟨(fa.add (k * 4)).block, (fa.add (k * 4)).off + 3, none⟩ = _ := FAC.out wq (bstep' HBV.out hq) k x HX.out 3 _ rfl
                go_simp
                with_reducible rfl
              simp only [Act.put, List.setIfInBounds_toArray, List.set_cons_zero, List.set_cons_succ]
              refine takeL 4 (some 54) (v := ?_) rfl (by kernel_rfl) (by kernel_rfl) (by kernel_rfl) (by kernel_rfl) (fun _ _ _ h => h) rfl rfl HS0.out ?_ ?_
              rotate_left
              · intro wq hq
                go_simp
                with_reducible rfl
              simp only [Act.put, List.setIfInBounds_toArray, List.set_cons_zero, List.set_cons_succ]
              refine takeL 5 (some 55) (v := ?_) rfl (by kernel_rfl) (by kernel_rfl) (by kernel_rfl) (by kernel_rfl) (fun _ _ _ h => h) rfl rfl HS0.out ?_ ?_
              rotate_left
              · intro wq hq
                go_simp
                with_reducible rfl
              simp only [Act.put, List.setIfInBounds_toArray, List.set_cons_zero, List.set_cons_succ]
              refine twoL 6 10 (by kernel_rfl) rfl rfl rfl rfl ?_ ?_
              · refine wp_enters (some 56) (f := 30) (args := #[.agg (frCells x).toArray, .slice (some a3) r.length c3]) rfl ?_ (.tuple #[.agg ct, .bool ok]) (fun W => Below wv.heap.size wv W ∧ Below (wv.drew).heap.size (wv.drew) W) ?_ ?_
                · subst ha3
                  subst hc3
                  have hnr := HNR.out
                  go_simp
                  rfl
                · have hcl := rread_any (m : Int) x HXL.out r HRL.out.1 HRL.out.2 (some a3) c3 (wv.drew) (rds_grow HRV.out HS0.out)
                  rw [hv] at hcl
                  exact hcl.mono fun e w' ⟨h1, h2⟩ => ⟨h1, bstep' HS0.out h2, h2⟩
                · rintro w4 ⟨hb4, hb5⟩
                  have HB4 := Lib.hid hb4
                  have HB5 := Lib.hid hb5
                  clear hb4 hb5
                  refine ⟨fun _ => HB4.out, ?_⟩
                  simp only [Act.put, List.setIfInBounds_toArray, List.set_cons_zero, List.set_cons_succ]
                  refine takeL 7 (some 49) (v := ?_) rfl (by kernel_rfl) (by kernel_rfl) (by kernel_rfl) (by kernel_rfl) (fun _ _ _ h => h) rfl rfl HB4.out ?_ ?_
                  rotate_left
                  · intro wq hq
                    go_simp
                    with_reducible rfl
                  simp only [Act.put, List.setIfInBounds_toArray, List.set_cons_zero, List.set_cons_succ]
                  refine takeL 8 (some 57) (v := ?_) rfl (by kernel_rfl) (by kernel_rfl) (by kernel_rfl) (by kernel_rfl) (fun _ _ _ h => h) rfl rfl HB4.out ?_ ?_
                  rotate_left
                  · intro wq hq
                    go_simp
                    with_reducible rfl
                  simp only [Act.put, List.setIfInBounds_toArray, List.set_cons_zero, List.set_cons_succ]
                  refine takeL 9 (some 58) (v := ?_) rfl (by kernel_rfl) (by kernel_rfl) (by kernel_rfl) (by kernel_rfl) (fun _ _ _ h => h) rfl rfl HB4.out ?_ ?_
                  rotate_left
                  · intro wq hq
                    go_simp
                    with_reducible rfl
                  simp only [Act.put, List.setIfInBounds_toArray, List.set_cons_zero, List.set_cons_succ]
                  refine oneL 10 (by kernel_rfl) rfl rfl ?_
                  refine wp_runs (some 9) rfl (w' := (w4).alloc (.cells zeroC 26)) (v := .pointer (some ⟨(w4).heap.size, 0, none⟩)) ?_ ?_
                  · go_simp
                    rfl
                  refine ⟨fun _ => HB4.out.alloc HB4.out.size _, ?_⟩
                  simp only [Act.put, List.setIfInBounds_toArray, List.set_cons_zero, List.set_cons_succ]
                  refine oneL 11 (by kernel_rfl) rfl rfl ?_
                  refine wp_store_to 26 (Operand.tmp 9) (Operand.tmp 57) rfl rfl (w4.heap.size) ct rfl rfl 26 zeroC (heap_alloc_new _ _) C2.out C3.out C1.out ?_
                  have HB6 : Hid (Below wv.heap.size wv ((w4.alloc (.cells zeroC 26)).setRow (w4.heap.size) ct)) := Lib.hid (below_row (HB4.out.alloc HB4.out.size _) HB4.out.size _)
                  have HG6 : Hid (((w4.alloc (.cells zeroC 26)).setRow (w4.heap.size) ct).heap[w4.heap.size]? = some (.cells ct 26 (0, 0))) := Lib.hid (setRow_heap _ _ _ _ _ _ (heap_alloc_new _ _))
                  refine ⟨fun _ => HB6.out, ?_⟩
                  refine oneL 12 (by kernel_rfl) rfl rfl ?_
                  refine wp_runs (some 10) rfl (w' := (w4.alloc (.cells zeroC 26)).setRow (w4.heap.size) ct) (v := .bool ok) ?_ ?_
                  · go_simp
                  refine ⟨fun h => absurd rfl h, ?_⟩
                  simp only [Act.put, List.setIfInBounds_toArray, List.set_cons_zero, List.set_cons_succ]
                  refine doneL (by kernel_rfl) ?_
                  try simp only [Exit.then]
                  generalize (w4.alloc (.cells zeroC 26)).setRow (w4.heap.size) ct = W6 at *
                  generalize w4.heap.size = g6 at *
                  clear hv ha3 hc3 hc HB4 HB5 HS0
                  have HBL6 : Hid (Below w3.heap.size w3 W6) := Lib.hid (bstep' HBV.out HB6.out)
                  have HRB6 : Hid (W6.heap[rb]? = some (.cells zeroS 31 (0, 0))) := Lib.hid ((HB6.out.block rb (lt_of_block HRBV.out)).trans HRBV.out)
                  have HBU6 : Hid (Below w.heap.size w W6) := Lib.hid (bstep' HBU.out HB6.out)
                  cases ok with
                  | false =>
                    have HNF : Hid (rreadS (m : Int) x r = none) := Lib.hid (by
                      have := HCT.out.2
                      cases hp : rreadS (m : Int) x r with
                      | none => rfl
                      | some t => rw [hp] at this; cases this)
                    go_wp2_with fail
                    exact ⟨⟨k + 1, by omega, by simp, by rw [HNX.out, if_pos HW.out]; exact HNF.out, HBL6.out⟩, by simp [intOf]; omega⟩
                  | true =>
                    obtain ⟨t, ht⟩ : ∃ t, rreadS (m : Int) x r = some t := by
                      have := HCT.out.2
                      cases hp : rreadS (m : Int) x r with
                      | none => rw [hp] at this; cases this
                      | some t => exact ⟨t, rfl⟩
                    have HRES : Hid (parseR s.data.toList = .tuple #[.agg (cellsS ⟨1, (m : Int), 0, 0, t.a⟩ noV 0 noV), .int .i64 0]) := Lib.hid (by
                      have h1 : rparse l = some ⟨1, (m : Int), 0, 0, t.a⟩ := by
                        rw [HRC.out]
                        unfold rcallP
                        conv => lhs; rw [← List.take_append_drop (k + 1) rforms]
                        rw [List.findSome?_append, HNX.out, if_pos HW.out, ht, ← rreadS_head ht]; rfl
                      unfold parseR
                      rw [← HL.out, rparse_is, h1])
                    have hce : ct = cellsC t.a noV := by have := HCT.out.1; rw [ht] at this; exact this
                    have HBT : Hid (Tryz.prog.built 31 [(0, .int .i64 1), (1, .int .i64 (m : Int)), (4, .agg ct)] = some (cellsS ⟨1, (m : Int), 0, 0, t.a⟩ noV 0 noV)) := Lib.hid (by rw [hce]; exact built_call _ _)
                    obtain ⟨cs, hcs⟩ : ∃ cs, cs = cellsS ⟨1, (m : Int), 0, 0, t.a⟩ noV 0 noV := ⟨_, rfl⟩
                    have S1 : Hid (cs.all (·.oneCell') = true) := Lib.hid (by rw [hcs]; exact cells_one _ _)
                    have S2 : Hid ((Tryz.prog.info? 31).map (·.size) = some cs.size) := Lib.hid (by rw [hcs]; exact stepSize)
                    have S3 : Hid (zeroS.size = cs.size) := Lib.hid (by rw [hcs]; rfl)
                    rw [← hcs] at HBT HRES
                    clear ht hcs hce
                    go_wp2_with (first
                      | ((with_reducible (refine wpList_load_row rfl 26 (Operand.tmp 9) rfl g6 ?_ 26 ct (0, 0) _ ?_ Tryz.underlying26 ?_ ?_ ?_)); (· rfl); (· exact HG6.out); (· rfl); (· exact C2.out))
                      | ((with_reducible (refine wpList_buildTo rfl 31 #[(0, Operand.const (.int .i64 1)), (1, Operand.tmp 60), (4, Operand.tmp 61)] rfl (some 62) rfl cs ?_ ?_)); (· simp only [List.map_toArray, List.map_cons, List.map_nil]; exact HBT.out))
                      | ((with_reducible (refine wpList_store_rowTo rfl 31 (Operand.tmp 2) (Operand.tmp 62) rfl rfl rb cs ?_ ?_ 31 zeroS ?_ ?_ ?_ ?_ ?_)); (· rfl); (· rfl); (· exact HRB6.out); (· exact S2.out); (· exact S3.out); (· exact S1.out)))
                    refine OpW.ret_row Tryz.results16 rfl rfl (setRow_heap _ _ _ _ _ _ HRB6.out) Tryz.underlying31 rfl S2.out ?_
                    exact ⟨congrArg Ending.returned HRES.out.symm, below_row HBU6.out HRW.out.1 _⟩
              · refine wp_runs (some 9) rfl (w' := (wv.drew).alloc (.cells zeroC 26)) (v := .pointer (some ⟨(wv.drew).heap.size, 0, none⟩)) ?_ ?_
                · go_simp
                  rfl
                refine ⟨fun _ => HS0.out.alloc (Nat.le_refl _) _, ?_⟩
                simp only [Act.put, List.setIfInBounds_toArray, List.set_cons_zero, List.set_cons_succ]
                have HS1 : Hid (Below wv.heap.size wv (wv.drew.alloc (.cells zeroC 26))) := Lib.hid (HS0.out.alloc (Nat.le_refl _) _)
                refine oneL 6 (by kernel_rfl) rfl rfl ?_
                refine wp_enters (some 56) (f := 30) (args := #[.agg (frCells x).toArray, .slice (some a3) r.length c3]) rfl ?_ (.tuple #[.agg ct, .bool ok]) (fun W => Below wv.heap.size wv W ∧ Below (wv.drew.alloc (.cells zeroC 26)).heap.size (wv.drew.alloc (.cells zeroC 26)) W) ?_ ?_
                · subst ha3
                  subst hc3
                  have hnr := HNR.out
                  go_simp
                  rfl
                · have hcl := rread_any (m : Int) x HXL.out r HRL.out.1 HRL.out.2 (some a3) c3 (wv.drew.alloc (.cells zeroC 26)) (rds_grow HRV.out HS1.out)
                  rw [hv] at hcl
                  exact hcl.mono fun e w' ⟨h1, h2⟩ => ⟨h1, bstep' HS1.out h2, h2⟩
                · rintro w4 ⟨hb4, hb5⟩
                  have HB4 := Lib.hid hb4
                  have HB5 := Lib.hid hb5
                  clear hb4 hb5
                  refine ⟨fun _ => HB4.out, ?_⟩
                  simp only [Act.put, List.setIfInBounds_toArray, List.set_cons_zero, List.set_cons_succ]
                  refine takeL 7 (some 49) (v := ?_) rfl (by kernel_rfl) (by kernel_rfl) (by kernel_rfl) (by kernel_rfl) (fun _ _ _ h => h) rfl rfl HB4.out ?_ ?_
                  rotate_left
                  · intro wq hq
                    go_simp
                    with_reducible rfl
                  simp only [Act.put, List.setIfInBounds_toArray, List.set_cons_zero, List.set_cons_succ]
                  refine takeL 8 (some 57) (v := ?_) rfl (by kernel_rfl) (by kernel_rfl) (by kernel_rfl) (by kernel_rfl) (fun _ _ _ h => h) rfl rfl HB4.out ?_ ?_
                  rotate_left
                  · intro wq hq
                    go_simp
                    with_reducible rfl
                  simp only [Act.put, List.setIfInBounds_toArray, List.set_cons_zero, List.set_cons_succ]
                  refine takeL 9 (some 58) (v := ?_) rfl (by kernel_rfl) (by kernel_rfl) (by kernel_rfl) (by kernel_rfl) (fun _ _ _ h => h) rfl rfl HB4.out ?_ ?_
                  rotate_left
                  · intro wq hq
                    go_simp
                    with_reducible rfl
                  simp only [Act.put, List.setIfInBounds_toArray, List.set_cons_zero, List.set_cons_succ]
                  refine oneL 11 (by kernel_rfl) rfl rfl ?_
                  refine wp_store_to 26 (Operand.tmp 9) (Operand.tmp 57) rfl rfl (wv.drew.heap.size) ct rfl rfl 26 zeroC ((HB5.out.block _ (lt_of_block (heap_alloc_new wv.drew _))).trans (heap_alloc_new _ _)) C2.out C3.out C1.out ?_
                  have HB6 : Hid (Below wv.heap.size wv ((w4).setRow (wv.drew.heap.size) ct)) := Lib.hid (below_row HB4.out (Nat.le_refl _) _)
                  have HG6 : Hid (((w4).setRow (wv.drew.heap.size) ct).heap[wv.drew.heap.size]? = some (.cells ct 26 (0, 0))) := Lib.hid (setRow_heap _ _ _ _ _ _ ((HB5.out.block _ (lt_of_block (heap_alloc_new wv.drew _))).trans (heap_alloc_new _ _)))
                  refine ⟨fun _ => HB6.out, ?_⟩
                  refine oneL 12 (by kernel_rfl) rfl rfl ?_
                  refine wp_runs (some 10) rfl (w' := (w4).setRow (wv.drew.heap.size) ct) (v := .bool ok) ?_ ?_
                  · go_simp
                  refine ⟨fun h => absurd rfl h, ?_⟩
                  simp only [Act.put, List.setIfInBounds_toArray, List.set_cons_zero, List.set_cons_succ]
                  refine doneL (by kernel_rfl) ?_
                  try simp only [Exit.then]
                  generalize (w4).setRow (wv.drew.heap.size) ct = W6 at *
                  generalize wv.drew.heap.size = g6 at *
                  clear hv ha3 hc3 hc HB4 HB5 HS0
                  have HBL6 : Hid (Below w3.heap.size w3 W6) := Lib.hid (bstep' HBV.out HB6.out)
                  have HRB6 : Hid (W6.heap[rb]? = some (.cells zeroS 31 (0, 0))) := Lib.hid ((HB6.out.block rb (lt_of_block HRBV.out)).trans HRBV.out)
                  have HBU6 : Hid (Below w.heap.size w W6) := Lib.hid (bstep' HBU.out HB6.out)
                  cases ok with
                  | false =>
                    have HNF : Hid (rreadS (m : Int) x r = none) := Lib.hid (by
                      have := HCT.out.2
                      cases hp : rreadS (m : Int) x r with
                      | none => rfl
                      | some t => rw [hp] at this; cases this)
                    go_wp2_with fail
                    exact ⟨⟨k + 1, by omega, by simp, by rw [HNX.out, if_pos HW.out]; exact HNF.out, HBL6.out⟩, by simp [intOf]; omega⟩
                  | true =>
                    obtain ⟨t, ht⟩ : ∃ t, rreadS (m : Int) x r = some t := by
                      have := HCT.out.2
                      cases hp : rreadS (m : Int) x r with
                      | none => rw [hp] at this; cases this
                      | some t => exact ⟨t, rfl⟩
                    have HRES : Hid (parseR s.data.toList = .tuple #[.agg (cellsS ⟨1, (m : Int), 0, 0, t.a⟩ noV 0 noV), .int .i64 0]) := Lib.hid (by
                      have h1 : rparse l = some ⟨1, (m : Int), 0, 0, t.a⟩ := by
                        rw [HRC.out]
                        unfold rcallP
                        conv => lhs; rw [← List.take_append_drop (k + 1) rforms]
                        rw [List.findSome?_append, HNX.out, if_pos HW.out, ht, ← rreadS_head ht]; rfl
                      unfold parseR
                      rw [← HL.out, rparse_is, h1])
                    have hce : ct = cellsC t.a noV := by have := HCT.out.1; rw [ht] at this; exact this
                    have HBT : Hid (Tryz.prog.built 31 [(0, .int .i64 1), (1, .int .i64 (m : Int)), (4, .agg ct)] = some (cellsS ⟨1, (m : Int), 0, 0, t.a⟩ noV 0 noV)) := Lib.hid (by rw [hce]; exact built_call _ _)
                    obtain ⟨cs, hcs⟩ : ∃ cs, cs = cellsS ⟨1, (m : Int), 0, 0, t.a⟩ noV 0 noV := ⟨_, rfl⟩
                    have S1 : Hid (cs.all (·.oneCell') = true) := Lib.hid (by rw [hcs]; exact cells_one _ _)
                    have S2 : Hid ((Tryz.prog.info? 31).map (·.size) = some cs.size) := Lib.hid (by rw [hcs]; exact stepSize)
                    have S3 : Hid (zeroS.size = cs.size) := Lib.hid (by rw [hcs]; rfl)
                    rw [← hcs] at HBT HRES
                    clear ht hcs hce
                    go_wp2_with (first
                      | ((with_reducible (refine wpList_load_row rfl 26 (Operand.tmp 9) rfl g6 ?_ 26 ct (0, 0) _ ?_ Tryz.underlying26 ?_ ?_ ?_)); (· rfl); (· exact HG6.out); (· rfl); (· exact C2.out))
                      | ((with_reducible (refine wpList_buildTo rfl 31 #[(0, Operand.const (.int .i64 1)), (1, Operand.tmp 60), (4, Operand.tmp 61)] rfl (some 62) rfl cs ?_ ?_)); (· simp only [List.map_toArray, List.map_cons, List.map_nil]; exact HBT.out))
                      | ((with_reducible (refine wpList_store_rowTo rfl 31 (Operand.tmp 2) (Operand.tmp 62) rfl rfl rb cs ?_ ?_ 31 zeroS ?_ ?_ ?_ ?_ ?_)); (· rfl); (· rfl); (· exact HRB6.out); (· exact S2.out); (· exact S3.out); (· exact S1.out)))
                    refine OpW.ret_row Tryz.results16 rfl rfl (setRow_heap _ _ _ _ _ _ HRB6.out) Tryz.underlying31 rfl S2.out ?_
                    exact ⟨congrArg Ending.returned HRES.out.symm, below_row HBU6.out HRW.out.1 _⟩
          · have qw : ((bs x.w).toList == (bs c).toList) = false := by rw [Lib.toList_data (bs c), bs_data]; exact str_ne hw
            have HW := Lib.hid hw
            clear hw
            go_wp2_with fail
            go_region
            go_wp2_with fail
            exact ⟨⟨k + 1, by omega, by simp, by rw [HNX.out, if_neg HW.out], HBL.out.drew⟩, by simp [intOf]; omega⟩
        · obtain rfl : k = 19 := by omega
          have HRES : Hid (parseR s.data.toList = .tuple #[.agg zeroS, .int .i64 320]) := Lib.hid (by
            unfold parseR
            rw [← HL.out, rparse_is, HRC.out, show rcallP (m : Int) c r = none from (by have h := HNO.out; rw [List.take_of_length_le (show rforms.length ≤ 19 by decide)] at h; exact h)])
          have HRBR : Hid (wr.heap[rb]? = some (.cells zeroS 31 (0, 0))) := Lib.hid ((HBW.out.block rb HRW.out.2).trans HRB.out)
          have HBB : Hid (Below w.heap.size w wr) := Lib.hid (bstep' HB2.out HBW.out)
          clear hlt hk
          go_wp2_with ((with_reducible (refine wpList_store_rowTo rfl 31 (Operand.tmp 2) (Operand.tmp 63) rfl rfl rb (zeroS) ?_ ?_ 31 zeroS ?_ ?_ ?_ ?_ ?_)); (· rfl); (· rfl); (· exact HRBR.out); (· exact zeroS_size); (· rfl); (· exact zeroS_one))
          refine OpW.ret_row Tryz.results16 rfl rfl (setRow_heap _ _ _ _ _ _ (HRBR.out)) Tryz.underlying31 rfl zeroS_size ?_
          exact ⟨congrArg Ending.returned HRES.out.symm, below_row (HBB.out) HRW.out.1 _⟩
end Go.Proofs.YtiffmigihhcgcaaGreatDoor.ConW
