/- A form's parse. -/
import Derived.Test.YtiffmigihhcgcaaGreatDoorConFresh
namespace Go.Proofs.YtiffmigihhcgcaaGreatDoor.ConW
set_option maxRecDepth 100000
set_option linter.constructorNameAsVariable false
open Go.RowKit ConP
open PathW (Strs strV strinfo ext_mid ext_drop str_list list_size Rds)
/-- a row appended to one of the call's own, as a step of a region that draws -/
theorem step_append_bothA {P : Program} {ops : Array Oper} {o : Oper} {a : Act} {K : Act → World → Prop} {Q : Exit → Act → World → Prop} {E : Prop} (hgd : o.guard = none) (s x : Operand) (t : TypeId)
    (ho : o.op = .call { callee := .builtin .append, args := #[s, x], argTypes := #[t, t] })
    (base : Nat) (e : TypeId) (i : TypeInfo) (z : Value) (size bytes : Nat) (ht : P.underlying t = some (.slice e)) (hi : P.info? e = some i) (hz : i.zero = some z)
    (hsize : i.size = size) (hby : i.bytes = bytes) (hzs : z.cells.size = size) (hsz : 0 < size)
    {W : World} (v : Value) (n : Nat) (xs : List Value) (hs : a.eval s = v) (hown : W.ownsRow base e size v n xs)
    (ad : Addr) (m c : Nat) (news : List Value) (hx : a.eval x = .slice (some ad) m c)
    (hl : news.length = m * size) (hnews : ∀ j u, news[j]? = some u → W.cell? (ad.add j) = some u) (h1 : ∀ u ∈ news, u.oneCell' = true)
    (h63 : n + m ≤ maxLen) (hbytes : (n + m) * bytes ≤ 140737488355328) (hbase : base ≤ W.heap.size)
    (h : ∀ oa' cap' w', w'.ownsRow base e size (.slice oa' (n + m) cap') (n + m) (xs ++ news) → Below base W w' → K (a.put o.dst (.slice oa' (n + m) cap')) w') :
    if Region.wanted o (yielded ops a.tmps) = true then Oper.wp P o a W K Q else E := by
  have hw : Region.wanted o (yielded ops a.tmps) = true := by simp [Region.wanted, hgd]
  rw [if_pos hw]
  refine wp_append_own W s x t ho base e i z size bytes ht hi hz hsize hby hzs hsz v n xs hs hown ad m c news hx hl hnews h1 h63 hbytes hbase ?_
  intro v' w' h2 h3 _
  obtain ⟨oa', cap', rfl⟩ := row_form h2
  exact h oa' cap' w' h2 (below_of_grown h3 hown hbase)
theorem own_one (W : World) (base : Nat) (v : Value) (hb : base ≤ W.heap.size) : (W.alloc (.cells #[v] 9)).ownsRow base 9 1 (.slice (some ⟨W.heap.size, 0, none⟩) 1 1) 1 [v] :=
  ⟨rfl, .inr ⟨W.heap.size, 1, #[v], rfl, hb, heap_alloc_new W _, Nat.le_refl _, by unfold maxLen; omega, rfl, rfl⟩⟩
theorem own_oneD (W : World) (base : Nat) (v : Value) (hb : base ≤ W.heap.size) : (W.alloc (.cells #[v] 9)).drew.ownsRow base 9 1 (.slice (some ⟨W.heap.size, 0, none⟩) 1 1) 1 [v] := own_one W base v hb
/-- what a form makes of words -/
def parseV (x : Fm) (l : List Bs) : Value := .tuple #[.agg (cellsS ((parseF x l).getD (stp0 0 0 0)) noV 0 noV), .bool (parseF x l).isSome]
theorem rds_at {B : Nat} {w : World} {oa : Option Addr} {l : List Bs} (h : Rds B w oa l) {i : Nat} {y : Bs} (hy : l[i]? = some y) : ∃ a, oa = some a ∧ a.block < B ∧ w.cell? (a.add i) = some (.string (bs y)) := by
  obtain ⟨hi, e⟩ := List.getElem?_eq_some_iff.1 hy
  obtain ⟨a, h1, h2, h3⟩ := h i hi
  exact ⟨a, h1, h2, by rw [h3, e]; rfl⟩
theorem rds_grow {w w' : World} {oa : Option Addr} {l : List Bs} (h : Rds w.heap.size w oa l) (k : Below w.heap.size w w') : Rds w'.heap.size w' oa l := by
  intro i hi
  obtain ⟨a, h1, h2, h3⟩ := (h.below k) i hi
  exact ⟨a, h1, Nat.lt_of_lt_of_le h2 k.size, h3⟩
theorem bstep' {w w1 w2 : World} (h : Below w.heap.size w w1) (k : Below w1.heap.size w1 w2) : Below w.heap.size w w2 := h.trans (k.mono h.size)
theorem bs_size (l : Bs) : (bs l).size = l.length := by simp [bs, ByteArray.size]
theorem add_zero' (a : Addr) : a.add 0 = a := by unfold Addr.add; cases a; simp
theorem add_two' (a : Addr) : a.add 2 = ⟨a.block, a.off + 2, none⟩ := rfl
theorem add_one' (a : Addr) : a.add 1 = ⟨a.block, a.off + 1, none⟩ := rfl
theorem add_three' (a : Addr) : a.add 3 = ⟨a.block, a.off + 3, none⟩ := rfl
/-- a text's test against another one -/
theorem str_ne {a b : Bs} (h : a ≠ b) : ((bs a).toList == b) = false := by rw [Lib.toList_data, bs_data, beq_eq_false_iff_ne]; exact h
theorem str_eq {a b : Bs} (h : a = b) : ((bs a).toList == b) = true := by rw [Lib.toList_data, bs_data, beq_iff_eq]; exact h
def zeroS : Array Value := cellsS (stp0 0 0 0) noV 0 noV
theorem parseV_none {x : Fm} {l : List Bs} (h : parseF x l = none) : parseV x l = .tuple #[.agg zeroS, .bool false] := by unfold parseV; rw [h]; rfl
theorem parseV_some {x : Fm} {l : List Bs} {t : Stp} (h : parseF x l = some t) : parseV x l = .tuple #[.agg (cellsS t noV 0 noV), .bool true] := by unfold parseV; rw [h]; rfl
theorem zeroS_one : zeroS.all (·.oneCell') = true := cells_one _ _
theorem zeroS_size : (Tryz.prog.info? 31).map (·.size) = some zeroS.size := stepSize
def Low (B : Nat) : Prop := 3 < B ∧ 4 < B ∧ 1 < B
theorem CV.stay {w w' : World} (h : CV w) (B : Nat) (k : Below B w w') (hb : Low B) : CV w' := by
  obtain ⟨⟨t1, p1, h1⟩, ⟨t2, p2, h2⟩, h3⟩ := h
  refine ⟨⟨t1, p1, (k.cell hb.1).trans h1⟩, ⟨t2, p2, (k.cell hb.2.1).trans h2⟩, ?_⟩
  have e := k.block _ hb.2.2
  unfold Lib.TabIs World.var? at h3 ⊢
  rw [gpow] at h3 ⊢
  simp only [Option.bind_some] at h3 ⊢
  rw [e]; exact h3
theorem CV.low {w : World} (h : CV w) : Low w.heap.size := by
  obtain ⟨⟨t1, p1, h1⟩, ⟨t2, p2, h2⟩, h3⟩ := h
  have l1 := World.block_lt_of_cell? _ _ h1
  have l2 := World.block_lt_of_cell? _ _ h2
  simp only at l1 l2
  exact ⟨l1, l2, by omega⟩
def W0 (w : World) (x : Fm) : World := (w.alloc (.cells (fmCells x).toArray 50)).alloc (.cells zeroS 31)
theorem pro (w : World) (x : Fm) : FBox (W0 w x) w.heap.size x ∧ SBox (W0 w x) (w.heap.size + 1) (stp0 0 0 0) noV 0 noV ∧ Below w.heap.size w (W0 w x) :=
  ⟨(heap_alloc_old _ _ (by simp)).trans (alloc_at _ _ _ rfl), alloc_at _ _ _ (by simp), ((Below.refl _ w).alloc (Nat.le_refl _) _).alloc (by simp) _⟩
-- CASES
set_option maxHeartbeats 3200000 in
theorem parse_short (x : Fm) (hk : x.k = 1) (l : List Bs) (hl : l.length < 3) (oa : Option Addr) (cap : Nat) (w : World) :
    Calls Tryz.prog 20 #[.agg (fmCells x).toArray, .slice oa l.length cap] w fun e w' => e = .returned (parseV x l) ∧ Below w.heap.size w w' := by
  have HPN : Hid (parseV x l = .tuple #[.agg zeroS, .bool false]) := Lib.hid (parseV_none (by
    unfold parseF bodyW
    rw [if_pos hk]
    match l, hl with
    | [], _ => rfl
    | [_], _ => rfl
    | [_, _], _ => rfl))
  have h3 : (l.length : Int) < 3 := by omega
  have hk1 : (x.k == 1) = true := by rw [hk]; rfl
  clear hl hk
  show Calls _ _ #[.agg #[.string (bs x.w), .int .i64 x.k, .int .i64 x.c, .int .i64 x.o, .string (bs x.fs)], _] _ _
  go_enter Tryz.func20, Tryz.ntmps20
  go_wp2_with fail
  change Code.wp _ _ _ _ (W0 w x)
  obtain ⟨hf, hr, hb⟩ := pro w x
  have HB := Lib.hid hb
  have HR := Lib.hid hr
  have HF := Lib.hid hf
  obtain ⟨rb, hrb⟩ : ∃ rb, rb = w.heap.size + 1 := ⟨_, rfl⟩
  obtain ⟨fb, hfb⟩ : ∃ fb, fb = w.heap.size := ⟨_, rfl⟩
  have HNE : Hid (fb ≠ rb ∧ w.heap.size ≤ rb ∧ w.heap.size ≤ fb) := Lib.hid (by omega)
  rw [← hrb] at HR
  rw [← hfb] at HF
  rw [← hrb, ← hfb]
  clear hf hr hb hrb hfb
  generalize W0 w x = W1 at *
  obtain ⟨f0, f1, f2, f3, f4⟩ := HF.out.cells
  go_region
  go_wp2_with (((with_reducible (refine wpList_store_rowTo rfl 31 (Operand.tmp 4) (Operand.tmp 30) rfl rfl rb zeroS ?_ ?_ 31 zeroS ?_ ?_ ?_ ?_ ?_)); (· rfl); (· rfl); (· exact HR.out); (· exact zeroS_size); (· rfl); (· exact zeroS_one)))
  refine OpW.ret_row Tryz.results20 rfl rfl (setRow_heap _ _ _ _ _ _ (HR.out)) Tryz.underlying31 rfl zeroS_size ?_
  exact ⟨congrArg Ending.returned HPN.out.symm, below_row HB.out.drew HNE.out.2.1 _⟩
set_option maxHeartbeats 3200000 in
theorem parse_miss (x : Fm) (hk : x.k = 1) (l : List Bs) (a b c : Bs) (r : List Bs) (hl : l = a :: b :: c :: r) (hn : ¬ (a = [99] ∧ c = x.w)) (oa : Option Addr) (cap : Nat) (w : World) (hrd : Rds w.heap.size w oa l) :
    Calls Tryz.prog 20 #[.agg (fmCells x).toArray, .slice oa l.length cap] w fun e w' => e = .returned (parseV x l) ∧ Below w.heap.size w w' := by
  have HPN : Hid (parseV x l = .tuple #[.agg zeroS, .bool false]) := Lib.hid (parseV_none (by
    unfold parseF bodyW
    rw [if_pos hk, hl]
    simp only
    rw [if_neg hn]; rfl))
  have h3 : decide ((l.length : Int) < 3) = false := decide_eq_false (by rw [hl]; simp; omega)
  have h30 : 0 < l.length := by rw [hl]; simp
  have h32 : 2 < l.length := by rw [hl]; simp
  have h33 : 2 < (l.length : Int) := by omega
  have hk1 : (x.k == 1) = true := by rw [hk]; rfl
  obtain ⟨ad, hoa, had, c0⟩ := rds_at hrd (i := 0) (y := a) (by rw [hl]; rfl)
  obtain ⟨ad', hoa', _, c2⟩ := rds_at hrd (i := 2) (y := c) (by rw [hl]; rfl)
  subst hoa
  obtain rfl : ad = ad' := by injection hoa'
  have hcs : ((bs a).toList == [99]) = false ∨ (((bs a).toList == [99]) = true ∧ ((bs c).toList == (bs x.w).toList) = false) := by
    by_cases h : a = [99]
    · right
      refine ⟨str_eq h, ?_⟩
      rw [Lib.toList_data (bs x.w), bs_data]
      exact str_ne (fun e => hn ⟨h, e⟩)
    · left; exact str_ne h
  have HC0 := Lib.hid c0
  have HC2 := Lib.hid c2
  have HAD := Lib.hid had
  clear hl hk hn hrd c0 c2 hoa' had
  rcases hcs with h4 | ⟨h4, h5⟩
  all_goals
    show Calls _ _ #[.agg #[.string (bs x.w), .int .i64 x.k, .int .i64 x.c, .int .i64 x.o, .string (bs x.fs)], _] _ _
    go_enter Tryz.func20, Tryz.ntmps20
    go_wp2_with fail
    change Code.wp _ _ _ _ (W0 w x)
    obtain ⟨hf, hr, hb⟩ := pro w x
    have HB := Lib.hid hb
    have HR := Lib.hid hr
    have HF := Lib.hid hf
    obtain ⟨rb, hrb⟩ : ∃ rb, rb = w.heap.size + 1 := ⟨_, rfl⟩
    obtain ⟨fb, hfb⟩ : ∃ fb, fb = w.heap.size := ⟨_, rfl⟩
    have HNE : Hid (fb ≠ rb ∧ w.heap.size ≤ rb ∧ w.heap.size ≤ fb) := Lib.hid (by omega)
    rw [← hrb] at HR
    rw [← hfb] at HF
    rw [← hrb, ← hfb]
    clear hf hr hb hrb hfb
    generalize W0 w x = W1 at *
    obtain ⟨f0, f1, f2, f3, f4⟩ := HF.out.cells
    have c0 := (HB.out.cell (by rw [add_block]; exact HAD.out)).trans HC0.out
    rw [add_zero'] at c0
    have c2 := (HB.out.cell (by rw [add_block]; exact HAD.out)).trans HC2.out
    rw [add_two'] at c2
    go_region
    go_wp2_with (((with_reducible (refine wpList_store_rowTo rfl 31 (Operand.tmp 4) (Operand.tmp 30) rfl rfl rb zeroS ?_ ?_ 31 zeroS ?_ ?_ ?_ ?_ ?_)); (· rfl); (· rfl); (· exact HR.out); (· exact zeroS_size); (· rfl); (· exact zeroS_one)))
    refine OpW.ret_row Tryz.results20 rfl rfl (setRow_heap _ _ _ _ _ _ (HR.out)) Tryz.underlying31 rfl zeroS_size ?_
    exact ⟨congrArg Ending.returned HPN.out.symm, below_row HB.out.drew HNE.out.2.1 _⟩
set_option maxHeartbeats 3200000 in
theorem parse_other (x : Fm) (hk : x.k ≠ 1) (l : List Bs) (a : Bs) (r : List Bs) (hl : l = a :: r) (hn : a ≠ x.w) (oa : Option Addr) (cap : Nat) (w : World) (hrd : Rds w.heap.size w oa l) :
    Calls Tryz.prog 20 #[.agg (fmCells x).toArray, .slice oa l.length cap] w fun e w' => e = .returned (parseV x l) ∧ Below w.heap.size w w' := by
  have HPN : Hid (parseV x l = .tuple #[.agg zeroS, .bool false]) := Lib.hid (parseV_none (by
    unfold parseF bodyW
    rw [if_neg hk, hl]
    simp only
    rw [if_neg hn]; rfl))
  have h30 : 0 < l.length := by rw [hl]; simp
  have hk1 : (x.k == 1) = false := beq_eq_false_iff_ne.2 hk
  obtain ⟨ad, hoa, had, c0⟩ := rds_at hrd (i := 0) (y := a) (by rw [hl]; rfl)
  subst hoa
  have h4 : ((bs a).toList == (bs x.w).toList) = false := by
    rw [Lib.toList_data (bs x.w), bs_data]
    exact str_ne hn
  have HC0 := Lib.hid c0
  have HAD := Lib.hid had
  clear hl hk hn hrd c0 had
  show Calls _ _ #[.agg #[.string (bs x.w), .int .i64 x.k, .int .i64 x.c, .int .i64 x.o, .string (bs x.fs)], _] _ _
  go_enter Tryz.func20, Tryz.ntmps20
  go_wp2_with fail
  change Code.wp _ _ _ _ (W0 w x)
  obtain ⟨hf, hr, hb⟩ := pro w x
  have HB := Lib.hid hb
  have HR := Lib.hid hr
  have HF := Lib.hid hf
  obtain ⟨rb, hrb⟩ : ∃ rb, rb = w.heap.size + 1 := ⟨_, rfl⟩
  obtain ⟨fb, hfb⟩ : ∃ fb, fb = w.heap.size := ⟨_, rfl⟩
  have HNE : Hid (fb ≠ rb ∧ w.heap.size ≤ rb ∧ w.heap.size ≤ fb) := Lib.hid (by omega)
  rw [← hrb] at HR
  rw [← hfb] at HF
  rw [← hrb, ← hfb]
  clear hf hr hb hrb hfb
  generalize W0 w x = W1 at *
  obtain ⟨f0, f1, f2, f3, f4⟩ := HF.out.cells
  have c0 := (HB.out.cell (by rw [add_block]; exact HAD.out)).trans HC0.out
  rw [add_zero'] at c0
  go_region
  go_wp2_with (((with_reducible (refine wpList_store_rowTo rfl 31 (Operand.tmp 4) (Operand.tmp 44) rfl rfl rb zeroS ?_ ?_ 31 zeroS ?_ ?_ ?_ ?_ ?_)); (· rfl); (· rfl); (· exact HR.out); (· exact zeroS_size); (· rfl); (· exact zeroS_one)))
  refine OpW.ret_row Tryz.results20 rfl rfl (setRow_heap _ _ _ _ _ _ (HR.out)) Tryz.underlying31 rfl zeroS_size ?_
  exact ⟨congrArg Ending.returned HPN.out.symm, below_row HB.out.drew HNE.out.2.1 _⟩
set_option maxHeartbeats 3200000 in
theorem parse_rest (x : Fm) (hk : x.k ≠ 1) (l : List Bs) (r2 : List Bs) (hl : l = x.w :: r2) (hll : l.length ≤ 1000001) (oa : Option Addr) (cap : Nat) (hcap : l.length ≤ cap) (w : World) (hv : CV w) (hrd : Rds w.heap.size w oa l) (hls : ∀ y ∈ l, y.length ≤ 1000000) (hfs : x.fs.length ≤ 10) :
    Calls Tryz.prog 20 #[.agg (fmCells x).toArray, .slice oa l.length cap] w fun e w' => e = .returned (parseV x l) ∧ Below w.heap.size w w' := by
  have HBW : Hid (bodyW x l = some r2) := Lib.hid (by unfold bodyW; rw [if_neg hk, hl]; simp)
  have HPA : Hid (x.all = x.fs.map (place (x.c == 1))) := Lib.hid (by unfold Fm.all Fm.ps; rw [if_neg hk])
  have h30 : 0 < l.length := by rw [hl]; simp
  have h31 : 1 ≤ (l.length : Int) := by omega
  have h32 : (l.length : Int) - 1 = (r2.length : Int) := by rw [hl]; simp
  have h33 : l.length - 1 = r2.length := by rw [hl]; simp
  have hk1 : (x.k == 1) = false := beq_eq_false_iff_ne.2 hk
  obtain ⟨ad, hoa, had, c0⟩ := rds_at hrd (i := 0) (y := x.w) (by rw [hl]; rfl)
  have hrd2 : ∃ oa2 cap2, Rds w.heap.size w oa2 r2 ∧ ((cap = 1 ∧ oa2 = some ad ∧ cap2 = 0) ∨ (cap ≠ 1 ∧ oa2 = some ⟨ad.block, ad.off + 1, none⟩ ∧ cap2 = cap - 1)) := by
    by_cases hc : cap = 1
    · refine ⟨_, _, ?_, .inl ⟨hc, rfl, rfl⟩⟩
      have : r2 = [] := List.eq_nil_of_length_eq_zero (by omega)
      rw [this]
      intro i hi
      simp at hi
    · refine ⟨_, _, ?_, .inr ⟨hc, rfl, rfl⟩⟩
      intro i hi
      obtain ⟨a', h1, h2, h3⟩ := hrd (i + 1) (by rw [hl]; simpa using hi)
      rw [hoa] at h1
      injection h1 with h1
      subst h1
      refine ⟨_, rfl, h2, ?_⟩
      have e : (⟨ad.block, ad.off + 1, none⟩ : Addr).add i = ad.add (i + 1) := by
        unfold Addr.add
        by_cases h : i = 0
        · subst h; simp
        · simp [h]; omega
      rw [e, h3]
      congr 1
      simp [hl]
  subst hoa
  have h4 : ((bs x.w).toList == (bs x.w).toList) = true := by simp
  have HC0 := Lib.hid c0
  have HAD := Lib.hid had
  obtain ⟨oa2, cap2, hrd2, hcc⟩ := hrd2
  have HRD0 := Lib.hid hrd2
  have HLS : Hid (∀ y ∈ r2, y.length ≤ 1000000) := Lib.hid fun y hy => hls y (by rw [hl]; simp [hy])
  have HV := Lib.hid hv
  have HFS := Lib.hid hfs
  have HLR : Hid (r2.length ≤ 1000001) := Lib.hid (by omega)
  obtain ⟨ws, hws⟩ : ∃ ws, ws = x.fs := ⟨_, rfl⟩
  rw [← hws] at HPA
  have HWSL : Hid (ws.length ≤ 11) := Lib.hid (by rw [hws]; omega)
  have HWS0 := Lib.hid hws
  clear hl hk hrd hrd2 c0 had hls hv hcap hws hfs
  rcases hcc with ⟨hc, rfl, rfl⟩ | ⟨hc, rfl, rfl⟩
  first | subst hc | skip
  all_goals
    show Calls _ _ #[.agg #[.string (bs x.w), .int .i64 x.k, .int .i64 x.c, .int .i64 x.o, .string (bs x.fs)], _] _ _
    go_enter Tryz.func20, Tryz.ntmps20
    go_wp2_with fail
    change Code.wp _ _ _ _ (W0 w x)
    obtain ⟨hf, hr, hb⟩ := pro w x
    have HB := Lib.hid hb
    have HR := Lib.hid hr
    have HF := Lib.hid hf
    obtain ⟨rb, hrb⟩ : ∃ rb, rb = w.heap.size + 1 := ⟨_, rfl⟩
    obtain ⟨fb, hfb⟩ : ∃ fb, fb = w.heap.size := ⟨_, rfl⟩
    have HNE : Hid (fb ≠ rb ∧ w.heap.size ≤ rb ∧ w.heap.size ≤ fb) := Lib.hid (by omega)
    rw [← hrb] at HR
    rw [← hfb] at HF
    rw [← hrb, ← hfb]
    clear hf hr hb hrb hfb
    generalize W0 w x = W1 at *
    obtain ⟨f0, f1, f2, f3, f4⟩ := HF.out.cells
    have c0 := (HB.out.cell (by rw [add_block]; exact HAD.out)).trans HC0.out
    rw [add_zero'] at c0
    go_region
    have HB2 : Hid (Below w.heap.size w W1.drew) := Lib.hid HB.out.drew
    have HF2 : Hid (FBox W1.drew fb x) := Lib.hid HF.out
    have HR2 : Hid (SBox W1.drew rb (stp0 0 0 0) noV 0 noV) := Lib.hid HR.out
    have HRD := Lib.hid (rds_grow HRD0.out HB2.out)
    have HV2 := Lib.hid (HV.out.keep HB2.out)
    clear c0 HC0 HRD0 HV HB HF HR f0 f1 f2 f3 f4
    generalize W1.drew = W2 at *
    obtain ⟨f0, f1, f2, f3, f4⟩ := HF2.out.cells
    rw [← HWS0.out] at f4
    go_wp2_with fail
    try generalize (⟨ad.block, ad.off + 1, none⟩ : Addr) = a2 at *
    refine (fresh_any ⟨x.w, x.k, x.c, x.o, ws⟩ _).mono ?_
    rintro e W3 ⟨rfl, hb3⟩
    have HB3 := Lib.hid (bstep' HB2.out hb3)
    have HR3 := Lib.hid (HR2.out.keep hb3)
    have HRD3 := Lib.hid (rds_grow HRD.out hb3)
    have HV3 := Lib.hid (HV2.out.keep hb3)
    clear hb3 f0 f1 f2 f3 f4 HB2 HR2 HRD HV2
    simp only
    obtain ⟨cs, hcs⟩ : ∃ cs, cs = cellsS (stp0 x.k x.c x.o) noV 0 noV := ⟨_, rfl⟩
    have HCS := Lib.hid hcs
    have H1 : Hid (cs.all (·.oneCell') = true) := Lib.hid (by rw [hcs]; exact cells_one _ _)
    have H2 : Hid ((Tryz.prog.info? 31).map (·.size) = some cs.size) := Lib.hid (by rw [hcs]; exact stepSize)
    have H3 : Hid (zeroS.size = cs.size) := Lib.hid (by rw [hcs]; rfl)
    rw [← hcs]
    clear hcs
    obtain ⟨sb, hsb⟩ : ∃ sb, sb = W3.heap.size := ⟨_, rfl⟩
    have HSB := Lib.hid hsb
    obtain ⟨W5, hW5⟩ : ∃ W5, W5 = (W3.alloc (.cells zeroS 31)).setRow sb cs := ⟨_, rfl⟩
    have HB35 : Hid (Below sb W3 W5) := Lib.hid (by rw [hW5, hsb]; exact below_row ((Below.refl _ W3).alloc (Nat.le_refl _) _) (Nat.le_refl _) _)
    have HS5 : Hid (SBox W5 sb (stp0 x.k x.c x.o) noV 0 noV) := Lib.hid (by rw [hW5]; unfold SBox; rw [← HCS.out]; exact setRow_heap _ _ _ _ _ _ (alloc_at _ _ _ hsb))
    have HW5 := Lib.hid hW5
    clear hW5
    by_cases hlen : ws.length = r2.length
    · have hle : ((r2.length : Int) == ((bs ws).size : Int)) = true := by rw [beq_iff_eq, bs_size, hlen]
      have hsz : (bs ws).size = r2.length := by rw [bs_size, hlen]
      have HSZ := Lib.hid hsz
      have HLEN := Lib.hid hlen
      have HDATA : Hid (∀ (k : Nat) (h : k < (bs ws).size), ∃ f, (bs ws)[k]'h = f ∧ ws[k]? = some f) := Lib.hid fun k h => ⟨_, rfl, by
        rw [bs_size] at h
        rw [List.getElem?_eq_getElem h]; rfl⟩
      generalize bs ws = wsS at *
      go_wp2_with (((with_reducible (refine wpList_store_rowTo rfl 31 (Operand.tmp 7) (Operand.tmp 55) rfl rfl W3.heap.size cs ?_ ?_ 31 zeroS ?_ ?_ ?_ ?_ ?_)); (· rfl); (· rfl); (· exact alloc_at _ _ _ rfl); (· exact H2.out); (· exact H3.out); (· exact H1.out)))
      have hw5 : (W3.alloc (.cells zeroS 31)).setRow W3.heap.size cs = W5 := by rw [HW5.out, HSB.out]
      change Code.wp _ _ _ _ ((W3.alloc (.cells zeroS 31)).setRow W3.heap.size cs)
      rw [hw5, ← HSB.out]
      clear hw5 hle hlen hsz hsb
      have HR5 := Lib.hid ((HB35.out.block rb (by have := lt_of_block HR3.out; rw [HSB.out]; exact this)).trans HR3.out)
      have HV5 := Lib.hid (HV3.out.stay sb HB35.out (by rw [HSB.out]; exact HV3.out.low))
      have HRD5 := Lib.hid ((by rw [HSB.out]; exact HRD3.out : Rds sb W3 _ r2).below HB35.out)
      have HB5 : Hid (Below w.heap.size w W5) := Lib.hid (HB3.out.trans (HB35.out.mono (by rw [HSB.out]; exact HB3.out.size)))
      have HLV : Hid (Low sb) := Lib.hid (by rw [HSB.out]; exact HV3.out.low)
      have HFAR : Hid (Far sb) := Lib.hid (HV3.out.far (by rw [HSB.out]; exact Nat.le_refl _))
      have HLT : Hid (rb < sb ∧ w.heap.size ≤ sb ∧ sb < W5.heap.size) := Lib.hid (by
        have h1 := lt_of_block HR3.out
        have h2 := HB3.out.size
        have h3 := lt_of_block HS5.out
        have h4 := HSB.out
        omega)
      clear HW5 HB35 HB3 HR3 HRD3 HV3 HF2 HSB HCS H1 H3
      go_loopw [8, 9, 64] (fun _ _ c wr => ∃ (k : Nat) (t : Stp), k ≤ r2.length ∧ c = .int .i64 (k : Int) ∧ putAll (stp0 x.k x.c x.o) ((ws.take k).map (place (x.c == 1))) (r2.take k) = some t ∧ SBox wr sb t noV 0 noV ∧ Below sb W5 wr) (fun _ _ c _ => ((r2.length : Int) - intOf c).toNat)
      case atStart => exact ⟨0, _, by omega, rfl, rfl, HS5.out, Below.refl _ _⟩
      case round =>
        obtain ⟨k, t, hk, rfl, hput, hbx, hbl⟩ := hrel
        have hlr := HLR.out
        have HPUT := Lib.hid hput
        have HBX := Lib.hid hbx
        have HBL := Lib.hid hbl
        have HCVR := Lib.hid (HV5.out.stay sb hbl HLV.out)
        have HRR := Lib.hid ((hbl.block rb HLT.out.1).trans HR5.out)
        have HBR : Hid (Below w.heap.size w wr) := Lib.hid (HB5.out.trans (hbl.mono HLT.out.2.1))
        have HRDR := Lib.hid (HRD5.out.below hbl)
        clear hput hbx hbl
        by_cases hlt : k < r2.length
        · have hk1 : (k : Int) < (r2.length : Int) := by omega
          obtain ⟨y, hy⟩ : ∃ y, r2[k]? = some y := ⟨_, List.getElem?_eq_getElem hlt⟩
          obtain ⟨a3, ha3, _, hc3⟩ := rds_at HRDR.out hy
          first | (injection ha3 with ha3; subst ha3) | subst ha3
          have hks : k < wsS.size := by rw [HSZ.out]; exact hlt
          obtain ⟨f, hf, hwf⟩ := HDATA.out k hks
          have HYL : Hid (y.length ≤ 1000000) := Lib.hid (HLS.out y (List.mem_of_getElem? hy))
          have HTK : Hid (t.a.k = x.c) := Lib.hid (putAll_kinds HPUT.out).2.1
          have HNX : Hid (putAll (stp0 x.k x.c x.o) ((ws.take (k + 1)).map (place (x.c == 1))) (r2.take (k + 1)) = putW t (place (x.c == 1) f) y) := Lib.hid (by
            rw [List.take_add_one, List.take_add_one, hy, hwf, List.map_append]
            show putAll _ (_ ++ [place (x.c == 1) f]) (_ ++ [y]) = _
            rw [putAll_snoc _ _ _ _ _ (putAll_len HPUT.out), HPUT.out]
            rfl)
          have HMIS : Hid (putW t (place (x.c == 1) f) y = none → parseF x l = none) := Lib.hid (fun hn => by
            unfold parseF
            rw [HBW.out, HPA.out]
            show putAll _ _ _ = none
            have h1 : putAll (stp0 x.k x.c x.o) ((ws.take (k + 1)).map (place (x.c == 1))) (r2.take (k + 1)) = none := by rw [HNX.out, hn]
            have h2 := putAll_none _ ((ws.drop (k + 1)).map (place (x.c == 1))) _ (r2.drop (k + 1)) _ (by simp [HLEN.out]) h1
            rw [← List.map_append, List.take_append_drop, List.take_append_drop] at h2
            exact h2)
          clear hy hwf
          go_wp2_with fail
          have hrd := read_any f (bs y) (by rw [bs_size]; exact HYL.out) sb t noV noV 0 HFAR.out wr HBX.out HCVR.out
          rw [HTK.out] at hrd
          refine hrd.mono ?_
          rintro e w6 ⟨he, hbox, honly⟩
          rw [bs_data] at he hbox
          subst he
          have HBX6 := Lib.hid hbox
          have HBL6 : Hid (Below sb W5 w6) := Lib.hid (HBL.out.trans (honly.below (Nat.le_refl _) (by have := HBL.out.size; have := HLT.out; omega)))
          clear hrd hbox honly
          cases hpw : putW t (place (x.c == 1) f) y with
          | none =>
            have HPN : Hid (parseV x l = .tuple #[.agg zeroS, .bool false]) := Lib.hid (parseV_none (HMIS.out hpw))
            have HR6 := Lib.hid ((HBL6.out.block rb HLT.out.1).trans HR5.out)
            have HB6 : Hid (Below w.heap.size w w6) := Lib.hid (HB5.out.trans (HBL6.out.mono HLT.out.2.1))
            simp only [Option.isSome_none]
            clear hpw
            go_wp2_with (((with_reducible (refine wpList_store_rowTo rfl 31 (Operand.tmp 4) (Operand.tmp 75) rfl rfl rb zeroS ?_ ?_ 31 zeroS ?_ ?_ ?_ ?_ ?_)); (· rfl); (· rfl); (· exact HR6.out); (· exact zeroS_size); (· rfl); (· exact zeroS_one)))
            refine OpW.ret_row Tryz.results20 rfl rfl (setRow_heap _ _ _ _ _ _ (HR6.out)) Tryz.underlying31 rfl zeroS_size ?_
            exact ⟨congrArg Ending.returned HPN.out.symm, below_row HB6.out HNE.out.2.1 _⟩
  
          | some t2 =>
            have HBX7 := Lib.hid (HBX6.out t2 hpw)
            have HP7 := Lib.hid (HNX.out.trans hpw)
            simp only [Option.isSome_some]
            clear hpw
            go_wp2_with fail
            exact ⟨⟨k + 1, t2, by omega, by simp, HP7.out, HBX7.out, HBL6.out⟩, by simp [intOf]; omega⟩
        · obtain rfl : k = r2.length := by omega
          have HPS : Hid (parseV x l = .tuple #[.agg (cellsS t noV 0 noV), .bool true]) := Lib.hid (parseV_some (by
            unfold parseF
            rw [HBW.out, HPA.out]
            have := HPUT.out
            have e1 : ws.take r2.length = ws := List.take_of_length_le (by rw [HLEN.out]; exact Nat.le_refl _)
            rw [e1, List.take_length] at this
            exact this))
          have hk1 : decide ((r2.length : Int) < (r2.length : Int)) = false := decide_eq_false (by omega)
          obtain ⟨ct, hct⟩ : ∃ ct, ct = cellsS t noV 0 noV := ⟨_, rfl⟩
          have HCT := Lib.hid hct
          have C1 : Hid (ct.all (·.oneCell') = true) := Lib.hid (by rw [hct]; exact cells_one _ _)
          have C2 : Hid ((Tryz.prog.info? 31).map (·.size) = some ct.size) := Lib.hid (by rw [hct]; exact stepSize)
          have C3 : Hid (zeroS.size = ct.size) := Lib.hid (by rw [hct]; rfl)
          have C4 : Hid (wr.heap[sb]? = some (.cells ct 31 (0, 0))) := Lib.hid (by rw [hct]; exact HBX.out)
          clear hct hlt
          go_wp2_with (first | ((with_reducible (refine wpList_load_row rfl 31 (Operand.tmp 7) rfl sb ?_ 31 ct (0, 0) _ ?_ Tryz.underlying31 ?_ ?_ ?_)); (· rfl); (· exact C4.out); (· rfl); (· exact C2.out)) | ((with_reducible (refine wpList_store_rowTo rfl 31 (Operand.tmp 4) (Operand.tmp 77) rfl rfl rb ct ?_ ?_ 31 zeroS ?_ ?_ ?_ ?_ ?_)); (· rfl); (· rfl); (· exact HRR.out); (· exact C2.out); (· exact C3.out); (· exact C1.out)))
          refine OpW.ret_row Tryz.results20 rfl rfl (setRow_heap _ _ _ _ _ _ HRR.out) Tryz.underlying31 rfl C2.out ?_
          exact ⟨by rw [HPS.out, HCT.out]; rfl, below_row HBR.out HNE.out.2.1 _⟩
    · have hle : ((r2.length : Int) == ((bs ws).size : Int)) = false := by rw [beq_eq_false_iff_ne, bs_size]; omega
      have HPN : Hid (parseV x l = .tuple #[.agg zeroS, .bool false]) := Lib.hid (parseV_none (by
        unfold parseF
        rw [HBW.out, HPA.out]
        cases hp : putAll (stp0 x.k x.c x.o) (ws.map (place (x.c == 1))) r2 with
        | none => exact hp
        | some t => exact absurd (by have := putAll_len hp; rw [List.length_map] at this; exact this) hlen))
      clear hlen hsb
      generalize bs ws = wsS at *
      go_wp2_with (first | ((with_reducible (refine wpList_store_rowTo rfl 31 (Operand.tmp 7) (Operand.tmp 55) rfl rfl W3.heap.size cs ?_ ?_ 31 zeroS ?_ ?_ ?_ ?_ ?_)); (· rfl); (· rfl); (· exact alloc_at _ _ _ rfl); (· exact H2.out); (· exact H3.out); (· exact H1.out)) | ((with_reducible (refine wpList_store_rowTo rfl 31 (Operand.tmp 4) (Operand.tmp 61) rfl rfl rb zeroS ?_ ?_ 31 zeroS ?_ ?_ ?_ ?_ ?_)); (· rfl); (· rfl); (· exact (setRow_other _ _ _ _ (by have := lt_of_block HR3.out; omega)).trans ((heap_alloc_old _ _ (lt_of_block HR3.out)).trans HR3.out)); (· exact zeroS_size); (· rfl); (· exact zeroS_one)))
      refine OpW.ret_row Tryz.results20 rfl rfl (setRow_heap _ _ _ _ _ _ ((setRow_other _ _ _ _ (by have := lt_of_block HR3.out; omega)).trans ((heap_alloc_old _ _ (lt_of_block HR3.out)).trans HR3.out))) Tryz.underlying31 rfl zeroS_size ?_
      exact ⟨congrArg Ending.returned HPN.out.symm, below_row (below_row (HB3.out.alloc HB3.out.size _) HB3.out.size _) HNE.out.2.1 _⟩
set_option maxHeartbeats 3200000 in
theorem parse_done (x : Fm) (hk : x.k = 1) (l : List Bs) (b : Bs) (r : List Bs) (hl : l = [99] :: b :: x.w :: r) (hll : l.length ≤ 1000001) (oa : Option Addr) (cap : Nat) (hcap : l.length ≤ cap) (w : World) (hv : CV w) (hrd : Rds w.heap.size w oa l) (hls : ∀ y ∈ l, y.length ≤ 1000000) (hfs : x.fs.length ≤ 10) :
    Calls Tryz.prog 20 #[.agg (fmCells x).toArray, .slice oa l.length cap] w fun e w' => e = .returned (parseV x l) ∧ Below w.heap.size w w' := by
  obtain ⟨i0, hi, hz0, hz1, hz2⟩ := info_parts strinfo
  obtain ⟨r2, hr2⟩ : ∃ r2, r2 = b :: r := ⟨_, rfl⟩
  obtain ⟨ws, hws⟩ : ∃ ws, ws = 99 :: x.fs := ⟨_, rfl⟩
  have HBW : Hid (bodyW x l = some r2) := Lib.hid (by unfold bodyW; rw [if_pos hk, hl, hr2]; simp)
  have HPA : Hid (x.all = ws.map (place (x.c == 1))) := Lib.hid (by unfold Fm.all Fm.ps; rw [if_pos hk, hws]; rfl)
  have h3 : decide ((l.length : Int) < 3) = false := decide_eq_false (by rw [hl]; simp; omega)
  have h30 : 0 < l.length := by rw [hl]; simp
  have h32 : 2 < l.length := by rw [hl]; simp
  have h33 : 2 < (l.length : Int) := by omega
  have h34 : 1 < (l.length : Int) := by omega
  have h35 : 3 ≤ (l.length : Int) := by omega
  have hl3 : l.length - 3 = r.length := by rw [hl]; simp
  have hl4 : (l.length : Int) - 3 = (r.length : Int) := by omega
  have hk1 : (x.k == 1) = true := by rw [hk]; rfl
  obtain ⟨ad, hoa, had, c0⟩ := rds_at hrd (i := 0) (y := [99]) (by rw [hl]; rfl)
  obtain ⟨ad', hoa', _, c1⟩ := rds_at hrd (i := 1) (y := b) (by rw [hl]; rfl)
  obtain ⟨ad'', hoa'', _, c2⟩ := rds_at hrd (i := 2) (y := x.w) (by rw [hl]; rfl)
  have hcc : ∃ a3 c3, (∀ j u, (r.map strV)[j]? = some u → a3.block < w.heap.size ∧ w.cell? (a3.add j) = some u) ∧ ((cap = 3 ∧ a3 = ad ∧ c3 = 0) ∨ (cap ≠ 3 ∧ a3 = ⟨ad.block, ad.off + 3, none⟩ ∧ c3 = cap - 3)) := by
    by_cases hc : cap = 3
    · refine ⟨_, _, ?_, .inl ⟨hc, rfl, rfl⟩⟩
      have : r = [] := List.eq_nil_of_length_eq_zero (by omega)
      rw [this]
      intro j u hu
      simp at hu
    · refine ⟨_, _, ?_, .inr ⟨hc, rfl, rfl⟩⟩
      intro j u hu
      rw [List.getElem?_map] at hu
      obtain ⟨y, hy, rfl⟩ := Option.map_eq_some_iff.1 hu
      obtain ⟨a', h1, h2, h3⟩ := rds_at hrd (i := j + 3) (y := y) (by rw [hl]; simpa using hy)
      rw [hoa] at h1
      injection h1 with h1
      subst h1
      refine ⟨h2, ?_⟩
      have e : (⟨ad.block, ad.off + 3, none⟩ : Addr).add j = ad.add (j + 3) := by
        unfold Addr.add
        by_cases h : j = 0
        · subst h; simp
        · simp [h]; omega
      rw [e, h3]; rfl
  subst hoa
  obtain rfl : ad = ad' := by injection hoa'
  obtain rfl : ad = ad'' := by injection hoa''
  have h4 : ((bs [99]).toList == [99]) = true := str_eq rfl
  have h5 : ((bs x.w).toList == (bs x.w).toList) = true := by simp
  have HC0 := Lib.hid c0
  have HC1 := Lib.hid c1
  have HC2 := Lib.hid c2
  have HAD := Lib.hid had
  obtain ⟨a3, c3, hnews, hcc⟩ := hcc
  have HNEWS := Lib.hid hnews
  have HLS : Hid (∀ y ∈ r2, y.length ≤ 1000000) := Lib.hid fun y hy => hls y (by rw [hl]; rw [hr2] at hy; rcases List.mem_cons.1 hy with rfl | hy <;> simp [*])
  have HV := Lib.hid hv
  have HLR : Hid (r2.length ≤ 1000001) := Lib.hid (by rw [hr2]; simp; omega)
  have hrl : r.length ≤ 1000001 := by omega
  have HWSL : Hid (ws.length ≤ 11) := Lib.hid (by rw [hws]; simp; omega)
  have HWS0 : Hid (bs ws = (⟨#[99]⟩ : ByteArray) ++ bs x.fs) := Lib.hid (by
    rw [hws]
    apply ByteArray.ext
    rw [ByteArray.data_append]
    apply Array.toList_inj.1
    rw [Array.toList_append]; rfl)
  have hov : ¬ 9223372036854775807 < 1 + (bs x.fs).size := by rw [bs_size]; omega
  have HR2E := Lib.hid hr2
  obtain ⟨qs, hqs⟩ : ∃ qs, qs = bs [99] := ⟨_, rfl⟩
  rw [← hqs] at HC0 h4
  clear hl hk hrd c0 c1 c2 had hls hv hcap hws hr2 hnews hoa' hoa'' hqs hfs
  rcases hcc with ⟨hc, ha3, hc3⟩ | ⟨hc, ha3, hc3⟩
  first | subst hc | skip
  all_goals
    show Calls _ _ #[.agg #[.string (bs x.w), .int .i64 x.k, .int .i64 x.c, .int .i64 x.o, .string (bs x.fs)], _] _ _
    go_enter Tryz.func20, Tryz.ntmps20
    go_wp2_with fail
    change Code.wp _ _ _ _ (W0 w x)
    obtain ⟨hf, hr, hb⟩ := pro w x
    have HB := Lib.hid hb
    have HR := Lib.hid hr
    have HF := Lib.hid hf
    obtain ⟨rb, hrb⟩ : ∃ rb, rb = w.heap.size + 1 := ⟨_, rfl⟩
    obtain ⟨fb, hfb⟩ : ∃ fb, fb = w.heap.size := ⟨_, rfl⟩
    have HNE : Hid (fb ≠ rb ∧ w.heap.size ≤ rb ∧ w.heap.size ≤ fb) := Lib.hid (by omega)
    rw [← hrb] at HR
    rw [← hfb] at HF
    rw [← hrb, ← hfb]
    clear hf hr hb hrb hfb
    generalize W0 w x = W1 at *
    obtain ⟨f0, f1, f2, f3, f4⟩ := HF.out.cells
    have c0 := (HB.out.cell (by rw [add_block]; exact HAD.out)).trans HC0.out
    rw [add_zero'] at c0
    have c1 := (HB.out.cell (by rw [add_block]; exact HAD.out)).trans HC1.out
    rw [add_one'] at c1
    have c2 := (HB.out.cell (by rw [add_block]; exact HAD.out)).trans HC2.out
    rw [add_two'] at c2
    go_region
    go_wp2_with fail
    have HB1 : Hid (Below w.heap.size w W1.drew) := Lib.hid HB.out.drew
    have HF1 : Hid (FBox W1.drew fb x) := Lib.hid HF.out
    have HR1 : Hid (SBox W1.drew rb (stp0 0 0 0) noV 0 noV) := Lib.hid HR.out
    have d1 : W1.drew.cell? ⟨ad.block, ad.off + 1, none⟩ = some (.string (bs b)) := c1
    clear c0 c1 c2 f0 f1 f2 f3 f4 HB HF HR
    generalize W1.drew = W2 at *
    have HN2 : Hid (∀ j u, (r.map strV)[j]? = some u → W2.cell? (a3.add j) = some u) := Lib.hid fun j u hu => by
      obtain ⟨h1, h2⟩ := HNEWS.out j u hu
      exact (HB1.out.cell (by rw [add_block]; exact h1)).trans h2
    obtain ⟨wb, hwb⟩ : ∃ wb, wb = W2.heap.size := ⟨_, rfl⟩
    have HWB := Lib.hid hwb
    clear hwb
    subst ha3 hc3
    go_region_law ((refine step_append_bothA rfl _ _ 44 rfl wb 9 i0 (.string ⟨#[]⟩) 1 16 Tryz.underlying44 hi hz0 hz1 hz2 rfl (by decide) _ 1 [.string (bs b)] (by rfl) (by rw [HWB.out]; first | exact own_one _ _ _ (by simp) | exact own_oneD _ _ _ (by simp)) _ r.length _ (r.map strV) (by rfl) (by simp) (fun j u hu => by have h := HN2.out j u hu; exact (World.cell?_alloc_lt _ _ _ (World.block_lt_of_cell? _ _ h)).trans h) (by intro u hu; simp only [List.mem_map] at hu; obtain ⟨y, _, rfl⟩ := hu; rfl) (by unfold maxLen; omega) (by omega) (by rw [HWB.out]; simp) ?_; intro oa5 cap5 w5 hown5 hbel5; have HS5 := Lib.hid hown5; have HBL5 := Lib.hid hbel5; clear hown5 hbel5))
    have HBW5 : Hid (Below wb W2 w5) := Lib.hid ((((Below.refl wb W2).alloc (by rw [HWB.out]; exact Nat.le_refl _) _).drew).trans HBL5.out)
    have HB2 : Hid (Below w.heap.size w w5) := Lib.hid (HB1.out.trans (HBW5.out.mono (by rw [HWB.out]; exact HB1.out.size)))
    have HF2 : Hid (FBox w5 fb x) := Lib.hid ((HBW5.out.block fb (by rw [HWB.out]; exact lt_of_block HF1.out)).trans HF1.out)
    have HR2 : Hid (SBox w5 rb (stp0 0 0 0) noV 0 noV) := Lib.hid ((HBW5.out.block rb (by rw [HWB.out]; exact lt_of_block HR1.out)).trans HR1.out)
    have HRD : Hid (Rds w5.heap.size w5 oa5 r2) := Lib.hid (by
      rw [HR2E.out]
      have e : (b :: r).map strV = [.string (bs b)] ++ r.map strV := rfl
      refine Rds.of_strs (B := wb) (n := 1 + r.length) (cap := cap5) ?_
      unfold Strs
      rw [e, show (b :: r).length = 1 + r.length by simp; omega]
      exact HS5.out)
    have HV2 := Lib.hid (HV.out.keep HB2.out)
    have hn1 : (1 : Int) + (r.length : Int) = (r2.length : Int) := by rw [HR2E.out]; simp; omega
    have hn2 : 1 + r.length = r2.length := by rw [HR2E.out]; simp; omega
    rw [hn2]
    clear HB1 HF1 HR1 d1 HN2 HWB HS5 HBL5 HBW5 hn1 HR2E HNEWS HV HC0 HC1 HC2
    generalize w5 = W2 at *
    obtain ⟨f0, f1, f2, f3, f4⟩ := HF2.out.cells
    have hcat := HWS0.out.symm
    go_wp2_with fail
    clear hcat hov hn2
    as_aux_lemma =>
      try generalize (⟨ad.block, ad.off + 1, none⟩ : Addr) = a2 at *
      refine (fresh_any x _).mono ?_
      rintro e W3 ⟨rfl, hb3⟩
      have HB3 := Lib.hid (bstep' HB2.out hb3)
      have HR3 := Lib.hid (HR2.out.keep hb3)
      have HRD3 := Lib.hid (rds_grow HRD.out hb3)
      have HV3 := Lib.hid (HV2.out.keep hb3)
      clear hb3 f0 f1 f2 f3 f4 HB2 HR2 HRD HV2
      simp only
      obtain ⟨cs, hcs⟩ : ∃ cs, cs = cellsS (stp0 x.k x.c x.o) noV 0 noV := ⟨_, rfl⟩
      have HCS := Lib.hid hcs
      have H1 : Hid (cs.all (·.oneCell') = true) := Lib.hid (by rw [hcs]; exact cells_one _ _)
      have H2 : Hid ((Tryz.prog.info? 31).map (·.size) = some cs.size) := Lib.hid (by rw [hcs]; exact stepSize)
      have H3 : Hid (zeroS.size = cs.size) := Lib.hid (by rw [hcs]; rfl)
      rw [← hcs]
      clear hcs
      obtain ⟨sb, hsb⟩ : ∃ sb, sb = W3.heap.size := ⟨_, rfl⟩
      have HSB := Lib.hid hsb
      obtain ⟨W5, hW5⟩ : ∃ W5, W5 = (W3.alloc (.cells zeroS 31)).setRow sb cs := ⟨_, rfl⟩
      have HB35 : Hid (Below sb W3 W5) := Lib.hid (by rw [hW5, hsb]; exact below_row ((Below.refl _ W3).alloc (Nat.le_refl _) _) (Nat.le_refl _) _)
      have HS5 : Hid (SBox W5 sb (stp0 x.k x.c x.o) noV 0 noV) := Lib.hid (by rw [hW5]; unfold SBox; rw [← HCS.out]; exact setRow_heap _ _ _ _ _ _ (alloc_at _ _ _ hsb))
      have HW5 := Lib.hid hW5
      clear hW5
      by_cases hlen : ws.length = r2.length
      · have hle : ((r2.length : Int) == ((bs ws).size : Int)) = true := by rw [beq_iff_eq, bs_size, hlen]
        have hsz : (bs ws).size = r2.length := by rw [bs_size, hlen]
        have HSZ := Lib.hid hsz
        have HLEN := Lib.hid hlen
        have HDATA : Hid (∀ (k : Nat) (h : k < (bs ws).size), ∃ f, (bs ws)[k]'h = f ∧ ws[k]? = some f) := Lib.hid fun k h => ⟨_, rfl, by
          rw [bs_size] at h
          rw [List.getElem?_eq_getElem h]; rfl⟩
        generalize bs ws = wsS at *
        go_wp2_with (((with_reducible (refine wpList_store_rowTo rfl 31 (Operand.tmp 7) (Operand.tmp 55) rfl rfl W3.heap.size cs ?_ ?_ 31 zeroS ?_ ?_ ?_ ?_ ?_)); (· rfl); (· rfl); (· exact alloc_at _ _ _ rfl); (· exact H2.out); (· exact H3.out); (· exact H1.out)))
        have hw5 : (W3.alloc (.cells zeroS 31)).setRow W3.heap.size cs = W5 := by rw [HW5.out, HSB.out]
        change Code.wp _ _ _ _ ((W3.alloc (.cells zeroS 31)).setRow W3.heap.size cs)
        rw [hw5, ← HSB.out]
        clear hw5 hle hlen hsz hsb
        have HR5 := Lib.hid ((HB35.out.block rb (by have := lt_of_block HR3.out; rw [HSB.out]; exact this)).trans HR3.out)
        have HV5 := Lib.hid (HV3.out.stay sb HB35.out (by rw [HSB.out]; exact HV3.out.low))
        have HRD5 := Lib.hid ((by rw [HSB.out]; exact HRD3.out : Rds sb W3 _ r2).below HB35.out)
        have HB5 : Hid (Below w.heap.size w W5) := Lib.hid (HB3.out.trans (HB35.out.mono (by rw [HSB.out]; exact HB3.out.size)))
        have HLV : Hid (Low sb) := Lib.hid (by rw [HSB.out]; exact HV3.out.low)
        have HFAR : Hid (Far sb) := Lib.hid (HV3.out.far (by rw [HSB.out]; exact Nat.le_refl _))
        have HLT : Hid (rb < sb ∧ w.heap.size ≤ sb ∧ sb < W5.heap.size) := Lib.hid (by
          have h1 := lt_of_block HR3.out
          have h2 := HB3.out.size
          have h3 := lt_of_block HS5.out
          have h4 := HSB.out
          omega)
        clear HW5 HB35 HB3 HR3 HRD3 HV3 HF2 HSB HCS H1 H3
        go_loopw [8, 9, 64] (fun _ _ c wr => ∃ (k : Nat) (t : Stp), k ≤ r2.length ∧ c = .int .i64 (k : Int) ∧ putAll (stp0 x.k x.c x.o) ((ws.take k).map (place (x.c == 1))) (r2.take k) = some t ∧ SBox wr sb t noV 0 noV ∧ Below sb W5 wr) (fun _ _ c _ => ((r2.length : Int) - intOf c).toNat)
        case atStart => exact ⟨0, _, by omega, rfl, rfl, HS5.out, Below.refl _ _⟩
        case round =>
          obtain ⟨k, t, hk, rfl, hput, hbx, hbl⟩ := hrel
          have hlr := HLR.out
          have HPUT := Lib.hid hput
          have HBX := Lib.hid hbx
          have HBL := Lib.hid hbl
          have HCVR := Lib.hid (HV5.out.stay sb hbl HLV.out)
          have HRR := Lib.hid ((hbl.block rb HLT.out.1).trans HR5.out)
          have HBR : Hid (Below w.heap.size w wr) := Lib.hid (HB5.out.trans (hbl.mono HLT.out.2.1))
          have HRDR := Lib.hid (HRD5.out.below hbl)
          clear hput hbx hbl
          by_cases hlt : k < r2.length
          · have hk1 : (k : Int) < (r2.length : Int) := by omega
            obtain ⟨y, hy⟩ : ∃ y, r2[k]? = some y := ⟨_, List.getElem?_eq_getElem hlt⟩
            obtain ⟨a3, ha3, _, hc3⟩ := rds_at HRDR.out hy
            first | (injection ha3 with ha3; subst ha3) | subst ha3
            have hks : k < wsS.size := by rw [HSZ.out]; exact hlt
            obtain ⟨f, hf, hwf⟩ := HDATA.out k hks
            have HYL : Hid (y.length ≤ 1000000) := Lib.hid (HLS.out y (List.mem_of_getElem? hy))
            have HTK : Hid (t.a.k = x.c) := Lib.hid (putAll_kinds HPUT.out).2.1
            have HNX : Hid (putAll (stp0 x.k x.c x.o) ((ws.take (k + 1)).map (place (x.c == 1))) (r2.take (k + 1)) = putW t (place (x.c == 1) f) y) := Lib.hid (by
              rw [List.take_add_one, List.take_add_one, hy, hwf, List.map_append]
              show putAll _ (_ ++ [place (x.c == 1) f]) (_ ++ [y]) = _
              rw [putAll_snoc _ _ _ _ _ (putAll_len HPUT.out), HPUT.out]
              rfl)
            have HMIS : Hid (putW t (place (x.c == 1) f) y = none → parseF x l = none) := Lib.hid (fun hn => by
              unfold parseF
              rw [HBW.out, HPA.out]
              show putAll _ _ _ = none
              have h1 : putAll (stp0 x.k x.c x.o) ((ws.take (k + 1)).map (place (x.c == 1))) (r2.take (k + 1)) = none := by rw [HNX.out, hn]
              have h2 := putAll_none _ ((ws.drop (k + 1)).map (place (x.c == 1))) _ (r2.drop (k + 1)) _ (by simp [HLEN.out]) h1
              rw [← List.map_append, List.take_append_drop, List.take_append_drop] at h2
              exact h2)
            clear hy hwf
            go_wp2_with fail
            have hrd := read_any f (bs y) (by rw [bs_size]; exact HYL.out) sb t noV noV 0 HFAR.out wr HBX.out HCVR.out
            rw [HTK.out] at hrd
            refine hrd.mono ?_
            rintro e w6 ⟨he, hbox, honly⟩
            rw [bs_data] at he hbox
            subst he
            have HBX6 := Lib.hid hbox
            have HBL6 : Hid (Below sb W5 w6) := Lib.hid (HBL.out.trans (honly.below (Nat.le_refl _) (by have := HBL.out.size; have := HLT.out; omega)))
            clear hrd hbox honly
            cases hpw : putW t (place (x.c == 1) f) y with
            | none =>
              have HPN : Hid (parseV x l = .tuple #[.agg zeroS, .bool false]) := Lib.hid (parseV_none (HMIS.out hpw))
              have HR6 := Lib.hid ((HBL6.out.block rb HLT.out.1).trans HR5.out)
              have HB6 : Hid (Below w.heap.size w w6) := Lib.hid (HB5.out.trans (HBL6.out.mono HLT.out.2.1))
              simp only [Option.isSome_none]
              clear hpw
              go_wp2_with (((with_reducible (refine wpList_store_rowTo rfl 31 (Operand.tmp 4) (Operand.tmp 75) rfl rfl rb zeroS ?_ ?_ 31 zeroS ?_ ?_ ?_ ?_ ?_)); (· rfl); (· rfl); (· exact HR6.out); (· exact zeroS_size); (· rfl); (· exact zeroS_one)))
              refine OpW.ret_row Tryz.results20 rfl rfl (setRow_heap _ _ _ _ _ _ (HR6.out)) Tryz.underlying31 rfl zeroS_size ?_
              exact ⟨congrArg Ending.returned HPN.out.symm, below_row HB6.out HNE.out.2.1 _⟩
    
            | some t2 =>
              have HBX7 := Lib.hid (HBX6.out t2 hpw)
              have HP7 := Lib.hid (HNX.out.trans hpw)
              simp only [Option.isSome_some]
              clear hpw
              go_wp2_with fail
              exact ⟨⟨k + 1, t2, by omega, by simp, HP7.out, HBX7.out, HBL6.out⟩, by simp [intOf]; omega⟩
          · obtain rfl : k = r2.length := by omega
            have HPS : Hid (parseV x l = .tuple #[.agg (cellsS t noV 0 noV), .bool true]) := Lib.hid (parseV_some (by
              unfold parseF
              rw [HBW.out, HPA.out]
              have := HPUT.out
              have e1 : ws.take r2.length = ws := List.take_of_length_le (by rw [HLEN.out]; exact Nat.le_refl _)
              rw [e1, List.take_length] at this
              exact this))
            have hk1 : decide ((r2.length : Int) < (r2.length : Int)) = false := decide_eq_false (by omega)
            obtain ⟨ct, hct⟩ : ∃ ct, ct = cellsS t noV 0 noV := ⟨_, rfl⟩
            have HCT := Lib.hid hct
            have C1 : Hid (ct.all (·.oneCell') = true) := Lib.hid (by rw [hct]; exact cells_one _ _)
            have C2 : Hid ((Tryz.prog.info? 31).map (·.size) = some ct.size) := Lib.hid (by rw [hct]; exact stepSize)
            have C3 : Hid (zeroS.size = ct.size) := Lib.hid (by rw [hct]; rfl)
            have C4 : Hid (wr.heap[sb]? = some (.cells ct 31 (0, 0))) := Lib.hid (by rw [hct]; exact HBX.out)
            clear hct hlt
            go_wp2_with (first | ((with_reducible (refine wpList_load_row rfl 31 (Operand.tmp 7) rfl sb ?_ 31 ct (0, 0) _ ?_ Tryz.underlying31 ?_ ?_ ?_)); (· rfl); (· exact C4.out); (· rfl); (· exact C2.out)) | ((with_reducible (refine wpList_store_rowTo rfl 31 (Operand.tmp 4) (Operand.tmp 77) rfl rfl rb ct ?_ ?_ 31 zeroS ?_ ?_ ?_ ?_ ?_)); (· rfl); (· rfl); (· exact HRR.out); (· exact C2.out); (· exact C3.out); (· exact C1.out)))
            refine OpW.ret_row Tryz.results20 rfl rfl (setRow_heap _ _ _ _ _ _ HRR.out) Tryz.underlying31 rfl C2.out ?_
            exact ⟨by rw [HPS.out, HCT.out]; rfl, below_row HBR.out HNE.out.2.1 _⟩
      · have hle : ((r2.length : Int) == ((bs ws).size : Int)) = false := by rw [beq_eq_false_iff_ne, bs_size]; omega
        have HPN : Hid (parseV x l = .tuple #[.agg zeroS, .bool false]) := Lib.hid (parseV_none (by
          unfold parseF
          rw [HBW.out, HPA.out]
          cases hp : putAll (stp0 x.k x.c x.o) (ws.map (place (x.c == 1))) r2 with
          | none => exact hp
          | some t => exact absurd (by have := putAll_len hp; rw [List.length_map] at this; exact this) hlen))
        clear hlen hsb
        generalize bs ws = wsS at *
        go_wp2_with (first | ((with_reducible (refine wpList_store_rowTo rfl 31 (Operand.tmp 7) (Operand.tmp 55) rfl rfl W3.heap.size cs ?_ ?_ 31 zeroS ?_ ?_ ?_ ?_ ?_)); (· rfl); (· rfl); (· exact alloc_at _ _ _ rfl); (· exact H2.out); (· exact H3.out); (· exact H1.out)) | ((with_reducible (refine wpList_store_rowTo rfl 31 (Operand.tmp 4) (Operand.tmp 61) rfl rfl rb zeroS ?_ ?_ 31 zeroS ?_ ?_ ?_ ?_ ?_)); (· rfl); (· rfl); (· exact (setRow_other _ _ _ _ (by have := lt_of_block HR3.out; omega)).trans ((heap_alloc_old _ _ (lt_of_block HR3.out)).trans HR3.out)); (· exact zeroS_size); (· rfl); (· exact zeroS_one)))
        refine OpW.ret_row Tryz.results20 rfl rfl (setRow_heap _ _ _ _ _ _ ((setRow_other _ _ _ _ (by have := lt_of_block HR3.out; omega)).trans ((heap_alloc_old _ _ (lt_of_block HR3.out)).trans HR3.out))) Tryz.underlying31 rfl zeroS_size ?_
        exact ⟨congrArg Ending.returned HPN.out.symm, below_row (below_row (HB3.out.alloc HB3.out.size _) HB3.out.size _) HNE.out.2.1 _⟩
/-- a form's parse of words -/
theorem parse_any (x : Fm) (hfs : x.fs.length ≤ 10) (l : List Bs) (hne : l ≠ []) (hll : l.length ≤ 1000001) (hls : ∀ y ∈ l, y.length ≤ 1000000) (oa : Option Addr) (cap : Nat) (hcap : l.length ≤ cap) (w : World) (hv : CV w) (hrd : Rds w.heap.size w oa l) :
    Calls Tryz.prog 20 #[.agg (fmCells x).toArray, .slice oa l.length cap] w fun e w' => e = .returned (parseV x l) ∧ Below w.heap.size w w' := by
  by_cases hk : x.k = 1
  · by_cases h3 : l.length < 3
    · exact parse_short x hk l h3 oa cap w
    · match l, h3 with
      | [], h => simp at h
      | [_], h => simp at h
      | [_, _], h => simp at h
      | a :: b :: c :: r, _ =>
        by_cases hm : a = [99] ∧ c = x.w
        · obtain ⟨rfl, rfl⟩ := hm
          exact parse_done x hk _ b r rfl hll oa cap hcap w hv hrd hls hfs
        · exact parse_miss x hk _ a b c r rfl hm oa cap w hrd
  · obtain ⟨a, r, rfl⟩ := List.exists_cons_of_ne_nil hne
    by_cases ha : a = x.w
    · subst ha
      exact parse_rest x hk _ r rfl hll oa cap hcap w hv hrd hls hfs
    · exact parse_other x hk _ a r rfl ha oa cap w hrd
end Go.Proofs.YtiffmigihhcgcaaGreatDoor.ConW
