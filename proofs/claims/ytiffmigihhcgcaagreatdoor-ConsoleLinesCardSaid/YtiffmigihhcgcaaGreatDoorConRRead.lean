/- The document's read: a call's words are put where they belong. -/
import Derived.Test.YtiffmigihhcgcaaGreatDoorConRForm
import Derived.Test.YtiffmigihhcgcaaGreatDoorConParse
import Derived.StillTailTactics
namespace Go.Proofs.YtiffmigihhcgcaaGreatDoor.ConW
set_option maxRecDepth 100000
set_option linter.constructorNameAsVariable false
open Go.RowKit ConP
open PathW (Strs strV strinfo ext_mid ext_drop str_list list_size Rds)
/-- a call's cells -/
def cellsC (a : Cal) (m : Value) : Array Value := #[.int .i64 a.k,
  .int .i64 a.o.cl, .int .i64 a.o.sq, .int .i64 a.o.k, .string a.o.p, .string a.o.t, .int .i64 a.o.sz, .int .i64 a.o.h, .int .i64 a.o.o, .string a.o.d, .int .i64 a.o.tk, .int .i64 a.o.i, m,
  .string a.p, .int .i64 a.h, .int .i64 a.f, .int .i64 a.s, .string a.d]
def CBox (w : World) (b : Nat) (a : Cal) : Prop := w.heap[b]? = some (.cells (cellsC a noV) 26 (0, 0))
theorem callSize : (Tryz.prog.info? 26).map (·.size) = some 18 := by kernel_rfl
theorem CBox.keep {w w' : World} {b : Nat} {a : Cal} (h : CBox w b a) (k : Below w.heap.size w w') : CBox w' b a := (k.block b (lt_of_block h)).trans h
theorem CBox.cell {w : World} {b : Nat} {a : Cal} (h : CBox w b a) (i : Nat) (v : Value) (hv : (cellsC a noV)[i]? = some v) : w.cell? ⟨b, i, none⟩ = some v := by
  rw [Lib.cell_of_heap h]; exact hv
theorem CBox.free {w : World} {b : Nat} {a : Cal} (h : CBox w b a) (i : Nat) : w.frozen? ⟨b, i, none⟩ = false := Lib.frozen_of_heap h i
/-- a place in a call -/
def offC : Pl → Nat
  | .oz => 6 | .z => 16 | .oh => 7 | .h => 14 | .of => 15 | .ot => 5 | .op => 4 | .p => 13 | .d => 17
  | _ => 0
def inC : Pl → Bool
  | .cl | .nn | .fa => false
  | _ => true
theorem CBox.setN {w : World} {b : Nat} {s : Stp} (h : CBox w b s.a) {p : Pl} (hp : isN p = true) (hc : inC p = true) (v : Int) : CBox (w.setCell ⟨b, offC p, none⟩ (.int .i64 v)) b (setN s p v).a := by
  unfold CBox
  rw [heap_setCell_same w b _ _ _ _ h]
  cases p <;> first | rfl | (exfalso; revert hp; decide) | (exfalso; revert hc; decide)
theorem CBox.setT {w : World} {b : Nat} {s : Stp} (h : CBox w b s.a) {p : Pl} (hp : isN p = false) (v : ByteArray) : CBox (w.setCell ⟨b, offC p, none⟩ (.string v)) b (setT s p v).a := by
  unfold CBox
  rw [heap_setCell_same w b _ _ _ _ h]
  cases p <;> first | rfl | (exfalso; revert hp; decide)
theorem place2_in (o : Bool) (f : UInt8) : inC (place2 o f) = true := by
  unfold place2
  repeat' split
  all_goals rfl
/-- a form of the document's in a block of its own -/
def RBox (w : World) (b : Nat) (x : ConP.Fr) : Prop := w.heap[b]? = some (.cells (frCells x).toArray 71 (0, 0))
theorem frSize : (Tryz.prog.info? 71).map (·.size) = some 4 := by kernel_rfl
theorem RBox.cells {w : World} {b : Nat} {x : ConP.Fr} (h : RBox w b x) : w.cell? ⟨b, 0, none⟩ = some (.string (bs x.w)) ∧ w.cell? ⟨b, 1, none⟩ = some (.int .i64 x.c) ∧ w.cell? ⟨b, 2, none⟩ = some (.int .i64 x.o) ∧ w.cell? ⟨b, 3, none⟩ = some (.string (bs x.fs)) :=
  ⟨by rw [Lib.cell_of_heap h]; rfl, by rw [Lib.cell_of_heap h]; rfl, by rw [Lib.cell_of_heap h]; rfl, by rw [Lib.cell_of_heap h]; rfl⟩
set_option maxHeartbeats 1600000 in
theorem put_any (x : ConP.Fr) (f : UInt8) (n : Int) (b : Nat) (s : Stp) (w : World) (h : CBox w b s.a) (hf : f = 110 ∨ f = 104 ∨ f = 111) :
    Calls Tryz.prog 45 #[.pointer (some ⟨b, 0, none⟩), .agg (frCells x).toArray, .int .u8 (f.toNat : Int), .int .i64 n] w fun e w' => e = .returned (.tuple #[]) ∧ CBox w' b (setN s (place2 (x.o != 0) f) n).a ∧ Only b w w' := by
  have hb1 := below_alloc w (.cells #[.string (bs x.w), .int .i64 x.c, .int .i64 x.o, .string (bs x.fs)] 71)
  have hk := h.keep hb1
  have g6 : (w.alloc (.cells #[.string (bs x.w), .int .i64 x.c, .int .i64 x.o, .string (bs x.fs)] 71)).cell? ⟨b, 6, none⟩ = some (.int .i64 s.a.o.sz) := hk.cell 6 _ rfl
  have g7 : (w.alloc (.cells #[.string (bs x.w), .int .i64 x.c, .int .i64 x.o, .string (bs x.fs)] 71)).cell? ⟨b, 7, none⟩ = some (.int .i64 s.a.o.h) := hk.cell 7 _ rfl
  have g14 : (w.alloc (.cells #[.string (bs x.w), .int .i64 x.c, .int .i64 x.o, .string (bs x.fs)] 71)).cell? ⟨b, 14, none⟩ = some (.int .i64 s.a.h) := hk.cell 14 _ rfl
  have g15 : (w.alloc (.cells #[.string (bs x.w), .int .i64 x.c, .int .i64 x.o, .string (bs x.fs)] 71)).cell? ⟨b, 15, none⟩ = some (.int .i64 s.a.f) := hk.cell 15 _ rfl
  have g16 : (w.alloc (.cells #[.string (bs x.w), .int .i64 x.c, .int .i64 x.o, .string (bs x.fs)] 71)).cell? ⟨b, 16, none⟩ = some (.int .i64 s.a.s) := hk.cell 16 _ rfl
  have k6 := hk.free 6
  have k7 := hk.free 7
  have k14 := hk.free 14
  have k15 := hk.free 15
  have k16 := hk.free 16
  have HK := Lib.hid hk
  have HB := Lib.hid hb1
  clear hk hb1 h
  have hx : (x.o != 0) = true ∨ (x.o != 0) = false := by cases (x.o != 0) <;> simp
  rcases hf with rfl | rfl | rfl
  all_goals
    rcases hx with hx | hx
    all_goals
      have HX := Lib.hid hx
      show Calls _ _ #[_, .agg #[.string (bs x.w), .int .i64 x.c, .int .i64 x.o, .string (bs x.fs)], _, _] _ _
      go_enter Tryz.func45, Tryz.ntmps45
      go_wp2_with fail
      go_end0
      first
        | exact ⟨rfl, by rw [HX.out]; exact HK.out.setN (p := .oz) rfl rfl n, (Only.of_below HB.out).setCell _ _⟩
        | exact ⟨rfl, by rw [HX.out]; exact HK.out.setN (p := .z) rfl rfl n, (Only.of_below HB.out).setCell _ _⟩
        | exact ⟨rfl, by rw [HX.out]; exact HK.out.setN (p := .oh) rfl rfl n, (Only.of_below HB.out).setCell _ _⟩
        | exact ⟨rfl, by rw [HX.out]; exact HK.out.setN (p := .h) rfl rfl n, (Only.of_below HB.out).setCell _ _⟩
        | exact ⟨rfl, by rw [HX.out]; exact HK.out.setN (p := .of) rfl rfl n, (Only.of_below HB.out).setCell _ _⟩
def zeroC : Array Value := cellsC (cal0 0 0) noV
theorem zeroC_one : zeroC.all (·.oneCell') = true := by simp [zeroC, cellsC, noV, Value.oneCell']
theorem cellsC_one (a : Cal) : (cellsC a noV).all (·.oneCell') = true := by simp [cellsC, noV, Value.oneCell']
theorem zeroC_size : (Tryz.prog.info? 26).map (·.size) = some zeroC.size := callSize
/-- what the document's read hands back -/
def rreadV (k : Int) (x : ConP.Fr) (l : List Bs) : Value := .tuple #[.agg (match rreadS k x l with | some t => cellsC t.a noV | none => zeroC), .bool (rreadS k x l).isSome]
theorem rreadV_none {k : Int} {x : ConP.Fr} {l : List Bs} (h : rreadS k x l = none) : rreadV k x l = .tuple #[.agg zeroC, .bool false] := by unfold rreadV; rw [h]; rfl
theorem rreadV_some {k : Int} {x : ConP.Fr} {l : List Bs} {t : Stp} (h : rreadS k x l = some t) : rreadV k x l = .tuple #[.agg (cellsC t.a noV), .bool true] := by unfold rreadV; rw [h]; rfl
def R0 (w : World) (x : ConP.Fr) : World := (((w.alloc (.cells (frCells x).toArray 71)).alloc (.cells zeroC 26)).alloc (.cells zeroC 26)).setRow (w.heap.size + 1 + 1) (cellsC (cal0 x.c 0) noV)
theorem rpro (w : World) (x : ConP.Fr) : RBox (R0 w x) w.heap.size x ∧ CBox (R0 w x) (w.heap.size + 1) (cal0 0 0) ∧ CBox (R0 w x) (w.heap.size + 1 + 1) (cal0 x.c 0) ∧ Below w.heap.size w (R0 w x) := by
  refine ⟨?_, ?_, ?_, ?_⟩
  · exact (setRow_other _ _ _ _ (by omega)).trans ((heap_alloc_old _ _ (by simp; omega)).trans ((heap_alloc_old _ _ (by simp)).trans (alloc_at _ _ _ rfl)))
  · exact (setRow_other _ _ _ _ (by omega)).trans ((heap_alloc_old _ _ (by simp)).trans (alloc_at _ _ _ (by simp)))
  · exact setRow_heap _ _ _ _ _ _ (alloc_at _ _ _ (by simp))
  · exact below_row ((((Below.refl _ w).alloc (Nat.le_refl _) _).alloc (by simp) _).alloc (by simp; omega) _) (by omega) _
theorem put_is (x : ConP.Fr) (f : UInt8) (n : Int) (b : Nat) (s : Stp) (w : World) (h : CBox w b s.a) (hf : f = 110 ∨ f = 104 ∨ f = 111) (fv : Int) (hfv : (f.toNat : Int) = fv) :
    Calls Tryz.prog 45 #[.pointer (some ⟨b, 0, none⟩), .agg (frCells x).toArray, .int .u8 fv, .int .i64 n] w fun e w' => e = .returned (.tuple #[]) ∧ CBox w' b (setN s (place2 (x.o != 0) f) n).a ∧ Only b w w' := by
  subst hfv
  exact put_any x f n b s w h hf
theorem still_load_row {P : Program} {ops : Array Oper} {rest : List Oper} {o : Oper} {a : Act} {w : World} {Q : Act → Prop} (hgd : o.guard = none) (ty : TypeId) (x : Operand) (ho : o.op = .load ty x)
    (g : Nat) (hx : a.eval x = .pointer (some ⟨g, 0, none⟩)) (t : TypeId) (cs : Array Value) (fr : Nat × Nat) (d : TypeDesc) (hg : w.heap[g]? = some (.cells cs t fr))
    (hu : P.underlying ty = some d) (hd : (match d with | .struct _ | .array _ _ => true | _ => false) = true) (hi : (P.info? ty).map (·.size) = some cs.size)
    (h : wpStill P ops w Q rest (a.put o.dst (.agg cs))) : wpStill P ops w Q (o :: rest) a := by
  refine wpStill_step fun K hK => ?_
  have hw : Region.wanted o (yielded ops a.tmps) = true := by simp [Region.wanted, hgd]
  rw [if_pos hw]
  unfold Oper.still Oper.stillUpon execOp
  simp only [ho, hx, Instr.loadAt, Instr.sureAddr, Sem.run_bind, Sem.run_pure, Result.andThen_ok, run_loadVar_row w g t ty cs fr d hg hu hd hi]
  exact ⟨trivial, hK _ h⟩
-- READ
set_option maxHeartbeats 3200000 in
theorem rread_miss (k0 : Int) (x : ConP.Fr) (l : List Bs) (hlen : x.fs.length ≠ l.length) (oa : Option Addr) (cap : Nat) (w : World) :
    Calls Tryz.prog 30 #[.agg (frCells x).toArray, .slice oa l.length cap] w fun e w' => e = .returned (rreadV k0 x l) ∧ Below w.heap.size w w' := by
  have HPN : Hid (rreadV k0 x l = .tuple #[.agg zeroC, .bool false]) := Lib.hid (rreadV_none (by
    unfold rreadS
    cases hp : putAll ⟨1, k0, 0, 0, cal0 x.c x.o⟩ x.ps l with
    | none => rfl
    | some t => exact absurd (by have := putAll_len hp; unfold Fr.ps at this; rw [List.length_map] at this; exact this) hlen))
  have hle : ((l.length : Int) != ((bs x.fs).size : Int)) = true := by rw [bs_size, bne_iff_ne]; omega
  clear hlen
  show Calls _ _ #[.agg #[.string (bs x.w), .int .i64 x.c, .int .i64 x.o, .string (bs x.fs)], _] _ _
  go_enter Tryz.func30, Tryz.ntmps30
  go_wp2_with (first | ((with_reducible (refine wpList_store_rowTo rfl 26 (Operand.tmp 6) (Operand.tmp 13) rfl rfl (w.heap.size + 1 + 1) (cellsC (cal0 x.c 0) noV) ?_ ?_ 26 zeroC ?_ ?_ ?_ ?_ ?_)); (· rfl); (· rfl); (· exact alloc_at _ _ _ (by simp)); (· exact callSize); (· rfl); (· exact cellsC_one _); change wpList _ _ _ _ _ (R0 w x); obtain ⟨hf, hr, hc, hb⟩ := rpro w x; have HB := Lib.hid hb; have HR := Lib.hid hr; have HF := Lib.hid hf; have HC := Lib.hid hc; obtain ⟨cb, hcb⟩ : ∃ cb, cb = w.heap.size + 1 + 1 := ⟨_, rfl⟩; obtain ⟨rb, hrb⟩ : ∃ rb, rb = w.heap.size + 1 := ⟨_, rfl⟩; obtain ⟨fb, hfb⟩ : ∃ fb, fb = w.heap.size := ⟨_, rfl⟩; have HNE : Hid (fb ≠ rb ∧ cb ≠ rb ∧ fb ≠ cb ∧ w.heap.size ≤ rb ∧ w.heap.size ≤ fb ∧ w.heap.size ≤ cb) := Lib.hid (by omega); have HLT : Hid (fb < cb ∧ rb < cb) := Lib.hid (by omega); rw [← hcb] at HC; rw [← hrb] at HR; rw [← hfb] at HF; rw [← hcb, ← hrb, ← hfb]; clear hf hr hc hb hrb hfb hcb; generalize R0 w x = W1 at *; obtain ⟨f0, f1, f2, f3⟩ := HF.out.cells; have c3 : W1.cell? ⟨cb, 3, none⟩ = some (.int .i64 0) := HC.out.cell 3 _ rfl; have c3f := HC.out.free 3; have f3' : (W1.setCell ⟨cb, 3, none⟩ (.int .i64 x.o)).cell? ⟨fb, 3, none⟩ = some (.string (bs x.fs)) := (World.cell?_setCell_other _ _ _ _ (fun e => HNE.out.2.2.1 (by injection e with h; exact h.symm))).trans f3) | ((with_reducible (refine wpList_store_rowTo rfl 26 (Operand.tmp 4) (Operand.tmp 24) rfl rfl rb zeroC ?_ ?_ 26 zeroC ?_ ?_ ?_ ?_ ?_)); (· rfl); (· rfl); (· exact (Below.heap_setCell _ _ _ _ (fun e => HNE.out.2.1 e.symm)).trans HR.out); (· exact zeroC_size); (· rfl); (· exact zeroC_one)))
  refine OpW.ret_row Tryz.results30 rfl rfl (setRow_heap _ _ _ _ _ _ ((Below.heap_setCell _ _ _ _ (fun e => HNE.out.2.1 e.symm)).trans HR.out)) Tryz.underlying26 rfl zeroC_size ?_
  exact ⟨congrArg Ending.returned HPN.out.symm, below_row ((Only.of_below (b := cb) (below_refl _)).below HNE.out.2.2.2.2.2 HB.out.size |> fun _ => HB.out.trans (((Only.refl cb _).setCell _ _).below HNE.out.2.2.2.2.2 HB.out.size)) HNE.out.2.2.2.1 _⟩
set_option maxHeartbeats 6400000 in
theorem rread_fit (k0 : Int) (x : ConP.Fr) (l : List Bs) (hlen : x.fs.length = l.length) (hll : l.length ≤ 1000001) (hls : ∀ y ∈ l, y.length ≤ 1000000) (oa : Option Addr) (cap : Nat) (w : World) (hrd : Rds w.heap.size w oa l)
    (hlet : ∀ f ∈ x.fs, f = 112 ∨ f = 113 ∨ f = 100 ∨ f = 110 ∨ f = 104 ∨ f = 111) :
    Calls Tryz.prog 30 #[.agg (frCells x).toArray, .slice oa l.length cap] w fun e w' => e = .returned (rreadV k0 x l) ∧ Below w.heap.size w w' := by
  have HRD0 := Lib.hid hrd
  have HLS := Lib.hid hls
  have HLET := Lib.hid hlet
  have HLEN := Lib.hid hlen
  have hle : ((l.length : Int) != ((bs x.fs).size : Int)) = false := by rw [bs_size, hlen]; simp
  have hsz : (bs x.fs).size = l.length := by rw [bs_size, hlen]
  have HSZ := Lib.hid hsz
  have HDATA : Hid (∀ (k : Nat) (h : k < (bs x.fs).size), ∃ f, (bs x.fs)[k]'h = f ∧ x.fs[k]? = some f) := Lib.hid fun k h => ⟨_, rfl, by
    rw [bs_size] at h
    rw [List.getElem?_eq_getElem h]; rfl⟩
  obtain ⟨fsS, hfsS⟩ : ∃ fsS, fsS = bs x.fs := ⟨_, rfl⟩
  have HFSS := Lib.hid hfsS
  clear hrd hls hlet hlen hsz
  show Calls _ _ #[.agg #[.string (bs x.w), .int .i64 x.c, .int .i64 x.o, .string (bs x.fs)], _] _ _
  go_enter Tryz.func30, Tryz.ntmps30
  go_wp2_with ((with_reducible (refine wpList_store_rowTo rfl 26 (Operand.tmp 6) (Operand.tmp 13) rfl rfl (w.heap.size + 1 + 1) (cellsC (cal0 x.c 0) noV) ?_ ?_ 26 zeroC ?_ ?_ ?_ ?_ ?_)); (· rfl); (· rfl); (· exact alloc_at _ _ _ (by simp)); (· exact callSize); (· rfl); (· exact cellsC_one _); change wpList _ _ _ _ _ (R0 w x); obtain ⟨hf, hr, hc, hb⟩ := rpro w x; have HB := Lib.hid hb; have HR := Lib.hid hr; have HF := Lib.hid hf; have HC := Lib.hid hc; obtain ⟨cb, hcb⟩ : ∃ cb, cb = w.heap.size + 1 + 1 := ⟨_, rfl⟩; obtain ⟨rb, hrb⟩ : ∃ rb, rb = w.heap.size + 1 := ⟨_, rfl⟩; obtain ⟨fb, hfb⟩ : ∃ fb, fb = w.heap.size := ⟨_, rfl⟩; have HNE : Hid (fb ≠ rb ∧ cb ≠ rb ∧ fb ≠ cb ∧ w.heap.size ≤ rb ∧ w.heap.size ≤ fb ∧ w.heap.size ≤ cb) := Lib.hid (by omega); have HLT : Hid (fb < cb ∧ rb < cb) := Lib.hid (by omega); rw [← hcb] at HC; rw [← hrb] at HR; rw [← hfb] at HF; rw [← hcb, ← hrb, ← hfb]; clear hf hr hc hb hrb hfb hcb; generalize R0 w x = W1 at *; obtain ⟨f0, f1, f2, f3⟩ := HF.out.cells; have c3 : W1.cell? ⟨cb, 3, none⟩ = some (.int .i64 0) := HC.out.cell 3 _ rfl; have c3f := HC.out.free 3; have f3' : (W1.setCell ⟨cb, 3, none⟩ (.int .i64 x.o)).cell? ⟨fb, 3, none⟩ = some (.string (bs x.fs)) := (World.cell?_setCell_other _ _ _ _ (fun e => HNE.out.2.2.1 (by injection e with h; exact h.symm))).trans f3)
  have HC2 : Hid (CBox (W1.setCell ⟨cb, 3, none⟩ (.int .i64 x.o)) cb (cal0 x.c x.o)) := Lib.hid (by unfold CBox; rw [heap_setCell_same W1 cb 3 _ _ _ HC.out]; rfl)
  have HR2 : Hid (CBox (W1.setCell ⟨cb, 3, none⟩ (.int .i64 x.o)) rb (cal0 0 0)) := Lib.hid ((Below.heap_setCell _ _ _ _ (fun e => HNE.out.2.1 e.symm)).trans HR.out)
  have HF2 : Hid (RBox (W1.setCell ⟨cb, 3, none⟩ (.int .i64 x.o)) fb x) := Lib.hid ((Below.heap_setCell _ _ _ _ (fun e => HNE.out.2.2.1 e)).trans HF.out)
  have HB2 : Hid (Below w.heap.size w (W1.setCell ⟨cb, 3, none⟩ (.int .i64 x.o))) := Lib.hid (HB.out.trans (((Only.refl cb _).setCell _ _).below HNE.out.2.2.2.2.2 HB.out.size))
  have HRD2 := Lib.hid (HRD0.out.below HB2.out)
  clear f0 f1 f2 f3 f3' c3 c3f HC HR HF HB HRD0
  generalize W1.setCell ⟨cb, 3, none⟩ (.int .i64 x.o) = W2 at *
  rw [← hfsS] at hle HSZ HDATA
  rw [← hfsS]
  clear hfsS
  go_loopw [7] (fun c wr => ∃ (k : Nat) (t : Stp), k ≤ l.length ∧ c = .int .i64 (k : Int) ∧ putAll ⟨1, k0, 0, 0, cal0 x.c x.o⟩ ((x.fs.take k).map (place2 (x.o != 0))) (l.take k) = some t ∧ CBox wr cb t.a ∧ Below cb W2 wr) (fun c _ => ((l.length : Int) - intOf c).toNat)
  case atStart => exact ⟨0, _, by omega, rfl, rfl, HC2.out, Below.refl _ _⟩
  case round =>
    obtain ⟨k, t, hk, rfl, hput, hbx, hbl⟩ := hrel
    have HPUT := Lib.hid hput
    have HBX := Lib.hid hbx
    have HBL := Lib.hid hbl
    have HRR := Lib.hid ((hbl.block rb HLT.out.2).trans HR2.out)
    have HFR : Hid (RBox wr fb x) := Lib.hid ((hbl.block fb HLT.out.1).trans HF2.out)
    have HBR : Hid (Below w.heap.size w wr) := Lib.hid (HB2.out.trans (hbl.mono HNE.out.2.2.2.2.2))
    have HRDR := Lib.hid (HRD2.out.below (hbl.mono HNE.out.2.2.2.2.2))
    clear hput hbx hbl
    by_cases hlt : k < l.length
    · have hk1 : (k : Int) < (l.length : Int) := by omega
      obtain ⟨y, hy⟩ : ∃ y, l[k]? = some y := ⟨_, List.getElem?_eq_getElem hlt⟩
      obtain ⟨a3, ha3, hb3, hc3⟩ := rds_at HRDR.out hy
      first | (injection ha3 with ha3; subst ha3) | subst ha3
      have hks : k < fsS.size := by rw [HSZ.out]; exact hlt
      obtain ⟨f, hf, hwf⟩ := HDATA.out k hks
      have HYL : Hid (y.length ≤ 1000000) := Lib.hid (HLS.out y (List.mem_of_getElem? hy))
      have HF : Hid _ := Lib.hid (HLET.out f (List.mem_of_getElem? hwf))
      have HY3 := Lib.hid hb3
      have HC3 := Lib.hid hc3
      have HC0 : Hid (w.cell? (a3.add k) = some (.string (bs y))) := Lib.hid ((HBR.out.cell (by rw [add_block]; exact hb3)).symm.trans hc3)
      have HNX : Hid (putAll ⟨1, k0, 0, 0, cal0 x.c x.o⟩ ((x.fs.take (k + 1)).map (place2 (x.o != 0))) (l.take (k + 1)) = putW t (place2 (x.o != 0) f) y) := Lib.hid (by
        rw [List.take_add_one, List.take_add_one, hy, hwf, List.map_append]
        show putAll _ (_ ++ [place2 (x.o != 0) f]) (_ ++ [y]) = _
        rw [putAll_snoc _ _ _ _ _ (putAll_len HPUT.out), HPUT.out]
        rfl)
      have HMIS : Hid (putW t (place2 (x.o != 0) f) y = none → rreadV k0 x l = .tuple #[.agg zeroC, .bool false]) := Lib.hid (fun hn => rreadV_none (by
        unfold rreadS Fr.ps
        have h1 : putAll ⟨1, k0, 0, 0, cal0 x.c x.o⟩ ((x.fs.take (k + 1)).map (place2 (x.o != 0))) (l.take (k + 1)) = none := by rw [HNX.out, hn]
        have h2 := putAll_none _ ((x.fs.drop (k + 1)).map (place2 (x.o != 0))) _ (l.drop (k + 1)) _ (by simp [HLEN.out]) h1
        rw [← List.map_append, List.take_append_drop, List.take_append_drop] at h2
        exact h2))
      clear hy hwf hb3
      obtain ⟨f0, f1, f2, f3⟩ := HFR.out.cells
      rw [← HFSS.out] at f3
      go_wp2_with fail
      refine (rnum_any (bs y) (by rw [bs_size]; exact HYL.out) _).mono ?_
      rintro e w6 ⟨rfl, rfl⟩
      rw [bs_data]
      simp only
      clear f0 f1 f2 f3 hc3
      have HLW : Hid (cb ≤ wr.heap.size) := Lib.hid (Nat.le_of_lt (lt_of_block HBX.out))
      have hx : (x.o != 0) = true ∨ (x.o != 0) = false := by cases (x.o != 0) <;> simp
      obtain ⟨f0, f1, f2, f3⟩ := HFR.out.cells
      rw [← HFSS.out] at f3
      have hc3 := HC3.out
      rcases HF.out with rfl | rfl | rfl | rfl | rfl | rfl
      · go_wp2_with fail
        clear f0 f1 f2 f3 hc3
        refine (PathW.rgood_any (bs y) (by rw [bs_size]; exact HYL.out) _).mono ?_
        rintro e w7 ⟨rfl, hb7⟩
        rw [bs_data]
        have HB7 : Hid (Below cb W2 w7) := Lib.hid (HBL.out.trans (hb7.mono HLW.out))
        have HC7 : Hid (CBox w7 cb t.a) := Lib.hid (HBX.out.keep hb7)
        clear hb7
        by_cases hp : pathW y = true
        · have hp' : (PathW.namesR y).isSome = true := hp
          rw [hp']
          clear hp'
          have HF7 : Hid (RBox w7 fb x) := Lib.hid ((HB7.out.block fb HLT.out.1).trans HF2.out)
          have hy7 : w7.cell? (a3.add k) = some (.string (bs y)) := ((HB2.out.trans (HB7.out.mono HNE.out.2.2.2.2.2)).cell (by rw [add_block]; exact HY3.out)).trans HC0.out
          obtain ⟨f0, f1, f2, f3⟩ := HF7.out.cells
          rw [← HFSS.out] at f3
          have c4 : w7.cell? ⟨cb, 4, none⟩ = some (.string t.a.o.p) := HC7.out.cell 4 _ rfl
          have c5 : w7.cell? ⟨cb, 5, none⟩ = some (.string t.a.o.t) := HC7.out.cell 5 _ rfl
          have c13 : w7.cell? ⟨cb, 13, none⟩ = some (.string t.a.p) := HC7.out.cell 13 _ rfl
          have c17 : w7.cell? ⟨cb, 17, none⟩ = some (.string t.a.d) := HC7.out.cell 17 _ rfl
          have d4 := HC7.out.free 4
          have d5 := HC7.out.free 5
          have d13 := HC7.out.free 13
          have d17 := HC7.out.free 17
          rcases hx with hx | hx
          all_goals
            rw [hx] at HNX HMIS
            go_wp2_with fail
            first
              | exact ⟨⟨k + 1, setT t .op (bs y), by omega, by simp, by rw [hx]; exact HNX.out.trans (if_pos hp), HC7.out.setT (p := .op) rfl (bs y), HB7.out.trans (((Only.refl cb w7).setCell _ _).below (Nat.le_refl _) (Nat.le_of_lt (lt_of_block HC7.out)))⟩, by simp [intOf]; omega⟩
              | exact ⟨⟨k + 1, setT t .p (bs y), by omega, by simp, by rw [hx]; exact HNX.out.trans (if_pos hp), HC7.out.setT (p := .p) rfl (bs y), HB7.out.trans (((Only.refl cb w7).setCell _ _).below (Nat.le_refl _) (Nat.le_of_lt (lt_of_block HC7.out)))⟩, by simp [intOf]; omega⟩
              | exact ⟨⟨k + 1, setT t .ot (bs y), by omega, by simp, by rw [hx]; exact HNX.out.trans (if_pos hp), HC7.out.setT (p := .ot) rfl (bs y), HB7.out.trans (((Only.refl cb w7).setCell _ _).below (Nat.le_refl _) (Nat.le_of_lt (lt_of_block HC7.out)))⟩, by simp [intOf]; omega⟩
        · have hp' : (PathW.namesR y).isSome = false := by have h := hp; unfold pathW at h; simpa using h
          have HPN : Hid (rreadV k0 x l = .tuple #[.agg zeroC, .bool false]) := Lib.hid (HMIS.out (by
            rcases hx with hx | hx <;> rw [hx] <;> exact if_neg hp))
          have HR7 : Hid (CBox w7 rb (cal0 0 0)) := Lib.hid ((HB7.out.block rb HLT.out.2).trans HR2.out)
          have HBB : Hid (Below w.heap.size w w7) := Lib.hid (HB2.out.trans (HB7.out.mono HNE.out.2.2.2.2.2))
          rw [hp']
          clear hp' hp hx
          go_wp2_with ((with_reducible (refine wpList_store_rowTo rfl 26 (Operand.tmp 4) (Operand.tmp 59) rfl rfl rb zeroC ?_ ?_ 26 zeroC ?_ ?_ ?_ ?_ ?_)); (· rfl); (· rfl); (· exact HR7.out); (· exact zeroC_size); (· rfl); (· exact zeroC_one))
          refine OpW.ret_row Tryz.results30 rfl rfl (setRow_heap _ _ _ _ _ _ (HR7.out)) Tryz.underlying26 rfl zeroC_size ?_
          exact ⟨congrArg Ending.returned HPN.out.symm, below_row (HBB.out) HNE.out.2.2.2.1 _⟩

      · go_wp2_with fail
        clear f0 f1 f2 f3 hc3
        refine (PathW.rgood_any (bs y) (by rw [bs_size]; exact HYL.out) _).mono ?_
        rintro e w7 ⟨rfl, hb7⟩
        rw [bs_data]
        have HB7 : Hid (Below cb W2 w7) := Lib.hid (HBL.out.trans (hb7.mono HLW.out))
        have HC7 : Hid (CBox w7 cb t.a) := Lib.hid (HBX.out.keep hb7)
        clear hb7
        by_cases hp : pathW y = true
        · have hp' : (PathW.namesR y).isSome = true := hp
          rw [hp']
          clear hp'
          have HF7 : Hid (RBox w7 fb x) := Lib.hid ((HB7.out.block fb HLT.out.1).trans HF2.out)
          have hy7 : w7.cell? (a3.add k) = some (.string (bs y)) := ((HB2.out.trans (HB7.out.mono HNE.out.2.2.2.2.2)).cell (by rw [add_block]; exact HY3.out)).trans HC0.out
          obtain ⟨f0, f1, f2, f3⟩ := HF7.out.cells
          rw [← HFSS.out] at f3
          have c4 : w7.cell? ⟨cb, 4, none⟩ = some (.string t.a.o.p) := HC7.out.cell 4 _ rfl
          have c5 : w7.cell? ⟨cb, 5, none⟩ = some (.string t.a.o.t) := HC7.out.cell 5 _ rfl
          have c13 : w7.cell? ⟨cb, 13, none⟩ = some (.string t.a.p) := HC7.out.cell 13 _ rfl
          have c17 : w7.cell? ⟨cb, 17, none⟩ = some (.string t.a.d) := HC7.out.cell 17 _ rfl
          have d4 := HC7.out.free 4
          have d5 := HC7.out.free 5
          have d13 := HC7.out.free 13
          have d17 := HC7.out.free 17
          rcases hx with hx | hx
          all_goals
            rw [hx] at HNX HMIS
            go_wp2_with fail
            first
              | exact ⟨⟨k + 1, setT t .op (bs y), by omega, by simp, by rw [hx]; exact HNX.out.trans (if_pos hp), HC7.out.setT (p := .op) rfl (bs y), HB7.out.trans (((Only.refl cb w7).setCell _ _).below (Nat.le_refl _) (Nat.le_of_lt (lt_of_block HC7.out)))⟩, by simp [intOf]; omega⟩
              | exact ⟨⟨k + 1, setT t .p (bs y), by omega, by simp, by rw [hx]; exact HNX.out.trans (if_pos hp), HC7.out.setT (p := .p) rfl (bs y), HB7.out.trans (((Only.refl cb w7).setCell _ _).below (Nat.le_refl _) (Nat.le_of_lt (lt_of_block HC7.out)))⟩, by simp [intOf]; omega⟩
              | exact ⟨⟨k + 1, setT t .ot (bs y), by omega, by simp, by rw [hx]; exact HNX.out.trans (if_pos hp), HC7.out.setT (p := .ot) rfl (bs y), HB7.out.trans (((Only.refl cb w7).setCell _ _).below (Nat.le_refl _) (Nat.le_of_lt (lt_of_block HC7.out)))⟩, by simp [intOf]; omega⟩
        · have hp' : (PathW.namesR y).isSome = false := by have h := hp; unfold pathW at h; simpa using h
          have HPN : Hid (rreadV k0 x l = .tuple #[.agg zeroC, .bool false]) := Lib.hid (HMIS.out (by
            rcases hx with hx | hx <;> rw [hx] <;> exact if_neg hp))
          have HR7 : Hid (CBox w7 rb (cal0 0 0)) := Lib.hid ((HB7.out.block rb HLT.out.2).trans HR2.out)
          have HBB : Hid (Below w.heap.size w w7) := Lib.hid (HB2.out.trans (HB7.out.mono HNE.out.2.2.2.2.2))
          rw [hp']
          clear hp' hp hx
          go_wp2_with ((with_reducible (refine wpList_store_rowTo rfl 26 (Operand.tmp 4) (Operand.tmp 59) rfl rfl rb zeroC ?_ ?_ 26 zeroC ?_ ?_ ?_ ?_ ?_)); (· rfl); (· rfl); (· exact HR7.out); (· exact zeroC_size); (· rfl); (· exact zeroC_one))
          refine OpW.ret_row Tryz.results30 rfl rfl (setRow_heap _ _ _ _ _ _ (HR7.out)) Tryz.underlying26 rfl zeroC_size ?_
          exact ⟨congrArg Ending.returned HPN.out.symm, below_row (HBB.out) HNE.out.2.2.2.1 _⟩

      · go_wp2_with fail
        clear f0 f1 f2 f3 hc3
        refine (rbytes_any (bs y) (by rw [bs_size]; exact HYL.out) _).mono ?_
        rintro e w7 ⟨rfl, hb7⟩
        rw [bs_data]
        have HB7 : Hid (Below cb W2 w7) := Lib.hid (HBL.out.trans (hb7.mono HLW.out))
        have HC7 : Hid (CBox w7 cb t.a) := Lib.hid (HBX.out.keep hb7)
        clear hb7
        have e0 : place2 (x.o != 0) 100 = .d := by cases (x.o != 0) <;> rfl
        rw [e0] at HNX HMIS
        cases hp : hexW y with
        | some v =>
          have hpw : putW t .d y = some (setT t .d (bs v)) := by show (hexW y).map _ = _; rw [hp]; rfl
          simp only [Option.isSome_some, Option.getD_some]
          have HF7 : Hid (RBox w7 fb x) := Lib.hid ((HB7.out.block fb HLT.out.1).trans HF2.out)
          have hy7 : w7.cell? (a3.add k) = some (.string (bs y)) := ((HB2.out.trans (HB7.out.mono HNE.out.2.2.2.2.2)).cell (by rw [add_block]; exact HY3.out)).trans HC0.out
          obtain ⟨f0, f1, f2, f3⟩ := HF7.out.cells
          rw [← HFSS.out] at f3
          have c4 : w7.cell? ⟨cb, 4, none⟩ = some (.string t.a.o.p) := HC7.out.cell 4 _ rfl
          have c5 : w7.cell? ⟨cb, 5, none⟩ = some (.string t.a.o.t) := HC7.out.cell 5 _ rfl
          have c13 : w7.cell? ⟨cb, 13, none⟩ = some (.string t.a.p) := HC7.out.cell 13 _ rfl
          have c17 : w7.cell? ⟨cb, 17, none⟩ = some (.string t.a.d) := HC7.out.cell 17 _ rfl
          have d4 := HC7.out.free 4
          have d5 := HC7.out.free 5
          have d13 := HC7.out.free 13
          have d17 := HC7.out.free 17
          clear hx hp
          go_wp2_with fail
          exact ⟨⟨k + 1, setT t .d (bs v), by omega, by simp, HNX.out.trans hpw, HC7.out.setT (p := .d) rfl (bs v), HB7.out.trans (((Only.refl cb w7).setCell _ _).below (Nat.le_refl _) (Nat.le_of_lt (lt_of_block HC7.out)))⟩, by simp [intOf]; omega⟩
        | none =>
          have HPN : Hid (rreadV k0 x l = .tuple #[.agg zeroC, .bool false]) := Lib.hid (HMIS.out (by show (hexW y).map _ = _; rw [hp]; rfl))
          have HR7 : Hid (CBox w7 rb (cal0 0 0)) := Lib.hid ((HB7.out.block rb HLT.out.2).trans HR2.out)
          have HBB : Hid (Below w.heap.size w w7) := Lib.hid (HB2.out.trans (HB7.out.mono HNE.out.2.2.2.2.2))
          simp only [Option.isSome_none, Option.getD_none]
          clear hp hx
          go_wp2_with (first | ((with_reducible (refine wpList_store_rowTo rfl 26 (Operand.tmp 4) (Operand.tmp 97) rfl rfl rb zeroC ?_ ?_ 26 zeroC ?_ ?_ ?_ ?_ ?_)); (· rfl); (· rfl); (· exact HR7.out); (· exact zeroC_size); (· rfl); (· exact zeroC_one)) | ((with_reducible (refine wpList_store_rowTo rfl 26 (Operand.tmp 4) (Operand.tmp 42) rfl rfl rb zeroC ?_ ?_ 26 zeroC ?_ ?_ ?_ ?_ ?_)); (· rfl); (· rfl); (· exact HR7.out); (· exact zeroC_size); (· rfl); (· exact zeroC_one)))
          refine OpW.ret_row Tryz.results30 rfl rfl (setRow_heap _ _ _ _ _ _ (HR7.out)) Tryz.underlying26 rfl zeroC_size ?_
          exact ⟨congrArg Ending.returned HPN.out.symm, below_row (HBB.out) HNE.out.2.2.2.1 _⟩

      · cases hn : numW y with
        | none =>
          have e1 : numI y = -1 := by unfold numI; rw [hn]
          have HPN : Hid (rreadV k0 x l = .tuple #[.agg zeroC, .bool false]) := Lib.hid (HMIS.out (by
            rcases hx with hx | hx <;> rw [hx] <;> (show (numW y).map _ = _; rw [hn]; rfl)))
          rw [e1]
          clear hn hx e1
          go_wp2_with (first | ((with_reducible (refine wpList_store_rowTo rfl 26 (Operand.tmp 4) (Operand.tmp 97) rfl rfl rb zeroC ?_ ?_ 26 zeroC ?_ ?_ ?_ ?_ ?_)); (· rfl); (· rfl); (· exact HRR.out); (· exact zeroC_size); (· rfl); (· exact zeroC_one)) | ((with_reducible (refine wpList_store_rowTo rfl 26 (Operand.tmp 4) (Operand.tmp 42) rfl rfl rb zeroC ?_ ?_ 26 zeroC ?_ ?_ ?_ ?_ ?_)); (· rfl); (· rfl); (· exact HRR.out); (· exact zeroC_size); (· rfl); (· exact zeroC_one)))
          refine OpW.ret_row Tryz.results30 rfl rfl (setRow_heap _ _ _ _ _ _ (HRR.out)) Tryz.underlying26 rfl zeroC_size ?_
          exact ⟨congrArg Ending.returned HPN.out.symm, below_row (HBR.out) HNE.out.2.2.2.1 _⟩

        | some n =>
          have e1 : numI y = (n : Int) := by unfold numI; rw [hn]
          have h0 : decide ((n : Int) < 0) = false := decide_eq_false (by omega)
          rw [e1]
          clear h0 e1
          go_wp2_with fail
          refine wp_region_still_tail 6 (by kernel_rfl) (by kernel_rfl) ?_
          simp only [List.take_succ_cons, List.take_zero, List.drop_succ_cons, List.drop_zero]
          refine still_load_row rfl 71 (Operand.tmp 2) rfl fb rfl 71 (frCells x).toArray (0, 0) _ HFR.out Tryz.underlying71 rfl frSize ?_
          repeat still_step
          refine wpStill_nil ?_
          go_wp2_with fail
          have hbd : CBox wr.drew cb t.a := HBX.out
          refine (put_is x 110 (n : Int) cb t wr.drew hbd (by decide) 110 rfl).mono ?_
          rintro e w7 ⟨rfl, hb7, ho7⟩
          have HO7 : Hid (Only cb wr w7) := Lib.hid ⟨ho7.os, ho7.tape, ho7.output, ho7.size, ho7.block⟩
          have HB7 := Lib.hid hb7
          clear hb7 ho7 hbd
          go_wp2_with fail
          exact ⟨⟨k + 1, _, by omega, by simp, HNX.out.trans (by rcases hx with hx | hx <;> rw [hx] <;> (show (numW y).map _ = _; rw [hn]; rfl)), HB7.out, HBL.out.trans (HO7.out.below (Nat.le_refl _) HLW.out)⟩, by simp [intOf]; omega⟩
      · cases hn : numW y with
        | none =>
          have e1 : numI y = -1 := by unfold numI; rw [hn]
          have HPN : Hid (rreadV k0 x l = .tuple #[.agg zeroC, .bool false]) := Lib.hid (HMIS.out (by
            rcases hx with hx | hx <;> rw [hx] <;> (show (numW y).map _ = _; rw [hn]; rfl)))
          rw [e1]
          clear hn hx e1
          go_wp2_with (first | ((with_reducible (refine wpList_store_rowTo rfl 26 (Operand.tmp 4) (Operand.tmp 97) rfl rfl rb zeroC ?_ ?_ 26 zeroC ?_ ?_ ?_ ?_ ?_)); (· rfl); (· rfl); (· exact HRR.out); (· exact zeroC_size); (· rfl); (· exact zeroC_one)) | ((with_reducible (refine wpList_store_rowTo rfl 26 (Operand.tmp 4) (Operand.tmp 42) rfl rfl rb zeroC ?_ ?_ 26 zeroC ?_ ?_ ?_ ?_ ?_)); (· rfl); (· rfl); (· exact HRR.out); (· exact zeroC_size); (· rfl); (· exact zeroC_one)))
          refine OpW.ret_row Tryz.results30 rfl rfl (setRow_heap _ _ _ _ _ _ (HRR.out)) Tryz.underlying26 rfl zeroC_size ?_
          exact ⟨congrArg Ending.returned HPN.out.symm, below_row (HBR.out) HNE.out.2.2.2.1 _⟩

        | some n =>
          have e1 : numI y = (n : Int) := by unfold numI; rw [hn]
          have h0 : decide ((n : Int) < 0) = false := decide_eq_false (by omega)
          rw [e1]
          clear h0 e1
          go_wp2_with fail
          refine wp_region_still_tail 6 (by kernel_rfl) (by kernel_rfl) ?_
          simp only [List.take_succ_cons, List.take_zero, List.drop_succ_cons, List.drop_zero]
          refine still_load_row rfl 71 (Operand.tmp 2) rfl fb rfl 71 (frCells x).toArray (0, 0) _ HFR.out Tryz.underlying71 rfl frSize ?_
          repeat still_step
          refine wpStill_nil ?_
          go_wp2_with fail
          have hbd : CBox wr.drew cb t.a := HBX.out
          refine (put_is x 104 (n : Int) cb t wr.drew hbd (by decide) 104 rfl).mono ?_
          rintro e w7 ⟨rfl, hb7, ho7⟩
          have HO7 : Hid (Only cb wr w7) := Lib.hid ⟨ho7.os, ho7.tape, ho7.output, ho7.size, ho7.block⟩
          have HB7 := Lib.hid hb7
          clear hb7 ho7 hbd
          go_wp2_with fail
          exact ⟨⟨k + 1, _, by omega, by simp, HNX.out.trans (by rcases hx with hx | hx <;> rw [hx] <;> (show (numW y).map _ = _; rw [hn]; rfl)), HB7.out, HBL.out.trans (HO7.out.below (Nat.le_refl _) HLW.out)⟩, by simp [intOf]; omega⟩
      · cases hn : numW y with
        | none =>
          have e1 : numI y = -1 := by unfold numI; rw [hn]
          have HPN : Hid (rreadV k0 x l = .tuple #[.agg zeroC, .bool false]) := Lib.hid (HMIS.out (by
            rcases hx with hx | hx <;> rw [hx] <;> (show (numW y).map _ = _; rw [hn]; rfl)))
          rw [e1]
          clear hn hx e1
          go_wp2_with (first | ((with_reducible (refine wpList_store_rowTo rfl 26 (Operand.tmp 4) (Operand.tmp 97) rfl rfl rb zeroC ?_ ?_ 26 zeroC ?_ ?_ ?_ ?_ ?_)); (· rfl); (· rfl); (· exact HRR.out); (· exact zeroC_size); (· rfl); (· exact zeroC_one)) | ((with_reducible (refine wpList_store_rowTo rfl 26 (Operand.tmp 4) (Operand.tmp 42) rfl rfl rb zeroC ?_ ?_ 26 zeroC ?_ ?_ ?_ ?_ ?_)); (· rfl); (· rfl); (· exact HRR.out); (· exact zeroC_size); (· rfl); (· exact zeroC_one)))
          refine OpW.ret_row Tryz.results30 rfl rfl (setRow_heap _ _ _ _ _ _ (HRR.out)) Tryz.underlying26 rfl zeroC_size ?_
          exact ⟨congrArg Ending.returned HPN.out.symm, below_row (HBR.out) HNE.out.2.2.2.1 _⟩

        | some n =>
          have e1 : numI y = (n : Int) := by unfold numI; rw [hn]
          have h0 : decide ((n : Int) < 0) = false := decide_eq_false (by omega)
          rw [e1]
          clear h0 e1
          go_wp2_with fail
          refine wp_region_still_tail 6 (by kernel_rfl) (by kernel_rfl) ?_
          simp only [List.take_succ_cons, List.take_zero, List.drop_succ_cons, List.drop_zero]
          refine still_load_row rfl 71 (Operand.tmp 2) rfl fb rfl 71 (frCells x).toArray (0, 0) _ HFR.out Tryz.underlying71 rfl frSize ?_
          repeat still_step
          refine wpStill_nil ?_
          go_wp2_with fail
          have hbd : CBox wr.drew cb t.a := HBX.out
          refine (put_is x 111 (n : Int) cb t wr.drew hbd (by decide) 111 rfl).mono ?_
          rintro e w7 ⟨rfl, hb7, ho7⟩
          have HO7 : Hid (Only cb wr w7) := Lib.hid ⟨ho7.os, ho7.tape, ho7.output, ho7.size, ho7.block⟩
          have HB7 := Lib.hid hb7
          clear hb7 ho7 hbd
          go_wp2_with fail
          exact ⟨⟨k + 1, _, by omega, by simp, HNX.out.trans (by rcases hx with hx | hx <;> rw [hx] <;> (show (numW y).map _ = _; rw [hn]; rfl)), HB7.out, HBL.out.trans (HO7.out.below (Nat.le_refl _) HLW.out)⟩, by simp [intOf]; omega⟩

    · obtain rfl : k = l.length := by omega
      have HPS : Hid (rreadV k0 x l = .tuple #[.agg (cellsC t.a noV), .bool true]) := Lib.hid (rreadV_some (by
        unfold rreadS Fr.ps
        have := HPUT.out
        have e1 : x.fs.take l.length = x.fs := List.take_of_length_le (by rw [HLEN.out]; exact Nat.le_refl _)
        rw [e1, List.take_length] at this
        exact this))
      have hk1 : decide ((l.length : Int) < (l.length : Int)) = false := decide_eq_false (by omega)
      obtain ⟨ct, hct⟩ : ∃ ct, ct = cellsC t.a noV := ⟨_, rfl⟩
      have HCT := Lib.hid hct
      have C1 : Hid (ct.all (·.oneCell') = true) := Lib.hid (by rw [hct]; exact cellsC_one _)
      have C2 : Hid ((Tryz.prog.info? 26).map (·.size) = some ct.size) := Lib.hid (by rw [hct]; exact callSize)
      have C3 : Hid (zeroC.size = ct.size) := Lib.hid (by rw [hct]; rfl)
      have C4 : Hid (wr.heap[cb]? = some (.cells ct 26 (0, 0))) := Lib.hid (by rw [hct]; exact HBX.out)
      clear hct hlt
      go_wp2_with (first | ((with_reducible (refine wpList_load_row rfl 26 (Operand.tmp 6) rfl cb ?_ 26 ct (0, 0) _ ?_ Tryz.underlying26 ?_ ?_ ?_)); (· rfl); (· exact C4.out); (· rfl); (· exact C2.out)) | ((with_reducible (refine wpList_store_rowTo rfl 26 (Operand.tmp 4) (Operand.tmp 100) rfl rfl rb ct ?_ ?_ 26 zeroC ?_ ?_ ?_ ?_ ?_)); (· rfl); (· rfl); (· exact HRR.out); (· exact C2.out); (· exact C3.out); (· exact C1.out)))
      refine OpW.ret_row Tryz.results30 rfl rfl (setRow_heap _ _ _ _ _ _ HRR.out) Tryz.underlying26 rfl C2.out ?_
      exact ⟨by rw [HPS.out, HCT.out]; rfl, below_row HBR.out HNE.out.2.2.2.1 _⟩
theorem rread_any (k0 : Int) (x : ConP.Fr) (hlet : ∀ f ∈ x.fs, f = 112 ∨ f = 113 ∨ f = 100 ∨ f = 110 ∨ f = 104 ∨ f = 111) (l : List Bs) (hll : l.length ≤ 1000001) (hls : ∀ y ∈ l, y.length ≤ 1000000) (oa : Option Addr) (cap : Nat) (w : World) (hrd : Rds w.heap.size w oa l) :
    Calls Tryz.prog 30 #[.agg (frCells x).toArray, .slice oa l.length cap] w fun e w' => e = .returned (rreadV k0 x l) ∧ Below w.heap.size w w' := by
  by_cases h : x.fs.length = l.length
  · exact rread_fit k0 x l h hll hls oa cap w hrd hlet
  · exact rread_miss k0 x l h oa cap w
end Go.Proofs.YtiffmigihhcgcaaGreatDoor.ConW
