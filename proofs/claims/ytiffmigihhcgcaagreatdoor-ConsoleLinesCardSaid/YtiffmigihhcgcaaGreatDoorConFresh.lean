/- A form in memory; a step that it begins. -/
import Derived.Test.YtiffmigihhcgcaaGreatDoorConRead
import Derived.Test.YtiffmigihhcgcaaGreatDoorConLine
import Derived.Laws.Rows
import Derived.Great.BuildSlice
namespace Go.Proofs.YtiffmigihhcgcaaGreatDoor.ConW
set_option maxRecDepth 100000
set_option linter.constructorNameAsVariable false
open Go.RowKit ConP
def fmCells (x : Fm) : List Value := [.string (bs x.w), .int .i64 x.k, .int .i64 x.c, .int .i64 x.o, .string (bs x.fs)]
def formCells : Array Value := (forms.flatMap fmCells).toArray
/-- the program's variables, its own too -/
structure PV (w : World) : Prop where
  cv : CV w
  fv : ∃ t fr, w.heap[0]? = some (.cells formCells t fr)
theorem PV.keep {w w' : World} (h : PV w) (k : Below w.heap.size w w') : PV w' := by
  obtain ⟨h1, t, fr, h2⟩ := h
  exact ⟨h1.keep k, t, fr, (k.block _ (lt_of_block h2)).trans h2⟩
theorem PV.only {w w' : World} {b : Nat} (h : PV w) (k : Only b w w') (hb : Far b) : PV w' := by
  obtain ⟨h1, t, fr, h2⟩ := h
  exact ⟨h1.only k hb, t, fr, k.heap h2 (fun e => hb.2.2.2 e.symm)⟩
theorem CV.far {w : World} (h : CV w) {b : Nat} (hb : w.heap.size ≤ b) : Far b := by
  obtain ⟨⟨t1, p1, h1⟩, ⟨t2, p2, h2⟩, h3⟩ := h
  have l1 := World.block_lt_of_cell? _ _ h1
  have l2 := World.block_lt_of_cell? _ _ h2
  simp only at l1 l2
  refine ⟨?_, ?_, ?_, ?_⟩ <;> omega
def noV : Value := .slice none 0 0
theorem fmSize : (Tryz.prog.info? 50).map (·.size) = some 5 := by kernel_rfl
theorem below_row {B g : Nat} {w w' : World} (h : Below B w w') (hg : B ≤ g) (cs : Array Value) : Below B w (w'.setRow g cs) :=
  ⟨h.os, h.tape, h.output, by rw [setRow_size]; exact h.size, fun k hk => (setRow_other w' g k cs (by omega)).trans (h.block k hk)⟩
theorem alloc_at (w : World) (o : Obj) (n : Nat) (hn : n = w.heap.size) : (w.alloc o).heap[n]? = some o := by subst hn; exact heap_alloc_new w o
theorem SBox.load {w : World} {b : Nat} {s : Stp} {m c : Value} {z : Int} (h : SBox w b s m z c) : (loadVar 31 ⟨b, 0, none⟩).run Tryz.prog w = .ok (.agg (cellsS s m z c)) w :=
  run_loadVar_row w b _ _ _ _ _ h Tryz.underlying31 rfl stepSize
/-- a form in a block of its own -/
def FBox (w : World) (b : Nat) (x : Fm) : Prop := w.heap[b]? = some (.cells (fmCells x).toArray 50 (0, 0))
theorem FBox.keep {w w' : World} {b : Nat} {x : Fm} (h : FBox w b x) (k : Below w.heap.size w w') : FBox w' b x := (k.block b (lt_of_block h)).trans h
theorem FBox.load {w : World} {b : Nat} {x : Fm} (h : FBox w b x) : (loadVar 50 ⟨b, 0, none⟩).run Tryz.prog w = .ok (.agg (fmCells x).toArray) w :=
  run_loadVar_row w b _ _ _ _ _ h Tryz.underlying50 rfl fmSize
theorem FBox.cells {w : World} {b : Nat} {x : Fm} (h : FBox w b x) : w.cell? ⟨b, 0, none⟩ = some (.string (bs x.w)) ∧ w.cell? ⟨b, 1, none⟩ = some (.int .i64 x.k) ∧ w.cell? ⟨b, 2, none⟩ = some (.int .i64 x.c) ∧ w.cell? ⟨b, 3, none⟩ = some (.int .i64 x.o) ∧ w.cell? ⟨b, 4, none⟩ = some (.string (bs x.fs)) :=
  ⟨by rw [Lib.cell_of_heap h]; rfl, by rw [Lib.cell_of_heap h]; rfl, by rw [Lib.cell_of_heap h]; rfl, by rw [Lib.cell_of_heap h]; rfl, by rw [Lib.cell_of_heap h]; rfl⟩
theorem fm_one (x : Fm) : (fmCells x).toArray.all (·.oneCell') = true := by simp [fmCells, Value.oneCell']
theorem cells_one (s : Stp) (z : Int) : (cellsS s noV z noV).all (·.oneCell') = true := by simp [cellsS, noV, Value.oneCell']
set_option maxHeartbeats 1600000 in
theorem fresh_any (x : Fm) (w : World) : Calls Tryz.prog 33 #[.agg (fmCells x).toArray] w fun e w' => e = .returned (.agg (cellsS (stp0 x.k x.c x.o) noV 0 noV)) ∧ Below w.heap.size w w' := by
  show Calls _ _ #[.agg #[.string (bs x.w), .int .i64 x.k, .int .i64 x.c, .int .i64 x.o, .string (bs x.fs)]] _ _
  go_enter Tryz.func33, Tryz.ntmps33
  go_wp2_with (((with_reducible (refine wpList_store_rowTo rfl 31 (Operand.tmp 3) (Operand.tmp 6) rfl rfl (w.heap.size + 1 + 1) (cellsS (stp0 x.k 0 0) noV 0 noV) ?_ ?_ 31 (cellsS (stp0 0 0 0) noV 0 noV) ?_ ?_ ?_ ?_ ?_)); (· rfl); (· rfl); (· exact alloc_at _ _ _ (by simp)); (· exact stepSize); (· rfl); (· exact cells_one _ _)))
  obtain ⟨A, hA⟩ : ∃ A : Obj, A = .cells (fmCells x).toArray 50 := ⟨_, rfl⟩
  obtain ⟨Z, hZ⟩ : ∃ Z : Obj, Z = .cells (cellsS (stp0 0 0 0) noV 0 noV) 31 := ⟨_, rfl⟩
  obtain ⟨W3, hW⟩ : ∃ W3, W3 = (((w.alloc A).alloc Z).alloc Z).setRow (w.heap.size + 1 + 1) (cellsS (stp0 x.k 0 0) noV 0 noV) := ⟨_, rfl⟩
  have HG : Hid (SBox W3 (w.heap.size + 1 + 1) (stp0 x.k 0 0) noV 0 noV) := Lib.hid (by
    rw [hW]
    exact setRow_heap _ _ _ _ _ _ ((alloc_at _ _ _ (by simp)).trans (congrArg some hZ)))
  have HR : Hid (SBox W3 (w.heap.size + 1) (stp0 0 0 0) noV 0 noV) := Lib.hid (by
    rw [hW]
    refine (setRow_other _ _ _ _ (by omega)).trans ((heap_alloc_old _ _ (by simp)).trans ?_)
    exact (alloc_at _ _ _ (by simp)).trans (congrArg some hZ))
  have HF : Hid (FBox W3 w.heap.size x) := Lib.hid (by
    rw [hW]
    refine (setRow_other _ _ _ _ (by omega)).trans ((heap_alloc_old _ _ (by simp; omega)).trans ((heap_alloc_old _ _ (by simp)).trans ?_))
    exact (alloc_at _ _ _ rfl).trans (congrArg some hA))
  have HB : Hid (Below w.heap.size w W3) := Lib.hid (by
    rw [hW]
    exact below_row ((((Below.refl _ w).alloc (Nat.le_refl _) A).alloc (by simp) Z).alloc (by simp; omega) Z) (by omega) _)
  rw [hA, hZ] at hW
  change Code.wp _ _ _ _ ((((w.alloc (.cells (fmCells x).toArray 50)).alloc (.cells (cellsS (stp0 0 0 0) noV 0 noV) 31)).alloc (.cells (cellsS (stp0 0 0 0) noV 0 noV) 31)).setRow (w.heap.size + 1 + 1) (cellsS (stp0 x.k 0 0) noV 0 noV))
  rw [← hW]
  clear hW hA hZ
  obtain ⟨g, hg⟩ : ∃ g, g = w.heap.size + 1 + 1 := ⟨_, rfl⟩
  obtain ⟨rb, hrb⟩ : ∃ rb, rb = w.heap.size + 1 := ⟨_, rfl⟩
  obtain ⟨fb, hfb⟩ : ∃ fb, fb = w.heap.size := ⟨_, rfl⟩
  rw [← hg] at HG
  rw [← hrb] at HR
  rw [← hfb] at HF
  have HNE : Hid (g ≠ rb ∧ w.heap.size ≤ g ∧ w.heap.size ≤ rb ∧ g ≠ fb) := Lib.hid (by omega)
  rw [← hg, ← hrb, ← hfb]
  clear hg hrb hfb
  obtain ⟨f0, f1, f2, f3, f4⟩ := HF.out.cells
  have g4 : W3.cell? ⟨g, 4, none⟩ = some (.int .i64 0) := HG.out.cell 4 _ rfl
  have g7 : W3.cell? ⟨g, 7, none⟩ = some (.int .i64 0) := HG.out.cell 7 _ rfl
  have k4 := HG.out.free 4
  have k7 := HG.out.free 7
  have hne := HNE.out.2.2.2
  go_region
  have HO4 : Hid (Only g W3 ((W3.setCell ⟨g, 4, none⟩ (.int .i64 x.c)).setCell ⟨g, 7, none⟩ (.int .i64 x.o)).drew) := Lib.hid (((Only.refl g W3).setCell 4 _).setCell 7 _).drew
  have HG4 : Hid (SBox ((W3.setCell ⟨g, 4, none⟩ (.int .i64 x.c)).setCell ⟨g, 7, none⟩ (.int .i64 x.o)).drew g (stp0 x.k x.c x.o) noV 0 noV) := Lib.hid (by
    have h1 := heap_setCell_same W3 g 4 _ _ (.int .i64 x.c) HG.out
    exact heap_setCell_same _ g 7 _ _ (.int .i64 x.o) h1)
  generalize ((W3.setCell ⟨g, 4, none⟩ (.int .i64 x.c)).setCell ⟨g, 7, none⟩ (.int .i64 x.o)).drew = W4 at *
  have HR4 : Hid (SBox W4 rb (stp0 0 0 0) noV 0 noV) := Lib.hid (HO4.out.heap HR.out (fun e => HNE.out.1 e.symm))
  have HB4 : Hid (Below w.heap.size w W4) := Lib.hid (HB.out.trans (HO4.out.below HNE.out.2.1 HB.out.size))
  have hld := HG4.out.load
  clear f0 f1 f2 f3 f4 g4 g7 k4 k7 hne
  obtain ⟨cs, hcs⟩ : ∃ cs, cs = cellsS (stp0 x.k x.c x.o) noV 0 noV := ⟨_, rfl⟩
  have h1 : cs.all (·.oneCell') = true := by rw [hcs]; exact cells_one _ _
  have h2 : (Tryz.prog.info? 31).map (·.size) = some cs.size := by rw [hcs]; exact stepSize
  have h3 : (cellsS (stp0 0 0 0) noV 0 noV).size = cs.size := by rw [hcs]; rfl
  have HB5 : Hid (Below w.heap.size w (W4.setRow rb cs)) := Lib.hid (below_row HB4.out HNE.out.2.2.1 _)
  have HR5 : Hid ((W4.setRow rb cs).heap[rb]? = some (.cells cs 31 (0, 0))) := Lib.hid (setRow_heap _ _ _ _ _ _ HR4.out)
  have HCS := Lib.hid hcs
  have HG5 : Hid (W4.heap[g]? = some (.cells cs 31 (0, 0))) := Lib.hid (by rw [hcs]; exact HG4.out)
  clear hcs hld
  have H1 := Lib.hid h1
  have H2 := Lib.hid h2
  have H3 := Lib.hid h3
  clear h1 h2 h3
  go_wp2_with (first | ((with_reducible (refine wpList_load_row rfl 31 (Operand.tmp 3) rfl g ?_ 31 cs (0, 0) _ ?_ Tryz.underlying31 ?_ ?_ ?_)); (· rfl); (· exact HG5.out); (· rfl); (· exact H2.out)) | ((with_reducible (refine wpList_store_rowTo rfl 31 (Operand.tmp 2) (Operand.tmp 16) rfl rfl rb cs ?_ ?_ 31 (cellsS (stp0 0 0 0) noV 0 noV) ?_ ?_ ?_ ?_ ?_)); (· rfl); (· rfl); (· exact HR4.out); (· exact H2.out); (· exact H3.out); (· exact H1.out)))
  refine OpW.ret_row1 Tryz.results33 rfl rfl HR5.out Tryz.underlying31 rfl H2.out ?_
  exact ⟨by rw [HCS.out], HB5.out⟩
end Go.Proofs.YtiffmigihhcgcaaGreatDoor.ConW
