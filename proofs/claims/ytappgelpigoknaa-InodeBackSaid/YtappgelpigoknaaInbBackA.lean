/- Several texts in one. -/
import Derived.Test.YtappgelpigoknaaInbMove
import Derived.Test.YtappgelpigoknaaInbList
import Derived.Test.YtappgelpigoknaaOpen
import Derived.Test.YtappgelpigoknaaInbRefA
import Derived.Test.YtappgelpigoknaaAppend
import Derived.Test.YtappgelpigoknaaInoLG
import Derived.Test.YtappgelpigoknaaInbSameA
import Derived.Test.YtappgelpigoknaaInbWakes
/- Calls of a table that came in, one behind the other. -/
namespace Go.Proofs.Ytappgelpigoknaa.InoW
set_option maxRecDepth 100000
open Go.RowKit Go.ChangeShapes Go.WideShapes Go.Deep InoP ExtW
def I64 (z : Int) : Prop := -9223372036854775808 ≤ z ∧ z ≤ 9223372036854775807
/-- a call: its kind, inode, number, place, address, moves -/
structure Stq where
  k : Int
  i : Int
  n : Int
  o : Int
  a : Int
  m : List Mq
structure SWf (x : Stq) : Prop where
  k : I64 x.k
  i : I64 x.i
  n : I64 x.n
  o : I64 x.o
  a : I64 x.a
  m : ∀ y ∈ x.m, I64 y.a ∧ I64 y.f ∧ I64 y.n ∧ I64 y.t
structure SRead (w : World) (x : Stq) (y : IV) : Prop where
  k : y.i = x.k
  i : y.k = x.i
  n : y.l = x.n
  o : y.o = x.o
  a : y.s = x.a
  len : y.n = x.m.length
  pts : KAt encQ 4 w.heap.size y.oa x.m w
  nil : y.oa = none → y.n = 0 ∧ y.c = 0
theorem SRead.grow {w w' : World} {x : Stq} {y : IV} (h : SRead w x y) (k : Below w.heap.size w w') : SRead w' x y := { h with pts := h.pts.grow k }
structure SList (w : World) (oa : Option Addr) (xs : List Stq) (ys : List IV) : Prop where
  at_ : KAt encI 6 w.heap.size oa ys w
  len : ys.length = xs.length
  read : ∀ (i : Nat) (x : Stq) (y : IV), xs[i]? = some x → ys[i]? = some y → SRead w x y
theorem SList.grow {w w' : World} {oa : Option Addr} {xs : List Stq} {ys : List IV} (h : SList w oa xs ys) (k : Below w.heap.size w w') : SList w' oa xs ys := ⟨h.at_.grow k, h.len, fun i x y hx hy => (h.read i x y hx hy).grow k⟩
section
variable {H : Type} {enc : TypeId × Value → H} {P : Program} {w : World} {base : Nat} {spare : Nat → Bool} {held : Bool}
/-- a slice of structs whose fields are one cell each, that lies in a cell -/
theorem rows_in {t e : TypeId} {fs : Array Field} {u : Value} {fuel : Nat} {y : DataW H × List MemPlace} (ht : P.underlying t = some (.slice e)) (he : P.underlying e = some (.struct fs))
    (hone : oneCellFields P fs = true) (hC : P.cellsOf e = fs.size) (h : DataW.trod enc P w base spare held fuel t [u] = some y) :
    ∃ (oa : Option Addr) (len cap : Nat), u = .slice oa len cap ∧ len ≤ cap ∧ cap ≤ maxLen ∧ (oa = none → len = 0 ∧ cap = 0) ∧
      ∀ i, i < len → ∃ a n, oa = some a ∧ ∀ (j : Nat) (f : Field), fs[j]? = some f → ∃ (u : Value) (y : DataW H × List MemPlace), w.cell? (a.add (i * fs.size + j)) = some u ∧ DataW.trod enc P w base spare held n f.type [u] = some y := by
  rcases open_slice ht h with ⟨hcs, _⟩ | ⟨a, len, cap, m, n, D, Pl, hcs, _, hl, hm, hmm, _, hi⟩
  · obtain rfl : u = .slice none 0 0 := by simpa using hcs
    exact ⟨none, 0, 0, rfl, Nat.le_refl _, Nat.zero_le _, fun _ => ⟨rfl, rfl⟩, fun i hi => absurd hi (Nat.not_lt_zero _)⟩
  · obtain rfl : u = .slice (some a) len cap := by simpa using hcs
    refine ⟨some a, len, cap, rfl, hl, hm, (fun h => by cases h), fun i hil => ?_⟩
    have him : i < m := by rw [hmm]; split <;> omega
    obtain ⟨cs', hc, ht'⟩ := hi i him
    rw [hC] at hc
    obtain ⟨ys, n', hn', hy, hlen, hyl, hfd⟩ := DataW.trod_struct he ht'
    obtain ⟨_, hcl, hat⟩ := World.cells?_some hc
    refine ⟨a, n', rfl, fun j f hj => ?_⟩
    obtain ⟨ho, hk⟩ := hone_of hone j f hj
    have hjl : j < fs.size := (Array.getElem?_eq_some_iff.1 hj).1
    have hcell := hat j hjl
    have h1 := hfd j f hj
    rw [ho, hk] at h1
    have hd : (cs'.drop j).take 1 = [cs'[j]'(by omega)] := by
      rw [List.drop_eq_getElem_cons (by omega)]; rfl
    rw [hd, List.getElem?_eq_getElem (by omega)] at h1
    refine ⟨_, _, ?_, h1⟩
    rw [← Go.Deep.add_add, hcell, List.getElem?_eq_getElem (by omega)]
end
section
variable {H : Type} {enc : TypeId × Value → H} {w : World} {base b0 : Nat} {spare : Nat → Bool} {held : Bool} {r : Reach}
theorem moves_in {u : Value} {fuel : Nat} {y : DataW H × List MemPlace} (h : DataW.trod enc Try.prog w base spare held fuel 46 [u] = some y) :
    ∃ (oa : Option Addr) (cap : Nat) (l : List Mq), u = .slice oa l.length cap ∧ KAt encQ 4 w.heap.size oa l w ∧ l.length ≤ maxLen ∧ (oa = none → l.length = 0 ∧ cap = 0) ∧ ∀ x ∈ l, I64 x.a ∧ I64 x.f ∧ I64 x.n ∧ I64 x.t := by
  obtain ⟨oa, len, cap, rfl, hl, hm, hn, hi⟩ := rows_in Try.underlying46 Try.underlying91 (by kernel_rfl) (by kernel_rfl) h
  have key : ∀ i, ∃ x : Mq, (I64 x.a ∧ I64 x.f ∧ I64 x.n ∧ I64 x.t) ∧ (i < len → ∃ a, oa = some a ∧ a.block < w.heap.size ∧ ∀ j u, (encQ x)[j]? = some u → w.cell? (fieldOf (a.add (i * 4)) j) = some u) := by
    intro i
    by_cases hil : i < len
    · obtain ⟨a, n, ha, hf⟩ := hi i hil
      obtain ⟨u0, y0, c0, t0⟩ := hf 0 _ rfl
      obtain ⟨u1, y1, c1, t1⟩ := hf 1 _ rfl
      obtain ⟨u2, y2, c2, t2⟩ := hf 2 _ rfl
      obtain ⟨u3, y3, c3, t3⟩ := hf 3 _ rfl
      obtain ⟨z0, e0, _, b0⟩ := DataW.trod_int Try.underlying3 t0
      obtain ⟨z1, e1, _, b1⟩ := DataW.trod_int Try.underlying3 t1
      obtain ⟨z2, e2, _, b2⟩ := DataW.trod_int Try.underlying3 t2
      obtain ⟨z3, e3, _, b3⟩ := DataW.trod_int Try.underlying3 t3
      obtain rfl : u0 = .int .i64 z0 := by simpa using e0
      obtain rfl : u1 = .int .i64 z1 := by simpa using e1
      obtain rfl : u2 = .int .i64 z2 := by simpa using e2
      obtain rfl : u3 = .int .i64 z3 := by simpa using e3
      refine ⟨⟨z0, z1, z2, z3⟩, ⟨i64_bd' b0, i64_bd' b1, i64_bd' b2, i64_bd' b3⟩, fun _ => ⟨a, ha, ?_, fun j u hj => ?_⟩⟩
      · have := World.block_lt_of_cell? _ _ c0
        rwa [add_block] at this
      · rw [← fieldOf_add]
        match j with
        | 0 => simp only [encQ, List.getElem?_cons_zero, Option.some.injEq] at hj; rw [← hj]; exact c0
        | 1 => simp only [encQ, List.getElem?_cons_succ, List.getElem?_cons_zero, Option.some.injEq] at hj; rw [← hj]; exact c1
        | 2 => simp only [encQ, List.getElem?_cons_succ, List.getElem?_cons_zero, Option.some.injEq] at hj; rw [← hj]; exact c2
        | 3 => simp only [encQ, List.getElem?_cons_succ, List.getElem?_cons_zero, Option.some.injEq] at hj; rw [← hj]; exact c3
        | j + 4 => simp [encQ] at hj
    · have b : I64 0 := by unfold I64; omega
      exact ⟨⟨0, 0, 0, 0⟩, ⟨b, b, b, b⟩, fun h => absurd h hil⟩
  refine ⟨oa, cap, (List.range len).map (fun i => (key i).choose), by simp, ?_, by simp; omega, fun e => by have := hn e; simpa using this, fun x hx => ?_⟩
  · intro i x hx
    have hil : i < len := by have := (List.getElem?_eq_some_iff.1 hx).1; simpa using this
    obtain rfl : (key i).choose = x := by simpa [hil] using hx
    exact (key i).choose_spec.2 hil
  · obtain ⟨i, _, rfl⟩ := List.mem_map.1 hx
    exact (key i).choose_spec.1
theorem open_steps {v : Value} {d : DataW H} {p : List MemPlace} (hv : Value.okWide Try.prog w r b0 42 v) (h : DataW.Trod enc Try.prog w base spare held 42 v d p) :
    ∃ (oa : Option Addr) (cap : Nat) (xs : List Stq) (ys : List IV), v = .slice oa xs.length cap ∧ SList w oa xs ys ∧ xs.length ≤ maxLen ∧ ∀ x ∈ xs, SWf x := by
  obtain ⟨oa, len, cap, rfl, hl, hm, hn, hi⟩ := open_rows Try.underlying42 Try.underlying48 (by kernel_rfl) (by kernel_rfl) hv h
  have key : ∀ i, ∃ q : Stq × IV, SRead w q.1 q.2 ∧ SWf q.1 ∧ (i < len → ∃ a, oa = some a ∧ a.block < w.heap.size ∧ ∀ j u, (encI q.2)[j]? = some u → w.cell? (fieldOf (a.add (i * 6)) j) = some u) := by
    intro i
    by_cases hil : i < len
    · obtain ⟨a, n, ha, hf⟩ := hi i hil
      obtain ⟨u0, y0, c0, t0⟩ := hf 0 _ rfl
      obtain ⟨u1, y1, c1, t1⟩ := hf 1 _ rfl
      obtain ⟨u2, y2, c2, t2⟩ := hf 2 _ rfl
      obtain ⟨u3, y3, c3, t3⟩ := hf 3 _ rfl
      obtain ⟨u4, y4, c4, t4⟩ := hf 4 _ rfl
      obtain ⟨u5, y5, c5, t5⟩ := hf 5 _ rfl
      obtain ⟨z0, e0, _, b0⟩ := DataW.trod_int Try.underlying3 t0
      obtain ⟨z1, e1, _, b1⟩ := DataW.trod_int Try.underlying3 t1
      obtain ⟨z2, e2, _, b2⟩ := DataW.trod_int Try.underlying3 t2
      obtain ⟨z3, e3, _, b3⟩ := DataW.trod_int Try.underlying3 t3
      obtain ⟨z4, e4, _, b4⟩ := DataW.trod_int Try.underlying3 t4
      obtain ⟨oz, cz, l, rfl, hp, hlz, hnz, hbz⟩ := moves_in t5
      obtain rfl : u0 = .int .i64 z0 := by simpa using e0
      obtain rfl : u1 = .int .i64 z1 := by simpa using e1
      obtain rfl : u2 = .int .i64 z2 := by simpa using e2
      obtain rfl : u3 = .int .i64 z3 := by simpa using e3
      obtain rfl : u4 = .int .i64 z4 := by simpa using e4
      refine ⟨(⟨z0, z1, z2, z3, z4, l⟩, ⟨z0, z1, z2, z3, z4, oz, l.length, cz⟩), ⟨rfl, rfl, rfl, rfl, rfl, rfl, hp, hnz⟩, ⟨i64_bd' b0, i64_bd' b1, i64_bd' b2, i64_bd' b3, i64_bd' b4, hbz⟩, fun _ => ⟨a, ha, ?_, fun j u hj => ?_⟩⟩
      · have := World.block_lt_of_cell? _ _ c0
        rwa [add_block] at this
      · rw [← fieldOf_add]
        have hj6 : j < 6 := by have := (List.getElem?_eq_some_iff.1 hj).1; rw [encI_len] at this; exact this
        have : j = 0 ∨ j = 1 ∨ j = 2 ∨ j = 3 ∨ j = 4 ∨ j = 5 := by omega
        rcases this with rfl | rfl | rfl | rfl | rfl | rfl <;> (simp [encI] at hj; rw [← hj]; assumption)
    · have b : I64 0 := by unfold I64; omega
      exact ⟨(⟨0, 0, 0, 0, 0, []⟩, ⟨0, 0, 0, 0, 0, none, 0, 0⟩), ⟨rfl, rfl, rfl, rfl, rfl, rfl, fun i x h => by simp at h, fun _ => ⟨rfl, rfl⟩⟩, ⟨b, b, b, b, b, fun x hx => by simp at hx⟩, fun h => absurd h hil⟩
  refine ⟨oa, cap, (List.range len).map (fun i => (key i).choose.1), (List.range len).map (fun i => (key i).choose.2), by simp, ⟨fun i y hy => ?_, by simp, fun i x y hx hy => ?_⟩, by simp; omega, fun x hx => ?_⟩
  · have hil : i < len := by have := (List.getElem?_eq_some_iff.1 hy).1; simpa using this
    obtain rfl : (key i).choose.2 = y := by simpa [hil] using hy
    exact (key i).choose_spec.2.2 hil
  · have hil : i < len := by have := (List.getElem?_eq_some_iff.1 hx).1; simpa using this
    obtain rfl : (key i).choose.1 = x := by simpa [hil] using hx
    obtain rfl : (key i).choose.2 = y := by simpa [hil] using hy
    exact (key i).choose_spec.1
  · obtain ⟨i, _, rfl⟩ := List.mem_map.1 hx
    exact (key i).choose_spec.2.1
end
end Go.Proofs.Ytappgelpigoknaa.InoW

/- One call on a table and on the document's. -/
namespace Go.Proofs.Ytappgelpigoknaa.InoW
set_option maxRecDepth 100000
set_option linter.unusedVariables false
open Go.RowKit InoP ExtW
/-- the two tables -/
structure Two (B : Nat) (w : World) (tb b qb : Nat) (L : List Ino) (next : Int) : Prop where
  t : TIs w tb b L next
  r : RT B w qb L next
  lt : B ≤ tb ∧ B ≤ b
def stepL (L : List Ino) (x : Stq) : List Ino :=
  if x.k = 1 then linkL L x.i x.n else if x.k = 2 then openL L x.i x.n else if x.k = 3 then writeL L x.i x.o x.n x.a else if x.k = 4 then truncL L x.i x.n else if x.k = 5 then tmovL L x.i x.m x.a else L
def cellsQ (x : Stq) (om : Option Addr) (cm : Nat) : Array Value := #[.int .i64 x.k, .int .i64 x.i, .int .i64 x.n, .int .i64 x.o, .int .i64 x.a, .slice om x.m.length cm]
def SBx (w : World) (b : Nat) (x : Stq) (om : Option Addr) (cm : Nat) : Prop := w.heap[b]? = some (.cells (cellsQ x om cm) 48 (0, 0))
theorem SBx.cells {w : World} {b : Nat} {x : Stq} {om : Option Addr} {cm : Nat} (h : SBx w b x om cm) : w.cell? ⟨b, 0, none⟩ = some (.int .i64 x.k) ∧ w.cell? ⟨b, 1, none⟩ = some (.int .i64 x.i) ∧ w.cell? ⟨b, 2, none⟩ = some (.int .i64 x.n) ∧ w.cell? ⟨b, 3, none⟩ = some (.int .i64 x.o) ∧ w.cell? ⟨b, 4, none⟩ = some (.int .i64 x.a) ∧ w.cell? ⟨b, 5, none⟩ = some (.slice om x.m.length cm) :=
  ⟨(new_cells h 0 (by simp [cellsQ])).1, (new_cells h 1 (by simp [cellsQ])).1, (new_cells h 2 (by simp [cellsQ])).1, (new_cells h 3 (by simp [cellsQ])).1, (new_cells h 4 (by simp [cellsQ])).1, (new_cells h 5 (by simp [cellsQ])).1⟩
theorem SBx.only {w w' : World} {bb tb b : Nat} {x : Stq} {om : Option Addr} {cm : Nat} {L : List Ino} {next : Int} (h : SBx w bb x om cm) (k : Only b w w') (ht : TIs w tb b L next) : SBx w' bb x om cm := by
  refine Only.heap k h (fun e => ?_)
  subst e
  obtain ⟨n, g, ⟨es, clock, hm, _⟩, _⟩ := ht.map
  unfold SBx at h
  rw [hm] at h; cases h
theorem SBx.tch {w w' : World} {bb : Nat} {x : Stq} {om : Option Addr} {cm : Nat} (h : SBx w bb x om cm) (k : Tch w w') : SBx w' bb x om cm := by
  refine (k.block bb (lt_of_block h) ?_).trans h
  rintro ⟨cs, T, fr, h1, h2⟩
  unfold SBx at h
  rw [h] at h1
  injection h1 with h1
  injection h1 with _ h1 _
  rcases h2 with rfl | rfl
  · exact absurd h1 (by decide)
  · exact absurd h1 (by decide)
theorem drew_below {w : World} : Below w.heap.size w w.drew := (Below.refl _ _).drew
theorem wp_enters' {P : Program} {o : Oper} {a : Act} {w : World} {K : Act → World → Prop} {Q : Exit → Act → World → Prop} (d : Option Tmp) {f : FuncId} {args : Array Value} (hd : o.dst = d)
    (hr : (execOp a.eval o).run P w = .ok (.enter f args) w) (v : Value) (R : World → Prop) (hc : Calls P f args w fun e w' => e = .returned v ∧ R w') (h : ∀ w', R w' → K (a.put d v) w') : o.wp P a w K Q := by
  subst hd
  unfold Oper.wp
  rw [hr, Oper.upon_enter]
  refine hc.mono ?_
  rintro e w' ⟨rfl, hw⟩
  exact h w' hw
theorem mvinfoQ : (Try.prog.info? 91).map (fun i => (i.zero, i.size, i.bytes)) = some (some (.agg #[.int .i64 0, .int .i64 0, .int .i64 0, .int .i64 0]), 4, 32) := by kernel_rfl
theorem encQ_len (x : Mq) : (encQ x).length = 4 := rfl
theorem flat_oneQ (l : List Mq) : ∀ u ∈ l.flatMap encQ, u.oneCell' = true := by
  intro u hu
  obtain ⟨a, _, h⟩ := List.mem_flatMap.1 hu
  simp only [encQ, List.mem_cons, List.not_mem_nil, or_false] at h
  rcases h with rfl | rfl | rfl | rfl <;> rfl
def IsBl (e : Ending) : Prop := ∃ c, e = .returned (.bool c)
set_option maxHeartbeats 12800000 in
theorem step_any {B tb b qb : Nat} {L : List Ino} {next : Int} (x : Stq) (om : Option Addr) (cm : Nat) (hwf : SWf x) (hml : x.m.length ≤ 30) (hk0 : x.k ≠ 0) (w : World) (h : Two B w tb b qb L next) (hBw : B ≤ w.heap.size) (hm : KAt encQ 4 B om x.m w) (hnil : om = none → x.m.length = 0 ∧ cm = 0) :
    Calls Try.prog 18 #[.pointer (some ⟨tb, 0, none⟩), .pointer (some ⟨qb, 0, none⟩), .agg (cellsQ x om cm)] w fun e w' => IsBl e ∧ Two B w' tb b qb (stepL L x) next ∧ Below B w w' := by
  have HWF := Lib.hid hwf
  have HIO : Hid (iOk x.i) := Lib.hid (iOk_of hwf.i)
  have HML := Lib.hid hml
  have HNL := Lib.hid hnil
  have HLB := Lib.hid h.lt
  have hb1 := below_alloc w (.cells (cellsQ x om cm) 48)
  have HB1 : Hid (Below B w (w.alloc (.cells (cellsQ x om cm) 48))) := Lib.hid (hb1.mono hBw)
  have HT : Hid (TIs (w.alloc (.cells (cellsQ x om cm) 48)) tb b L next) := Lib.hid (h.t.grow hb1)
  have HR : Hid (RT B (w.alloc (.cells (cellsQ x om cm) 48)) qb L next) := Lib.hid (h.r.grow hb1)
  have HBX : Hid (SBx (w.alloc (.cells (cellsQ x om cm) 48)) w.heap.size x om cm) := Lib.hid (heap_alloc_new w _)
  have HMA : Hid (KAt encQ 4 B om x.m (w.alloc (.cells (cellsQ x om cm) 48))) := Lib.hid (hm.below HB1.out)
  have HBZ : Hid (B ≤ (w.alloc (.cells (cellsQ x om cm) 48)).heap.size) := Lib.hid (Nat.le_trans hBw hb1.size)
  obtain ⟨c0, c1, c2, c3, c4, c5⟩ := HBX.out.cells
  clear hwf hml hnil h hBw hm hb1
  obtain ⟨w1, hw1⟩ : ∃ w1, w.alloc (.cells (cellsQ x om cm) 48) = w1 := ⟨_, rfl⟩
  rw [hw1] at HB1 HT HR HBX HMA HBZ c0 c1 c2 c3 c4 c5
  obtain ⟨bb, hbb⟩ : ∃ bb, w.heap.size = bb := ⟨_, rfl⟩
  rw [hbb] at HBX c0 c1 c2 c3 c4 c5
  unfold cellsQ at hw1
  show Calls _ _ #[_, _, .agg #[.int .i64 x.k, .int .i64 x.i, .int .i64 x.n, .int .i64 x.o, .int .i64 x.a, .slice om x.m.length cm]] _ _
  by_cases hk1 : x.k = 1
  · have HLN : Hid (stepL L x = linkL L x.i x.n) := Lib.hid (by unfold stepL; rw [if_pos hk1])
    rw [hk1] at c0
    clear hk0 hk1
    go_enter Try.func18, Try.ntmps18
    go_wp2_with fail
    clear c0 c1 c2 c3 c4 c5
    clear hw1 hbb
    have HS0 : Hid (SBx w1.drew bb x om cm ∧ Below B w1 w1.drew) := Lib.hid ⟨HBX.out, (Below.refl B w1).drew⟩
    refine regionL 13 14 (fun W => SBx W bb x om cm ∧ Below B w1 W) (by kernel_rfl) rfl ?_
    refine takeL 0 (some 40) (v := ?_) rfl (by kernel_rfl) (by kernel_rfl) (by kernel_rfl) (by kernel_rfl) (fun _ _ _ h => h) rfl rfl HS0.out ?_ ?_
    rotate_left
    · intro wq hq
      obtain ⟨g0, g1, g2, g3, g4, g5⟩ := hq.1.cells
      go_simp
      with_reducible rfl
    simp only [Act.put, List.setIfInBounds_toArray, List.set_cons_zero, List.set_cons_succ]
    refine takeL 1 (some 41) (v := ?_) rfl (by kernel_rfl) (by kernel_rfl) (by kernel_rfl) (by kernel_rfl) (fun _ _ _ h => h) rfl rfl HS0.out ?_ ?_
    rotate_left
    · intro wq hq
      obtain ⟨g0, g1, g2, g3, g4, g5⟩ := hq.1.cells
      go_simp
      with_reducible rfl
    simp only [Act.put, List.setIfInBounds_toArray, List.set_cons_zero, List.set_cons_succ]
    refine takeL 2 (some 42) (v := ?_) rfl (by kernel_rfl) (by kernel_rfl) (by kernel_rfl) (by kernel_rfl) (fun _ _ _ h => h) rfl rfl HS0.out ?_ ?_
    rotate_left
    · intro wq hq
      obtain ⟨g0, g1, g2, g3, g4, g5⟩ := hq.1.cells
      go_simp
      with_reducible rfl
    simp only [Act.put, List.setIfInBounds_toArray, List.set_cons_zero, List.set_cons_succ]
    refine takeL 3 (some 43) (v := ?_) rfl (by kernel_rfl) (by kernel_rfl) (by kernel_rfl) (by kernel_rfl) (fun _ _ _ h => h) rfl rfl HS0.out ?_ ?_
    rotate_left
    · intro wq hq
      obtain ⟨g0, g1, g2, g3, g4, g5⟩ := hq.1.cells
      go_simp
      with_reducible rfl
    simp only [Act.put, List.setIfInBounds_toArray, List.set_cons_zero, List.set_cons_succ]
    refine takeL 4 (some 44) (v := ?_) rfl (by kernel_rfl) (by kernel_rfl) (by kernel_rfl) (by kernel_rfl) (fun _ _ _ h => h) rfl rfl HS0.out ?_ ?_
    rotate_left
    · intro wq hq
      obtain ⟨g0, g1, g2, g3, g4, g5⟩ := hq.1.cells
      go_simp
      with_reducible rfl
    simp only [Act.put, List.setIfInBounds_toArray, List.set_cons_zero, List.set_cons_succ]
    refine takeL 6 (some 46) (v := ?_) rfl (by kernel_rfl) (by kernel_rfl) (by kernel_rfl) (by kernel_rfl) (fun _ _ _ h => h) rfl rfl HS0.out ?_ ?_
    rotate_left
    · intro wq hq
      obtain ⟨g0, g1, g2, g3, g4, g5⟩ := hq.1.cells
      go_simp
      with_reducible rfl
    simp only [Act.put, List.setIfInBounds_toArray, List.set_cons_zero, List.set_cons_succ]
    refine takeL 7 (some 47) (v := ?_) rfl (by kernel_rfl) (by kernel_rfl) (by kernel_rfl) (by kernel_rfl) (fun _ _ _ h => h) rfl rfl HS0.out ?_ ?_
    rotate_left
    · intro wq hq
      obtain ⟨g0, g1, g2, g3, g4, g5⟩ := hq.1.cells
      go_simp
      with_reducible rfl
    simp only [Act.put, List.setIfInBounds_toArray, List.set_cons_zero, List.set_cons_succ]
    refine takeL 8 (some 48) (v := ?_) rfl (by kernel_rfl) (by kernel_rfl) (by kernel_rfl) (by kernel_rfl) (fun _ _ _ h => h) rfl rfl HS0.out ?_ ?_
    rotate_left
    · intro wq hq
      obtain ⟨g0, g1, g2, g3, g4, g5⟩ := hq.1.cells
      go_simp
      with_reducible rfl
    simp only [Act.put, List.setIfInBounds_toArray, List.set_cons_zero, List.set_cons_succ]
    refine takeL 9 (some 49) (v := ?_) rfl (by kernel_rfl) (by kernel_rfl) (by kernel_rfl) (by kernel_rfl) (fun _ _ _ h => h) rfl rfl HS0.out ?_ ?_
    rotate_left
    · intro wq hq
      obtain ⟨g0, g1, g2, g3, g4, g5⟩ := hq.1.cells
      go_simp
      with_reducible rfl
    simp only [Act.put, List.setIfInBounds_toArray, List.set_cons_zero, List.set_cons_succ]
    refine takeL 10 (some 50) (v := ?_) rfl (by kernel_rfl) (by kernel_rfl) (by kernel_rfl) (by kernel_rfl) (fun _ _ _ h => h) rfl rfl HS0.out ?_ ?_
    rotate_left
    · intro wq hq
      obtain ⟨g0, g1, g2, g3, g4, g5⟩ := hq.1.cells
      go_simp
      with_reducible rfl
    simp only [Act.put, List.setIfInBounds_toArray, List.set_cons_zero, List.set_cons_succ]
    refine oneL 5 (by kernel_rfl) rfl rfl ?_
    refine wp_enters' (some 45) (f := 8) (args := #[.pointer (some ⟨tb, 0, none⟩), .int .i64 x.i, .int .i64 x.n]) rfl ?_ (.int .i64 (linkE L x.i x.n)) (fun W => (TIs W tb b (linkL L x.i x.n) next ∧ RT B W qb L next) ∧ SBx W bb x om cm ∧ Below B w1 W) ?_ ?_
    · go_simp
    · exact (link_any x.i x.n HIO.out w1.drew (HT.out.grow drew_below)).mono fun e w' ⟨h1, h2, h3⟩ => ⟨h1, ⟨h2, (HR.out.grow drew_below).two (Only2.of h3) (head_not (HT.out.grow drew_below))⟩, (show SBx w1.drew bb x om cm from HBX.out).only h3 (HT.out.grow drew_below), ((Below.refl B w1).drew).trans (h3.below HLB.out.2 HBZ.out)⟩
    rintro w5 ⟨⟨ht5, hr5⟩, hs5, hb5⟩
    have HT5 := Lib.hid ht5
    have HR5 := Lib.hid hr5
    have HS5 : Hid (SBx w5 bb x om cm ∧ Below B w1 w5) := Lib.hid ⟨hs5, hb5⟩
    clear ht5 hr5 hs5 hb5
    refine ⟨fun _ => HS5.out, ?_⟩
    simp only [Act.put, List.setIfInBounds_toArray, List.set_cons_zero, List.set_cons_succ]
    refine oneL 11 (by kernel_rfl) rfl rfl ?_
    refine wp_enters' (some 51) (f := 17) (args := #[.pointer (some ⟨qb, 0, none⟩), .int .i64 x.i, .int .i64 x.n]) rfl ?_ (.int .i64 (linkE L x.i x.n)) (fun W => (TIs W tb b (linkL L x.i x.n) next ∧ RT B W qb (linkL L x.i x.n) next) ∧ SBx W bb x om cm ∧ Below B w1 W) ?_ ?_
    · go_simp
    · exact (rlink_any x.i x.n HT.out.good w5 HR5.out (Nat.le_trans HBZ.out HS5.out.2.size)).mono fun e w' ⟨h1, h2⟩ => ⟨h1, ⟨HT5.out.tch h2.tch, h2.rt⟩, HS5.out.1.tch h2.tch, HS5.out.2.trans h2.below⟩
    rintro w6 ⟨⟨ht6, hr6⟩, hs6, hb6⟩
    have HT6 := Lib.hid ht6
    have HR6 := Lib.hid hr6
    have HS6 : Hid (SBx w6 bb x om cm ∧ Below B w1 w6) := Lib.hid ⟨hs6, hb6⟩
    clear ht6 hr6 hs6 hb6
    refine ⟨fun _ => HS6.out, ?_⟩
    simp only [Act.put, List.setIfInBounds_toArray, List.set_cons_zero, List.set_cons_succ]
    have hee : (((linkE L x.i x.n) : Int) == (linkE L x.i x.n)) = true := beq_self_eq_true _
    refine oneL 12 (by kernel_rfl) rfl rfl (wp_runs (some 52) (v := .bool true) (w' := w6) rfl (by go_simp) ⟨fun _ => HS6.out, ?_⟩)
    simp only [Act.put, List.setIfInBounds_toArray, List.set_cons_zero, List.set_cons_succ]
    refine oneL 13 (by kernel_rfl) rfl rfl (wp_runs (some 6) (v := .bool true) (w' := w6) rfl (by go_simp) ⟨fun h => absurd rfl h, ?_⟩)
    simp only [Act.put, List.setIfInBounds_toArray, List.set_cons_zero, List.set_cons_succ]
    refine doneL (by kernel_rfl) ?_
    try simp only [Exit.then]
    go_wp2_with fail
    go_ret
    exact ⟨⟨_, rfl⟩, by rw [HLN.out]; exact ⟨HT6.out, HR6.out, HLB.out⟩, HB1.out.trans HS6.out.2⟩
  by_cases hk2 : x.k = 2
  · have HLN : Hid (stepL L x = openL L x.i x.n) := Lib.hid (by unfold stepL; rw [if_neg hk1]; rw [if_pos hk2])
    rw [hk2] at c0
    clear hk0 hk1 hk2
    go_enter Try.func18, Try.ntmps18
    go_wp2_with fail
    clear c0 c1 c2 c3 c4 c5
    clear hw1 hbb
    have HS0 : Hid (SBx w1.drew bb x om cm ∧ Below B w1 w1.drew) := Lib.hid ⟨HBX.out, (Below.refl B w1).drew⟩
    refine regionL 13 14 (fun W => SBx W bb x om cm ∧ Below B w1 W) (by kernel_rfl) rfl ?_
    refine takeL 0 (some 55) (v := ?_) rfl (by kernel_rfl) (by kernel_rfl) (by kernel_rfl) (by kernel_rfl) (fun _ _ _ h => h) rfl rfl HS0.out ?_ ?_
    rotate_left
    · intro wq hq
      obtain ⟨g0, g1, g2, g3, g4, g5⟩ := hq.1.cells
      go_simp
      with_reducible rfl
    simp only [Act.put, List.setIfInBounds_toArray, List.set_cons_zero, List.set_cons_succ]
    refine takeL 1 (some 56) (v := ?_) rfl (by kernel_rfl) (by kernel_rfl) (by kernel_rfl) (by kernel_rfl) (fun _ _ _ h => h) rfl rfl HS0.out ?_ ?_
    rotate_left
    · intro wq hq
      obtain ⟨g0, g1, g2, g3, g4, g5⟩ := hq.1.cells
      go_simp
      with_reducible rfl
    simp only [Act.put, List.setIfInBounds_toArray, List.set_cons_zero, List.set_cons_succ]
    refine takeL 2 (some 57) (v := ?_) rfl (by kernel_rfl) (by kernel_rfl) (by kernel_rfl) (by kernel_rfl) (fun _ _ _ h => h) rfl rfl HS0.out ?_ ?_
    rotate_left
    · intro wq hq
      obtain ⟨g0, g1, g2, g3, g4, g5⟩ := hq.1.cells
      go_simp
      with_reducible rfl
    simp only [Act.put, List.setIfInBounds_toArray, List.set_cons_zero, List.set_cons_succ]
    refine takeL 3 (some 58) (v := ?_) rfl (by kernel_rfl) (by kernel_rfl) (by kernel_rfl) (by kernel_rfl) (fun _ _ _ h => h) rfl rfl HS0.out ?_ ?_
    rotate_left
    · intro wq hq
      obtain ⟨g0, g1, g2, g3, g4, g5⟩ := hq.1.cells
      go_simp
      with_reducible rfl
    simp only [Act.put, List.setIfInBounds_toArray, List.set_cons_zero, List.set_cons_succ]
    refine takeL 4 (some 59) (v := ?_) rfl (by kernel_rfl) (by kernel_rfl) (by kernel_rfl) (by kernel_rfl) (fun _ _ _ h => h) rfl rfl HS0.out ?_ ?_
    rotate_left
    · intro wq hq
      obtain ⟨g0, g1, g2, g3, g4, g5⟩ := hq.1.cells
      go_simp
      with_reducible rfl
    simp only [Act.put, List.setIfInBounds_toArray, List.set_cons_zero, List.set_cons_succ]
    refine takeL 6 (some 61) (v := ?_) rfl (by kernel_rfl) (by kernel_rfl) (by kernel_rfl) (by kernel_rfl) (fun _ _ _ h => h) rfl rfl HS0.out ?_ ?_
    rotate_left
    · intro wq hq
      obtain ⟨g0, g1, g2, g3, g4, g5⟩ := hq.1.cells
      go_simp
      with_reducible rfl
    simp only [Act.put, List.setIfInBounds_toArray, List.set_cons_zero, List.set_cons_succ]
    refine takeL 7 (some 62) (v := ?_) rfl (by kernel_rfl) (by kernel_rfl) (by kernel_rfl) (by kernel_rfl) (fun _ _ _ h => h) rfl rfl HS0.out ?_ ?_
    rotate_left
    · intro wq hq
      obtain ⟨g0, g1, g2, g3, g4, g5⟩ := hq.1.cells
      go_simp
      with_reducible rfl
    simp only [Act.put, List.setIfInBounds_toArray, List.set_cons_zero, List.set_cons_succ]
    refine takeL 8 (some 63) (v := ?_) rfl (by kernel_rfl) (by kernel_rfl) (by kernel_rfl) (by kernel_rfl) (fun _ _ _ h => h) rfl rfl HS0.out ?_ ?_
    rotate_left
    · intro wq hq
      obtain ⟨g0, g1, g2, g3, g4, g5⟩ := hq.1.cells
      go_simp
      with_reducible rfl
    simp only [Act.put, List.setIfInBounds_toArray, List.set_cons_zero, List.set_cons_succ]
    refine takeL 9 (some 64) (v := ?_) rfl (by kernel_rfl) (by kernel_rfl) (by kernel_rfl) (by kernel_rfl) (fun _ _ _ h => h) rfl rfl HS0.out ?_ ?_
    rotate_left
    · intro wq hq
      obtain ⟨g0, g1, g2, g3, g4, g5⟩ := hq.1.cells
      go_simp
      with_reducible rfl
    simp only [Act.put, List.setIfInBounds_toArray, List.set_cons_zero, List.set_cons_succ]
    refine takeL 10 (some 65) (v := ?_) rfl (by kernel_rfl) (by kernel_rfl) (by kernel_rfl) (by kernel_rfl) (fun _ _ _ h => h) rfl rfl HS0.out ?_ ?_
    rotate_left
    · intro wq hq
      obtain ⟨g0, g1, g2, g3, g4, g5⟩ := hq.1.cells
      go_simp
      with_reducible rfl
    simp only [Act.put, List.setIfInBounds_toArray, List.set_cons_zero, List.set_cons_succ]
    refine oneL 5 (by kernel_rfl) rfl rfl ?_
    refine wp_enters' (some 60) (f := 26) (args := #[.pointer (some ⟨tb, 0, none⟩), .int .i64 x.i, .int .i64 x.n]) rfl ?_ (.int .i64 (openE L x.i x.n)) (fun W => (TIs W tb b (openL L x.i x.n) next ∧ RT B W qb L next) ∧ SBx W bb x om cm ∧ Below B w1 W) ?_ ?_
    · go_simp
    · exact (topen_any x.i x.n HIO.out w1.drew (HT.out.grow drew_below)).mono fun e w' ⟨h1, h2, h3⟩ => ⟨h1, ⟨h2, (HR.out.grow drew_below).two (Only2.of h3) (head_not (HT.out.grow drew_below))⟩, (show SBx w1.drew bb x om cm from HBX.out).only h3 (HT.out.grow drew_below), ((Below.refl B w1).drew).trans (h3.below HLB.out.2 HBZ.out)⟩
    rintro w5 ⟨⟨ht5, hr5⟩, hs5, hb5⟩
    have HT5 := Lib.hid ht5
    have HR5 := Lib.hid hr5
    have HS5 : Hid (SBx w5 bb x om cm ∧ Below B w1 w5) := Lib.hid ⟨hs5, hb5⟩
    clear ht5 hr5 hs5 hb5
    refine ⟨fun _ => HS5.out, ?_⟩
    simp only [Act.put, List.setIfInBounds_toArray, List.set_cons_zero, List.set_cons_succ]
    refine oneL 11 (by kernel_rfl) rfl rfl ?_
    refine wp_enters' (some 66) (f := 39) (args := #[.pointer (some ⟨qb, 0, none⟩), .int .i64 x.i, .int .i64 x.n]) rfl ?_ (.int .i64 (openE L x.i x.n)) (fun W => (TIs W tb b (openL L x.i x.n) next ∧ RT B W qb (openL L x.i x.n) next) ∧ SBx W bb x om cm ∧ Below B w1 W) ?_ ?_
    · go_simp
    · exact (ropen_any x.i x.n HT.out.good w5 HR5.out (Nat.le_trans HBZ.out HS5.out.2.size)).mono fun e w' ⟨h1, h2⟩ => ⟨h1, ⟨HT5.out.tch h2.tch, h2.rt⟩, HS5.out.1.tch h2.tch, HS5.out.2.trans h2.below⟩
    rintro w6 ⟨⟨ht6, hr6⟩, hs6, hb6⟩
    have HT6 := Lib.hid ht6
    have HR6 := Lib.hid hr6
    have HS6 : Hid (SBx w6 bb x om cm ∧ Below B w1 w6) := Lib.hid ⟨hs6, hb6⟩
    clear ht6 hr6 hs6 hb6
    refine ⟨fun _ => HS6.out, ?_⟩
    simp only [Act.put, List.setIfInBounds_toArray, List.set_cons_zero, List.set_cons_succ]
    have hee : (((openE L x.i x.n) : Int) == (openE L x.i x.n)) = true := beq_self_eq_true _
    refine oneL 12 (by kernel_rfl) rfl rfl (wp_runs (some 67) (v := .bool true) (w' := w6) rfl (by go_simp) ⟨fun _ => HS6.out, ?_⟩)
    simp only [Act.put, List.setIfInBounds_toArray, List.set_cons_zero, List.set_cons_succ]
    refine oneL 13 (by kernel_rfl) rfl rfl (wp_runs (some 6) (v := .bool true) (w' := w6) rfl (by go_simp) ⟨fun h => absurd rfl h, ?_⟩)
    simp only [Act.put, List.setIfInBounds_toArray, List.set_cons_zero, List.set_cons_succ]
    refine doneL (by kernel_rfl) ?_
    try simp only [Exit.then]
    go_wp2_with fail
    go_ret
    exact ⟨⟨_, rfl⟩, by rw [HLN.out]; exact ⟨HT6.out, HR6.out, HLB.out⟩, HB1.out.trans HS6.out.2⟩
  by_cases hk3 : x.k = 3
  · have HLN : Hid (stepL L x = writeL L x.i x.o x.n x.a) := Lib.hid (by unfold stepL; rw [if_neg hk1]; rw [if_neg hk2]; rw [if_pos hk3])
    rw [hk3] at c0
    clear hk0 hk1 hk2 hk3
    go_enter Try.func18, Try.ntmps18
    go_wp2_with fail
    clear c0 c1 c2 c3 c4 c5
    clear hw1 hbb
    have HS0 : Hid (SBx w1.drew bb x om cm ∧ Below B w1 w1.drew) := Lib.hid ⟨HBX.out, (Below.refl B w1).drew⟩
    refine regionL 21 22 (fun W => SBx W bb x om cm ∧ Below B w1 W) (by kernel_rfl) rfl ?_
    refine takeL 0 (some 70) (v := ?_) rfl (by kernel_rfl) (by kernel_rfl) (by kernel_rfl) (by kernel_rfl) (fun _ _ _ h => h) rfl rfl HS0.out ?_ ?_
    rotate_left
    · intro wq hq
      obtain ⟨g0, g1, g2, g3, g4, g5⟩ := hq.1.cells
      go_simp
      with_reducible rfl
    simp only [Act.put, List.setIfInBounds_toArray, List.set_cons_zero, List.set_cons_succ]
    refine takeL 1 (some 71) (v := ?_) rfl (by kernel_rfl) (by kernel_rfl) (by kernel_rfl) (by kernel_rfl) (fun _ _ _ h => h) rfl rfl HS0.out ?_ ?_
    rotate_left
    · intro wq hq
      obtain ⟨g0, g1, g2, g3, g4, g5⟩ := hq.1.cells
      go_simp
      with_reducible rfl
    simp only [Act.put, List.setIfInBounds_toArray, List.set_cons_zero, List.set_cons_succ]
    refine takeL 2 (some 72) (v := ?_) rfl (by kernel_rfl) (by kernel_rfl) (by kernel_rfl) (by kernel_rfl) (fun _ _ _ h => h) rfl rfl HS0.out ?_ ?_
    rotate_left
    · intro wq hq
      obtain ⟨g0, g1, g2, g3, g4, g5⟩ := hq.1.cells
      go_simp
      with_reducible rfl
    simp only [Act.put, List.setIfInBounds_toArray, List.set_cons_zero, List.set_cons_succ]
    refine takeL 3 (some 73) (v := ?_) rfl (by kernel_rfl) (by kernel_rfl) (by kernel_rfl) (by kernel_rfl) (fun _ _ _ h => h) rfl rfl HS0.out ?_ ?_
    rotate_left
    · intro wq hq
      obtain ⟨g0, g1, g2, g3, g4, g5⟩ := hq.1.cells
      go_simp
      with_reducible rfl
    simp only [Act.put, List.setIfInBounds_toArray, List.set_cons_zero, List.set_cons_succ]
    refine takeL 4 (some 74) (v := ?_) rfl (by kernel_rfl) (by kernel_rfl) (by kernel_rfl) (by kernel_rfl) (fun _ _ _ h => h) rfl rfl HS0.out ?_ ?_
    rotate_left
    · intro wq hq
      obtain ⟨g0, g1, g2, g3, g4, g5⟩ := hq.1.cells
      go_simp
      with_reducible rfl
    simp only [Act.put, List.setIfInBounds_toArray, List.set_cons_zero, List.set_cons_succ]
    refine takeL 5 (some 75) (v := ?_) rfl (by kernel_rfl) (by kernel_rfl) (by kernel_rfl) (by kernel_rfl) (fun _ _ _ h => h) rfl rfl HS0.out ?_ ?_
    rotate_left
    · intro wq hq
      obtain ⟨g0, g1, g2, g3, g4, g5⟩ := hq.1.cells
      go_simp
      with_reducible rfl
    simp only [Act.put, List.setIfInBounds_toArray, List.set_cons_zero, List.set_cons_succ]
    refine takeL 6 (some 76) (v := ?_) rfl (by kernel_rfl) (by kernel_rfl) (by kernel_rfl) (by kernel_rfl) (fun _ _ _ h => h) rfl rfl HS0.out ?_ ?_
    rotate_left
    · intro wq hq
      obtain ⟨g0, g1, g2, g3, g4, g5⟩ := hq.1.cells
      go_simp
      with_reducible rfl
    simp only [Act.put, List.setIfInBounds_toArray, List.set_cons_zero, List.set_cons_succ]
    refine takeL 7 (some 77) (v := ?_) rfl (by kernel_rfl) (by kernel_rfl) (by kernel_rfl) (by kernel_rfl) (fun _ _ _ h => h) rfl rfl HS0.out ?_ ?_
    rotate_left
    · intro wq hq
      obtain ⟨g0, g1, g2, g3, g4, g5⟩ := hq.1.cells
      go_simp
      with_reducible rfl
    simp only [Act.put, List.setIfInBounds_toArray, List.set_cons_zero, List.set_cons_succ]
    refine takeL 8 (some 78) (v := ?_) rfl (by kernel_rfl) (by kernel_rfl) (by kernel_rfl) (by kernel_rfl) (fun _ _ _ h => h) rfl rfl HS0.out ?_ ?_
    rotate_left
    · intro wq hq
      obtain ⟨g0, g1, g2, g3, g4, g5⟩ := hq.1.cells
      go_simp
      with_reducible rfl
    simp only [Act.put, List.setIfInBounds_toArray, List.set_cons_zero, List.set_cons_succ]
    refine takeL 10 (some 80) (v := ?_) rfl (by kernel_rfl) (by kernel_rfl) (by kernel_rfl) (by kernel_rfl) (fun _ _ _ h => h) rfl rfl HS0.out ?_ ?_
    rotate_left
    · intro wq hq
      obtain ⟨g0, g1, g2, g3, g4, g5⟩ := hq.1.cells
      go_simp
      with_reducible rfl
    simp only [Act.put, List.setIfInBounds_toArray, List.set_cons_zero, List.set_cons_succ]
    refine takeL 11 (some 81) (v := ?_) rfl (by kernel_rfl) (by kernel_rfl) (by kernel_rfl) (by kernel_rfl) (fun _ _ _ h => h) rfl rfl HS0.out ?_ ?_
    rotate_left
    · intro wq hq
      obtain ⟨g0, g1, g2, g3, g4, g5⟩ := hq.1.cells
      go_simp
      with_reducible rfl
    simp only [Act.put, List.setIfInBounds_toArray, List.set_cons_zero, List.set_cons_succ]
    refine takeL 12 (some 82) (v := ?_) rfl (by kernel_rfl) (by kernel_rfl) (by kernel_rfl) (by kernel_rfl) (fun _ _ _ h => h) rfl rfl HS0.out ?_ ?_
    rotate_left
    · intro wq hq
      obtain ⟨g0, g1, g2, g3, g4, g5⟩ := hq.1.cells
      go_simp
      with_reducible rfl
    simp only [Act.put, List.setIfInBounds_toArray, List.set_cons_zero, List.set_cons_succ]
    refine takeL 13 (some 83) (v := ?_) rfl (by kernel_rfl) (by kernel_rfl) (by kernel_rfl) (by kernel_rfl) (fun _ _ _ h => h) rfl rfl HS0.out ?_ ?_
    rotate_left
    · intro wq hq
      obtain ⟨g0, g1, g2, g3, g4, g5⟩ := hq.1.cells
      go_simp
      with_reducible rfl
    simp only [Act.put, List.setIfInBounds_toArray, List.set_cons_zero, List.set_cons_succ]
    refine takeL 14 (some 84) (v := ?_) rfl (by kernel_rfl) (by kernel_rfl) (by kernel_rfl) (by kernel_rfl) (fun _ _ _ h => h) rfl rfl HS0.out ?_ ?_
    rotate_left
    · intro wq hq
      obtain ⟨g0, g1, g2, g3, g4, g5⟩ := hq.1.cells
      go_simp
      with_reducible rfl
    simp only [Act.put, List.setIfInBounds_toArray, List.set_cons_zero, List.set_cons_succ]
    refine takeL 15 (some 85) (v := ?_) rfl (by kernel_rfl) (by kernel_rfl) (by kernel_rfl) (by kernel_rfl) (fun _ _ _ h => h) rfl rfl HS0.out ?_ ?_
    rotate_left
    · intro wq hq
      obtain ⟨g0, g1, g2, g3, g4, g5⟩ := hq.1.cells
      go_simp
      with_reducible rfl
    simp only [Act.put, List.setIfInBounds_toArray, List.set_cons_zero, List.set_cons_succ]
    refine takeL 16 (some 86) (v := ?_) rfl (by kernel_rfl) (by kernel_rfl) (by kernel_rfl) (by kernel_rfl) (fun _ _ _ h => h) rfl rfl HS0.out ?_ ?_
    rotate_left
    · intro wq hq
      obtain ⟨g0, g1, g2, g3, g4, g5⟩ := hq.1.cells
      go_simp
      with_reducible rfl
    simp only [Act.put, List.setIfInBounds_toArray, List.set_cons_zero, List.set_cons_succ]
    refine takeL 17 (some 87) (v := ?_) rfl (by kernel_rfl) (by kernel_rfl) (by kernel_rfl) (by kernel_rfl) (fun _ _ _ h => h) rfl rfl HS0.out ?_ ?_
    rotate_left
    · intro wq hq
      obtain ⟨g0, g1, g2, g3, g4, g5⟩ := hq.1.cells
      go_simp
      with_reducible rfl
    simp only [Act.put, List.setIfInBounds_toArray, List.set_cons_zero, List.set_cons_succ]
    refine takeL 18 (some 88) (v := ?_) rfl (by kernel_rfl) (by kernel_rfl) (by kernel_rfl) (by kernel_rfl) (fun _ _ _ h => h) rfl rfl HS0.out ?_ ?_
    rotate_left
    · intro wq hq
      obtain ⟨g0, g1, g2, g3, g4, g5⟩ := hq.1.cells
      go_simp
      with_reducible rfl
    simp only [Act.put, List.setIfInBounds_toArray, List.set_cons_zero, List.set_cons_succ]
    refine oneL 9 (by kernel_rfl) rfl rfl ?_
    refine wp_enters' (some 79) (f := 10) (args := #[.pointer (some ⟨tb, 0, none⟩), .int .i64 x.i, .int .i64 x.o, .int .i64 x.n, .int .i64 x.a]) rfl ?_ (.int .i64 (writeE L x.i x.o x.n x.a)) (fun W => (TIs W tb b (writeL L x.i x.o x.n x.a) next ∧ RT B W qb L next) ∧ SBx W bb x om cm ∧ Below B w1 W) ?_ ?_
    · go_simp
    · exact (write_any x.i x.o x.n x.a HIO.out w1.drew (HT.out.grow drew_below)).mono fun e w' ⟨h1, h2, h3⟩ => ⟨h1, ⟨h2, (HR.out.grow drew_below).two (Only2.of h3) (head_not (HT.out.grow drew_below))⟩, (show SBx w1.drew bb x om cm from HBX.out).only h3 (HT.out.grow drew_below), ((Below.refl B w1).drew).trans (h3.below HLB.out.2 HBZ.out)⟩
    rintro w5 ⟨⟨ht5, hr5⟩, hs5, hb5⟩
    have HT5 := Lib.hid ht5
    have HR5 := Lib.hid hr5
    have HS5 : Hid (SBx w5 bb x om cm ∧ Below B w1 w5) := Lib.hid ⟨hs5, hb5⟩
    clear ht5 hr5 hs5 hb5
    refine ⟨fun _ => HS5.out, ?_⟩
    simp only [Act.put, List.setIfInBounds_toArray, List.set_cons_zero, List.set_cons_succ]
    refine oneL 19 (by kernel_rfl) rfl rfl ?_
    refine wp_enters' (some 89) (f := 40) (args := #[.pointer (some ⟨qb, 0, none⟩), .int .i64 x.i, .int .i64 x.o, .int .i64 x.n, .int .i64 x.a]) rfl ?_ (.int .i64 (writeE L x.i x.o x.n x.a)) (fun W => (TIs W tb b (writeL L x.i x.o x.n x.a) next ∧ RT B W qb (writeL L x.i x.o x.n x.a) next) ∧ SBx W bb x om cm ∧ Below B w1 W) ?_ ?_
    · go_simp
    · exact (rwrite_any x.i x.o x.n x.a HT.out.good w5 HR5.out (Nat.le_trans HBZ.out HS5.out.2.size)).mono fun e w' ⟨h1, h2⟩ => ⟨h1, ⟨HT5.out.tch h2.tch, h2.rt⟩, HS5.out.1.tch h2.tch, HS5.out.2.trans h2.below⟩
    rintro w6 ⟨⟨ht6, hr6⟩, hs6, hb6⟩
    have HT6 := Lib.hid ht6
    have HR6 := Lib.hid hr6
    have HS6 : Hid (SBx w6 bb x om cm ∧ Below B w1 w6) := Lib.hid ⟨hs6, hb6⟩
    clear ht6 hr6 hs6 hb6
    refine ⟨fun _ => HS6.out, ?_⟩
    simp only [Act.put, List.setIfInBounds_toArray, List.set_cons_zero, List.set_cons_succ]
    have hee : (((writeE L x.i x.o x.n x.a) : Int) == (writeE L x.i x.o x.n x.a)) = true := beq_self_eq_true _
    refine oneL 20 (by kernel_rfl) rfl rfl (wp_runs (some 90) (v := .bool true) (w' := w6) rfl (by go_simp) ⟨fun _ => HS6.out, ?_⟩)
    simp only [Act.put, List.setIfInBounds_toArray, List.set_cons_zero, List.set_cons_succ]
    refine oneL 21 (by kernel_rfl) rfl rfl (wp_runs (some 6) (v := .bool true) (w' := w6) rfl (by go_simp) ⟨fun h => absurd rfl h, ?_⟩)
    simp only [Act.put, List.setIfInBounds_toArray, List.set_cons_zero, List.set_cons_succ]
    refine doneL (by kernel_rfl) ?_
    try simp only [Exit.then]
    go_wp2_with fail
    go_ret
    exact ⟨⟨_, rfl⟩, by rw [HLN.out]; exact ⟨HT6.out, HR6.out, HLB.out⟩, HB1.out.trans HS6.out.2⟩
  by_cases hk4 : x.k = 4
  · have HLN : Hid (stepL L x = truncL L x.i x.n) := Lib.hid (by unfold stepL; rw [if_neg hk1]; rw [if_neg hk2]; rw [if_neg hk3]; rw [if_pos hk4])
    rw [hk4] at c0
    clear hk0 hk1 hk2 hk3 hk4
    go_enter Try.func18, Try.ntmps18
    go_wp2_with fail
    clear c0 c1 c2 c3 c4 c5
    clear hw1 hbb
    have HS0 : Hid (SBx w1.drew bb x om cm ∧ Below B w1 w1.drew) := Lib.hid ⟨HBX.out, (Below.refl B w1).drew⟩
    refine regionL 13 14 (fun W => SBx W bb x om cm ∧ Below B w1 W) (by kernel_rfl) rfl ?_
    refine takeL 0 (some 93) (v := ?_) rfl (by kernel_rfl) (by kernel_rfl) (by kernel_rfl) (by kernel_rfl) (fun _ _ _ h => h) rfl rfl HS0.out ?_ ?_
    rotate_left
    · intro wq hq
      obtain ⟨g0, g1, g2, g3, g4, g5⟩ := hq.1.cells
      go_simp
      with_reducible rfl
    simp only [Act.put, List.setIfInBounds_toArray, List.set_cons_zero, List.set_cons_succ]
    refine takeL 1 (some 94) (v := ?_) rfl (by kernel_rfl) (by kernel_rfl) (by kernel_rfl) (by kernel_rfl) (fun _ _ _ h => h) rfl rfl HS0.out ?_ ?_
    rotate_left
    · intro wq hq
      obtain ⟨g0, g1, g2, g3, g4, g5⟩ := hq.1.cells
      go_simp
      with_reducible rfl
    simp only [Act.put, List.setIfInBounds_toArray, List.set_cons_zero, List.set_cons_succ]
    refine takeL 2 (some 95) (v := ?_) rfl (by kernel_rfl) (by kernel_rfl) (by kernel_rfl) (by kernel_rfl) (fun _ _ _ h => h) rfl rfl HS0.out ?_ ?_
    rotate_left
    · intro wq hq
      obtain ⟨g0, g1, g2, g3, g4, g5⟩ := hq.1.cells
      go_simp
      with_reducible rfl
    simp only [Act.put, List.setIfInBounds_toArray, List.set_cons_zero, List.set_cons_succ]
    refine takeL 3 (some 96) (v := ?_) rfl (by kernel_rfl) (by kernel_rfl) (by kernel_rfl) (by kernel_rfl) (fun _ _ _ h => h) rfl rfl HS0.out ?_ ?_
    rotate_left
    · intro wq hq
      obtain ⟨g0, g1, g2, g3, g4, g5⟩ := hq.1.cells
      go_simp
      with_reducible rfl
    simp only [Act.put, List.setIfInBounds_toArray, List.set_cons_zero, List.set_cons_succ]
    refine takeL 4 (some 97) (v := ?_) rfl (by kernel_rfl) (by kernel_rfl) (by kernel_rfl) (by kernel_rfl) (fun _ _ _ h => h) rfl rfl HS0.out ?_ ?_
    rotate_left
    · intro wq hq
      obtain ⟨g0, g1, g2, g3, g4, g5⟩ := hq.1.cells
      go_simp
      with_reducible rfl
    simp only [Act.put, List.setIfInBounds_toArray, List.set_cons_zero, List.set_cons_succ]
    refine takeL 6 (some 99) (v := ?_) rfl (by kernel_rfl) (by kernel_rfl) (by kernel_rfl) (by kernel_rfl) (fun _ _ _ h => h) rfl rfl HS0.out ?_ ?_
    rotate_left
    · intro wq hq
      obtain ⟨g0, g1, g2, g3, g4, g5⟩ := hq.1.cells
      go_simp
      with_reducible rfl
    simp only [Act.put, List.setIfInBounds_toArray, List.set_cons_zero, List.set_cons_succ]
    refine takeL 7 (some 100) (v := ?_) rfl (by kernel_rfl) (by kernel_rfl) (by kernel_rfl) (by kernel_rfl) (fun _ _ _ h => h) rfl rfl HS0.out ?_ ?_
    rotate_left
    · intro wq hq
      obtain ⟨g0, g1, g2, g3, g4, g5⟩ := hq.1.cells
      go_simp
      with_reducible rfl
    simp only [Act.put, List.setIfInBounds_toArray, List.set_cons_zero, List.set_cons_succ]
    refine takeL 8 (some 101) (v := ?_) rfl (by kernel_rfl) (by kernel_rfl) (by kernel_rfl) (by kernel_rfl) (fun _ _ _ h => h) rfl rfl HS0.out ?_ ?_
    rotate_left
    · intro wq hq
      obtain ⟨g0, g1, g2, g3, g4, g5⟩ := hq.1.cells
      go_simp
      with_reducible rfl
    simp only [Act.put, List.setIfInBounds_toArray, List.set_cons_zero, List.set_cons_succ]
    refine takeL 9 (some 102) (v := ?_) rfl (by kernel_rfl) (by kernel_rfl) (by kernel_rfl) (by kernel_rfl) (fun _ _ _ h => h) rfl rfl HS0.out ?_ ?_
    rotate_left
    · intro wq hq
      obtain ⟨g0, g1, g2, g3, g4, g5⟩ := hq.1.cells
      go_simp
      with_reducible rfl
    simp only [Act.put, List.setIfInBounds_toArray, List.set_cons_zero, List.set_cons_succ]
    refine takeL 10 (some 103) (v := ?_) rfl (by kernel_rfl) (by kernel_rfl) (by kernel_rfl) (by kernel_rfl) (fun _ _ _ h => h) rfl rfl HS0.out ?_ ?_
    rotate_left
    · intro wq hq
      obtain ⟨g0, g1, g2, g3, g4, g5⟩ := hq.1.cells
      go_simp
      with_reducible rfl
    simp only [Act.put, List.setIfInBounds_toArray, List.set_cons_zero, List.set_cons_succ]
    refine oneL 5 (by kernel_rfl) rfl rfl ?_
    refine wp_enters' (some 98) (f := 12) (args := #[.pointer (some ⟨tb, 0, none⟩), .int .i64 x.i, .int .i64 x.n]) rfl ?_ (.int .i64 (truncE L x.i x.n)) (fun W => (TIs W tb b (truncL L x.i x.n) next ∧ RT B W qb L next) ∧ SBx W bb x om cm ∧ Below B w1 W) ?_ ?_
    · go_simp
    · exact (trunc_any x.i x.n HIO.out w1.drew (HT.out.grow drew_below)).mono fun e w' ⟨h1, h2, h3⟩ => ⟨h1, ⟨h2, (HR.out.grow drew_below).two (Only2.of h3) (head_not (HT.out.grow drew_below))⟩, (show SBx w1.drew bb x om cm from HBX.out).only h3 (HT.out.grow drew_below), ((Below.refl B w1).drew).trans (h3.below HLB.out.2 HBZ.out)⟩
    rintro w5 ⟨⟨ht5, hr5⟩, hs5, hb5⟩
    have HT5 := Lib.hid ht5
    have HR5 := Lib.hid hr5
    have HS5 : Hid (SBx w5 bb x om cm ∧ Below B w1 w5) := Lib.hid ⟨hs5, hb5⟩
    clear ht5 hr5 hs5 hb5
    refine ⟨fun _ => HS5.out, ?_⟩
    simp only [Act.put, List.setIfInBounds_toArray, List.set_cons_zero, List.set_cons_succ]
    refine oneL 11 (by kernel_rfl) rfl rfl ?_
    refine wp_enters' (some 104) (f := 41) (args := #[.pointer (some ⟨qb, 0, none⟩), .int .i64 x.i, .int .i64 x.n]) rfl ?_ (.int .i64 (truncE L x.i x.n)) (fun W => (TIs W tb b (truncL L x.i x.n) next ∧ RT B W qb (truncL L x.i x.n) next) ∧ SBx W bb x om cm ∧ Below B w1 W) ?_ ?_
    · go_simp
    · exact (rtrunc_any x.i x.n HWF.out.n HT.out.good w5 HR5.out (Nat.le_trans HBZ.out HS5.out.2.size)).mono fun e w' ⟨h1, h2⟩ => ⟨h1, ⟨HT5.out.tch h2.tch, h2.rt⟩, HS5.out.1.tch h2.tch, HS5.out.2.trans h2.below⟩
    rintro w6 ⟨⟨ht6, hr6⟩, hs6, hb6⟩
    have HT6 := Lib.hid ht6
    have HR6 := Lib.hid hr6
    have HS6 : Hid (SBx w6 bb x om cm ∧ Below B w1 w6) := Lib.hid ⟨hs6, hb6⟩
    clear ht6 hr6 hs6 hb6
    refine ⟨fun _ => HS6.out, ?_⟩
    simp only [Act.put, List.setIfInBounds_toArray, List.set_cons_zero, List.set_cons_succ]
    have hee : (((truncE L x.i x.n) : Int) == (truncE L x.i x.n)) = true := beq_self_eq_true _
    refine oneL 12 (by kernel_rfl) rfl rfl (wp_runs (some 105) (v := .bool true) (w' := w6) rfl (by go_simp) ⟨fun _ => HS6.out, ?_⟩)
    simp only [Act.put, List.setIfInBounds_toArray, List.set_cons_zero, List.set_cons_succ]
    refine oneL 13 (by kernel_rfl) rfl rfl (wp_runs (some 6) (v := .bool true) (w' := w6) rfl (by go_simp) ⟨fun h => absurd rfl h, ?_⟩)
    simp only [Act.put, List.setIfInBounds_toArray, List.set_cons_zero, List.set_cons_succ]
    refine doneL (by kernel_rfl) ?_
    try simp only [Exit.then]
    go_wp2_with fail
    go_ret
    exact ⟨⟨_, rfl⟩, by rw [HLN.out]; exact ⟨HT6.out, HR6.out, HLB.out⟩, HB1.out.trans HS6.out.2⟩
  by_cases hk5 : x.k = 5
  · have HLN : Hid (stepL L x = tmovL L x.i x.m x.a) := Lib.hid (by unfold stepL; rw [if_neg hk1]; rw [if_neg hk2]; rw [if_neg hk3]; rw [if_neg hk4]; rw [if_pos hk5])
    rw [hk5] at c0
    obtain ⟨i0, hi, hz0, hz1, hz2⟩ := info_parts mvinfoQ
    have HLQ : Hid ((x.m.flatMap encQ).length = x.m.length * 4) := Lib.hid (flat_len encQ_len _)
    have c5' := cell_step (below_alloc w1 (.cells #[] 91)) c5
    clear hk0 hk1 hk2 hk3 hk4 hk5
    go_enter Try.func18, Try.ntmps18
    go_wp2_with (at_builtin; go_loud (refine wpList_append_copy rfl _ _ 46 rfl 91 i0 (.agg #[.int .i64 0, .int .i64 0, .int .i64 0, .int .i64 0]) 4 32 Try.underlying46 hi hz0 hz1 hz2 rfl (by decide) (by rfl) om x.m.length cm (x.m.flatMap encQ) (by rfl) HNL.out HLQ.out (kat_news encQ_len (by omega) HMA.out) (flat_oneQ _) (by have := HML.out; unfold maxLen; omega) (by have := HML.out; omega) ?_; intro oi ci w2 hown2 hb2; have HOQ := Lib.hid hown2; have HB2 := Lib.hid hb2; clear hown2 hb2))
    have HT2 := Lib.hid (HT.out.grow HB2.out)
    have HR2 := Lib.hid (HR.out.grow HB2.out)
    have HBX2 : Hid (SBx w2 bb x om cm) := Lib.hid ((HB2.out.block bb (lt_of_block HBX.out)).trans HBX.out)
    have HB12 : Hid (Below B w1 w2) := Lib.hid (HB2.out.mono HBZ.out)
    have HBZ2 : Hid (B ≤ w2.heap.size) := Lib.hid (Nat.le_trans HBZ.out HB2.out.size)
    have HMA2 := Lib.hid (HMA.out.below HB12.out)
    have HKQ : Hid (KAt encQ 4 w2.heap.size oi x.m w2) := Lib.hid (RowK.pts (T := 91) encQ_len (by omega) HOQ.out)
    have HBT : Hid (Below B w w2) := Lib.hid (HB1.out.trans HB12.out)
    clear c0 c1 c2 c3 c4 c5 c5' hw1 hbb HT HR HBX HMA HBZ HB1 HB12 HB2 HOQ hi hz0 hz1 hz2
    have HS0 : Hid (SBx w2.drew bb x om cm ∧ Below B w2 w2.drew) := Lib.hid ⟨HBX2.out, (Below.refl B w2).drew⟩
    refine regionL 16 17 (fun W => SBx W bb x om cm ∧ Below B w2 W) (by kernel_rfl) rfl ?_
    refine takeL 0 (some 112) (v := ?_) rfl (by kernel_rfl) (by kernel_rfl) (by kernel_rfl) (by kernel_rfl) (fun _ _ _ h => h) rfl rfl HS0.out ?_ ?_
    rotate_left
    · intro wq hq
      obtain ⟨g0, g1, g2, g3, g4, g5⟩ := hq.1.cells
      go_simp
      with_reducible rfl
    simp only [Act.put, List.setIfInBounds_toArray, List.set_cons_zero, List.set_cons_succ]
    refine takeL 1 (some 113) (v := ?_) rfl (by kernel_rfl) (by kernel_rfl) (by kernel_rfl) (by kernel_rfl) (fun _ _ _ h => h) rfl rfl HS0.out ?_ ?_
    rotate_left
    · intro wq hq
      obtain ⟨g0, g1, g2, g3, g4, g5⟩ := hq.1.cells
      go_simp
      with_reducible rfl
    simp only [Act.put, List.setIfInBounds_toArray, List.set_cons_zero, List.set_cons_succ]
    refine takeL 2 (some 114) (v := ?_) rfl (by kernel_rfl) (by kernel_rfl) (by kernel_rfl) (by kernel_rfl) (fun _ _ _ h => h) rfl rfl HS0.out ?_ ?_
    rotate_left
    · intro wq hq
      obtain ⟨g0, g1, g2, g3, g4, g5⟩ := hq.1.cells
      go_simp
      with_reducible rfl
    simp only [Act.put, List.setIfInBounds_toArray, List.set_cons_zero, List.set_cons_succ]
    refine takeL 3 (some 115) (v := ?_) rfl (by kernel_rfl) (by kernel_rfl) (by kernel_rfl) (by kernel_rfl) (fun _ _ _ h => h) rfl rfl HS0.out ?_ ?_
    rotate_left
    · intro wq hq
      obtain ⟨g0, g1, g2, g3, g4, g5⟩ := hq.1.cells
      go_simp
      with_reducible rfl
    simp only [Act.put, List.setIfInBounds_toArray, List.set_cons_zero, List.set_cons_succ]
    refine takeL 4 (some 116) (v := ?_) rfl (by kernel_rfl) (by kernel_rfl) (by kernel_rfl) (by kernel_rfl) (fun _ _ _ h => h) rfl rfl HS0.out ?_ ?_
    rotate_left
    · intro wq hq
      obtain ⟨g0, g1, g2, g3, g4, g5⟩ := hq.1.cells
      go_simp
      with_reducible rfl
    simp only [Act.put, List.setIfInBounds_toArray, List.set_cons_zero, List.set_cons_succ]
    refine takeL 5 (some 117) (v := ?_) rfl (by kernel_rfl) (by kernel_rfl) (by kernel_rfl) (by kernel_rfl) (fun _ _ _ h => h) rfl rfl HS0.out ?_ ?_
    rotate_left
    · intro wq hq
      obtain ⟨g0, g1, g2, g3, g4, g5⟩ := hq.1.cells
      go_simp
      with_reducible rfl
    simp only [Act.put, List.setIfInBounds_toArray, List.set_cons_zero, List.set_cons_succ]
    refine takeL 7 (some 119) (v := ?_) rfl (by kernel_rfl) (by kernel_rfl) (by kernel_rfl) (by kernel_rfl) (fun _ _ _ h => h) rfl rfl HS0.out ?_ ?_
    rotate_left
    · intro wq hq
      obtain ⟨g0, g1, g2, g3, g4, g5⟩ := hq.1.cells
      go_simp
      with_reducible rfl
    simp only [Act.put, List.setIfInBounds_toArray, List.set_cons_zero, List.set_cons_succ]
    refine takeL 8 (some 120) (v := ?_) rfl (by kernel_rfl) (by kernel_rfl) (by kernel_rfl) (by kernel_rfl) (fun _ _ _ h => h) rfl rfl HS0.out ?_ ?_
    rotate_left
    · intro wq hq
      obtain ⟨g0, g1, g2, g3, g4, g5⟩ := hq.1.cells
      go_simp
      with_reducible rfl
    simp only [Act.put, List.setIfInBounds_toArray, List.set_cons_zero, List.set_cons_succ]
    refine takeL 9 (some 121) (v := ?_) rfl (by kernel_rfl) (by kernel_rfl) (by kernel_rfl) (by kernel_rfl) (fun _ _ _ h => h) rfl rfl HS0.out ?_ ?_
    rotate_left
    · intro wq hq
      obtain ⟨g0, g1, g2, g3, g4, g5⟩ := hq.1.cells
      go_simp
      with_reducible rfl
    simp only [Act.put, List.setIfInBounds_toArray, List.set_cons_zero, List.set_cons_succ]
    refine takeL 10 (some 122) (v := ?_) rfl (by kernel_rfl) (by kernel_rfl) (by kernel_rfl) (by kernel_rfl) (fun _ _ _ h => h) rfl rfl HS0.out ?_ ?_
    rotate_left
    · intro wq hq
      obtain ⟨g0, g1, g2, g3, g4, g5⟩ := hq.1.cells
      go_simp
      with_reducible rfl
    simp only [Act.put, List.setIfInBounds_toArray, List.set_cons_zero, List.set_cons_succ]
    refine takeL 11 (some 123) (v := ?_) rfl (by kernel_rfl) (by kernel_rfl) (by kernel_rfl) (by kernel_rfl) (fun _ _ _ h => h) rfl rfl HS0.out ?_ ?_
    rotate_left
    · intro wq hq
      obtain ⟨g0, g1, g2, g3, g4, g5⟩ := hq.1.cells
      go_simp
      with_reducible rfl
    simp only [Act.put, List.setIfInBounds_toArray, List.set_cons_zero, List.set_cons_succ]
    refine takeL 12 (some 124) (v := ?_) rfl (by kernel_rfl) (by kernel_rfl) (by kernel_rfl) (by kernel_rfl) (fun _ _ _ h => h) rfl rfl HS0.out ?_ ?_
    rotate_left
    · intro wq hq
      obtain ⟨g0, g1, g2, g3, g4, g5⟩ := hq.1.cells
      go_simp
      with_reducible rfl
    simp only [Act.put, List.setIfInBounds_toArray, List.set_cons_zero, List.set_cons_succ]
    refine takeL 13 (some 125) (v := ?_) rfl (by kernel_rfl) (by kernel_rfl) (by kernel_rfl) (by kernel_rfl) (fun _ _ _ h => h) rfl rfl HS0.out ?_ ?_
    rotate_left
    · intro wq hq
      obtain ⟨g0, g1, g2, g3, g4, g5⟩ := hq.1.cells
      go_simp
      with_reducible rfl
    simp only [Act.put, List.setIfInBounds_toArray, List.set_cons_zero, List.set_cons_succ]
    refine oneL 6 (by kernel_rfl) rfl rfl ?_
    refine wp_enters' (some 118) (f := 27) (args := #[.pointer (some ⟨tb, 0, none⟩), .int .i64 x.i, .slice oi x.m.length ci, .int .i64 x.a]) rfl ?_ (.int .i64 (tmovE L x.i x.m x.a)) (fun W => (TIs W tb b (tmovL L x.i x.m x.a) next ∧ RT B W qb L next) ∧ SBx W bb x om cm ∧ Below B w2 W) ?_ ?_
    · go_simp
    · exact (tmove_any x.i x.a HIO.out x.m (fun m hm => (HWF.out.m m hm).2.1) (by have := HML.out; omega) oi ci w2.drew (HT2.out.grow drew_below) (HKQ.out.grow drew_below)).mono fun e w' ⟨h1, h2, h3⟩ => ⟨h1, ⟨h2, (HR2.out.grow drew_below).two (Only2.of h3) (head_not (HT2.out.grow drew_below))⟩, (show SBx w2.drew bb x om cm from HBX2.out).only h3 (HT2.out.grow drew_below), ((Below.refl B w2).drew).trans (h3.below HLB.out.2 HBZ2.out)⟩
    rintro w5 ⟨⟨ht5, hr5⟩, hs5, hb5⟩
    have HT5 := Lib.hid ht5
    have HR5 := Lib.hid hr5
    have HS5 : Hid (SBx w5 bb x om cm ∧ Below B w2 w5) := Lib.hid ⟨hs5, hb5⟩
    clear ht5 hr5 hs5 hb5
    refine ⟨fun _ => HS5.out, ?_⟩
    simp only [Act.put, List.setIfInBounds_toArray, List.set_cons_zero, List.set_cons_succ]
    refine oneL 14 (by kernel_rfl) rfl rfl ?_
    refine wp_enters' (some 126) (f := 42) (args := #[.pointer (some ⟨qb, 0, none⟩), .int .i64 x.i, .slice om x.m.length cm, .int .i64 x.a]) rfl ?_ (.int .i64 (tmovE L x.i x.m x.a)) (fun W => (TIs W tb b (tmovL L x.i x.m x.a) next ∧ RT B W qb (tmovL L x.i x.m x.a) next) ∧ SBx W bb x om cm ∧ Below B w2 W) ?_ ?_
    · go_simp
    · exact (rmove_t x.i x.a x.m (by have := HML.out; omega) om cm HT2.out.good w5 HR5.out (Nat.le_trans HBZ2.out HS5.out.2.size) ((HMA2.out.below HS5.out.2).mono (Nat.le_trans HBZ2.out HS5.out.2.size))).mono fun e w' ⟨h1, h2⟩ => ⟨h1, ⟨HT5.out.tch h2.tch, h2.rt⟩, HS5.out.1.tch h2.tch, HS5.out.2.trans h2.below⟩
    rintro w6 ⟨⟨ht6, hr6⟩, hs6, hb6⟩
    have HT6 := Lib.hid ht6
    have HR6 := Lib.hid hr6
    have HS6 : Hid (SBx w6 bb x om cm ∧ Below B w2 w6) := Lib.hid ⟨hs6, hb6⟩
    clear ht6 hr6 hs6 hb6
    refine ⟨fun _ => HS6.out, ?_⟩
    simp only [Act.put, List.setIfInBounds_toArray, List.set_cons_zero, List.set_cons_succ]
    have hee : (((tmovE L x.i x.m x.a) : Int) == (tmovE L x.i x.m x.a)) = true := beq_self_eq_true _
    refine oneL 15 (by kernel_rfl) rfl rfl (wp_runs (some 127) (v := .bool true) (w' := w6) rfl (by go_simp) ⟨fun _ => HS6.out, ?_⟩)
    simp only [Act.put, List.setIfInBounds_toArray, List.set_cons_zero, List.set_cons_succ]
    refine oneL 16 (by kernel_rfl) rfl rfl (wp_runs (some 6) (v := .bool true) (w' := w6) rfl (by go_simp) ⟨fun h => absurd rfl h, ?_⟩)
    simp only [Act.put, List.setIfInBounds_toArray, List.set_cons_zero, List.set_cons_succ]
    refine doneL (by kernel_rfl) ?_
    try simp only [Exit.then]
    go_wp2_with fail
    go_ret
    exact ⟨⟨_, rfl⟩, by rw [HLN.out]; exact ⟨HT6.out, HR6.out, HLB.out⟩, HBT.out.trans HS6.out.2⟩
  have HLN : Hid (stepL L x = L) := Lib.hid (by unfold stepL; rw [if_neg hk1]; rw [if_neg hk2]; rw [if_neg hk3]; rw [if_neg hk4]; rw [if_neg hk5])
  have e0 : (x.k == 0) = false := beq_eq_false_iff_ne.2 hk0
  have e1 : (x.k == 1) = false := beq_eq_false_iff_ne.2 hk1
  have e2 : (x.k == 2) = false := beq_eq_false_iff_ne.2 hk2
  have e3 : (x.k == 3) = false := beq_eq_false_iff_ne.2 hk3
  have e4 : (x.k == 4) = false := beq_eq_false_iff_ne.2 hk4
  have e5 : (x.k == 5) = false := beq_eq_false_iff_ne.2 hk5
  clear hk0 hk1 hk2 hk3 hk4 hk5
  go_enter Try.func18, Try.ntmps18
  go_wp2_with fail
  go_ret
  exact ⟨⟨_, rfl⟩, by rw [HLN.out]; exact ⟨HT.out, HR.out, HLB.out⟩, HB1.out⟩
end Go.Proofs.Ytappgelpigoknaa.InoW

/- Which tables a run of calls makes: the root first, and of all others somebody holds. -/
namespace Go.Proofs.Ytappgelpigoknaa.InoP
set_option linter.unusedVariables false
open ExtW (Pt endL endS)
/-- the root first; all are held -/
structure BGood (L : List Ino) : Prop where
  held : ∀ x ∈ L, 1 ≤ x.l + x.o
  first : ∃ r M, L = r :: M ∧ r.i = 1 ∧ r.k = 1 ∧ r.l = 1
theorem good_root : BGood [root] := ⟨fun x hx => by rw [List.mem_singleton] at hx; subst hx; decide, root, [], rfl, rfl, rfl, rfl⟩
theorem BGood.upd {L : List Ino} (h : BGood L) {x : Ino} (hx : 1 ≤ x.l + x.o) (hi : x.i = 1 → x.k = 1 ∧ x.l = 1) : BGood (upd L x) := by
  obtain ⟨r, M, e, h1, h2, h3⟩ := h.first
  refine ⟨fun y hy => ?_, ?_⟩
  · obtain ⟨z, hz, rfl⟩ := List.mem_map.1 hy
    split
    · exact hx
    · exact h.held z hz
  · subst e
    unfold InoP.upd
    rw [List.map_cons]
    by_cases hr : r.i = x.i
    · rw [if_pos hr]
      obtain ⟨a, b⟩ := hi (by rw [← hr]; exact h1)
      exact ⟨x, _, rfl, by rw [← hr]; exact h1, a, b⟩
    · rw [if_neg hr]
      exact ⟨r, _, rfl, h1, h2, h3⟩
theorem BGood.del {L : List Ino} (h : BGood L) {i : Int} (hi : i ≠ 1) : BGood (del L i) := by
  obtain ⟨r, M, e, h1, h2, h3⟩ := h.first
  refine ⟨fun y hy => h.held y (List.mem_filter.1 hy).1, ?_⟩
  subst e
  unfold InoP.del
  rw [List.filter_cons_of_pos (by simp [h1]; omega)]
  exact ⟨r, _, rfl, h1, h2, h3⟩
theorem first_find {L : List Ino} (h : BGood L) {x : Ino} (hf : find L 1 = some x) : x.k = 1 ∧ x.l = 1 := by
  obtain ⟨r, M, e, h1, h2, h3⟩ := h.first
  subst e
  unfold find at hf
  rw [List.find?_cons, show decide (r.i = 1) = true from decide_eq_true h1] at hf
  injection hf with hf
  subst hf
  exact ⟨h2, h3⟩
theorem BGood.keep {L : List Ino} (h : BGood L) {x y : Ino} (hg : IGood y) (may : Bool) (hi : x.i ≠ 1) (hm : may = false → 1 ≤ x.l + x.o) (h0 : 0 ≤ x.l ∧ 0 ≤ x.o) : BGood (keepL L x may) := by
  unfold keepL
  split
  · exact h.del hi
  · rename_i hn
    refine h.upd ?_ (fun e => absurd e hi)
    cases may with
    | false => exact hm rfl
    | true =>
      have : ¬ x.l + x.o = 0 := fun e => hn ⟨rfl, e⟩
      omega
theorem BGood.link {L : List Ino} {next : Int} (h : BGood L) (hg : TGood L next) (i d : Int) : BGood (linkL L i d) := by
  unfold linkL
  cases hf : find L i with
  | none => exact h
  | some x =>
    show BGood (if linkE L i d = 0 then keepL L { x with l := x.l + d } (decide (d < 0)) else L)
    split
    · rename_i he
      obtain ⟨hx, hxi⟩ := find_mem hf
      have hxg := hg.all x hx
      have hok : (d = 1 ∨ d = -1) ∧ i ≠ 1 ∧ 0 ≤ x.l + d := by
        unfold linkE at he
        rw [hf] at he
        have he2 : (if (d = 1 ∨ d = -1) ∧ i ≠ 1 then if x.l + d < 0 ∨ 8 < x.l + d then (66 : Int) else 0 else 1) = 0 := he
        split at he2
        · rename_i h1
          split at he2
          · cases he2
          · exact ⟨h1.1, h1.2, by omega⟩
        · cases he2
      refine h.keep hxg _ (by show x.i ≠ 1; rw [hxi]; exact hok.2.1) (fun e => ?_) ⟨hok.2.2, hxg.o.1⟩
      have hd : ¬ d < 0 := of_decide_eq_false e
      have h1 := h.held x hx
      show 1 ≤ x.l + d + x.o
      omega
    · exact h
theorem BGood.open {L : List Ino} {next : Int} (h : BGood L) (hg : TGood L next) (i d : Int) : BGood (openL L i d) := by
  unfold openL
  cases hf : find L i with
  | none => exact h
  | some x =>
    show BGood (if openE L i d = 0 then keepL L { x with o := x.o + d } (decide (d < 0)) else L)
    split
    · rename_i he
      obtain ⟨hx, hxi⟩ := find_mem hf
      have hxg := hg.all x hx
      have hok : (d = 1 ∨ d = -1) ∧ x.k ≠ 1 ∧ 0 ≤ x.o + d := by
        unfold openE at he
        rw [hf] at he
        have he2 : (if d = 1 ∨ d = -1 then if x.k = 1 then (63 : Int) else if x.o + d < 0 ∨ 128 < x.o + d then 3 else 0 else 1) = 0 := he
        split at he2
        · rename_i h1
          split at he2
          · cases he2
          · rename_i h2
            split at he2
            · cases he2
            · exact ⟨h1, h2, by omega⟩
        · cases he2
      have hi1 : x.i ≠ 1 := fun e => hok.2.1 (first_find h (by rw [← e, hxi]; exact hf)).1
      refine h.keep hxg _ hi1 (fun e => ?_) ⟨hxg.l.1, hok.2.2⟩
      have hd : ¬ d < 0 := of_decide_eq_false e
      have h1 := h.held x hx
      show 1 ≤ x.l + (x.o + d)
      omega
    · exact h
theorem BGood.same {L : List Ino} (h : BGood L) {i : Int} {x y : Ino} (hf : find L i = some x) (h1 : y.i = x.i) (h2 : y.k = x.k) (h3 : y.l = x.l) (h4 : y.o = x.o) : BGood (InoP.upd L y) := by
  obtain ⟨hx, hxi⟩ := find_mem hf
  refine h.upd (by rw [h3, h4]; exact h.held x hx) (fun e => ?_)
  rw [h2, h3]
  exact first_find h (by rw [← e, h1, hxi]; exact hf)
theorem BGood.write {L : List Ino} (h : BGood L) (i off n a : Int) : BGood (writeL L i off n a) := by
  unfold writeL
  cases hf : find L i with
  | none => exact h
  | some x =>
    show BGood (if writeE L i off n a = 0 then InoP.upd L (writeX x off n a) else L)
    split
    · exact h.same hf rfl rfl rfl rfl
    · exact h
theorem BGood.trunc {L : List Ino} (h : BGood L) (i s : Int) : BGood (truncL L i s) := by
  unfold truncL
  cases hf : find L i with
  | none => exact h
  | some x =>
    show BGood (if truncE L i s = 0 then InoP.upd L (truncX x s) else L)
    split
    · exact h.same hf rfl rfl rfl rfl
    · exact h
theorem BGood.move {L : List Ino} (h : BGood L) (i : Int) (ms : List InoP.Mq) (tt : Int) : BGood (tmovL L i ms tt) := by
  unfold tmovL
  cases hf : find L i with
  | none => exact h
  | some x =>
    show BGood (if tmovE L i ms tt = 0 then InoP.upd L { x with p := (mvsP x.p ms tt).1 } else L)
    split
    · exact h.same hf rfl rfl rfl rfl
    · exact h
theorem BGood.step {L : List Ino} {next : Int} (h : BGood L) (hg : TGood L next) (x : InoW.Stq) : BGood (InoW.stepL L x) := by
  unfold InoW.stepL
  split
  · exact h.link hg _ _
  split
  · exact h.open hg _ _
  split
  · exact h.write _ _ _ _
  split
  · exact h.trunc _ _
  split
  · exact h.move _ _ _
  exact h
/-- a new one, and its first name -/
theorem BGood.made {L : List Ino} {next k : Int} (h : BGood L) (hg : TGood (L ++ [⟨next, k, 0, 0, 0, []⟩]) (next + 1)) (h2 : 2 ≤ next) : BGood (linkL (L ++ [⟨next, k, 0, 0, 0, []⟩]) next 1) := by
  have hf : find (L ++ [(⟨next, k, 0, 0, 0, []⟩ : Ino)]) next = some ⟨next, k, 0, 0, 0, []⟩ := find_of_mem hg.rises (x := ⟨next, k, 0, 0, 0, []⟩) (by simp)
  have he : linkE (L ++ [(⟨next, k, 0, 0, 0, []⟩ : Ino)]) next 1 = 0 := by
    unfold linkE
    rw [hf]
    show (if ((1 : Int) = 1 ∨ (1 : Int) = -1) ∧ next ≠ 1 then if (0 : Int) + 1 < 0 ∨ 8 < (0 : Int) + 1 then (66 : Int) else 0 else 1) = 0
    rw [if_pos ⟨.inl rfl, by omega⟩]; rfl
  have e : linkL (L ++ [(⟨next, k, 0, 0, 0, []⟩ : Ino)]) next 1 = InoP.upd (L ++ [⟨next, k, 0, 0, 0, []⟩]) ⟨next, k, 1, 0, 0, []⟩ := by
    unfold linkL
    rw [hf]
    show (if linkE (L ++ [(⟨next, k, 0, 0, 0, []⟩ : Ino)]) next 1 = 0 then keepL (L ++ [⟨next, k, 0, 0, 0, []⟩]) ⟨next, k, 0 + 1, 0, 0, []⟩ (decide ((1 : Int) < 0)) else _) = _
    rw [if_pos he]
    unfold keepL
    rw [if_neg (fun e => absurd e.1 (by decide))]
    rfl
  rw [e]
  obtain ⟨r, M, e1, h1, h2', h3⟩ := h.first
  refine ⟨fun y hy => ?_, ?_⟩
  · obtain ⟨z, hz, rfl⟩ := List.mem_map.1 hy
    split
    · show (1 : Int) ≤ 1 + 0; omega
    · rename_i hn
      rcases List.mem_append.1 hz with hz | hz
      · exact h.held z hz
      · rw [List.mem_singleton] at hz
        subst hz
        exact absurd rfl hn
  · subst e1
    unfold InoP.upd
    rw [List.cons_append, List.map_cons, if_neg (by show ¬ r.i = next; omega)]
    exact ⟨r, _, rfl, h1, h2', h3⟩
/-- what is dumped may be loaded -/
theorem BGood.load {L : List Ino} {next : Int} (h : BGood L) (hg : TGood L next) : LGood L next := by
  obtain ⟨r, M, e, h1, h2, h3⟩ := h.first
  refine ⟨hg.next, ⟨by rw [e]; simp, hg.len⟩, fun i hi x hx => ⟨?_, fun p hp hpx => ?_⟩, fun x hx => ?_⟩
  · have hm := List.mem_of_getElem? hx
    have g := hg.all x hm
    have nm := hg.num x hm
    have hh := h.held x hm
    refine ⟨nm.1, nm.2, g.kind, g.l, g.o, by omega, fun e => ?_, g.s, g.p, ?_⟩
    · obtain ⟨a, b, c⟩ := g.dir e
      exact ⟨a, b, by rw [c]; rfl⟩
    · unfold endS
      rw [if_pos g.p]; exact g.e
  · obtain ⟨h5, h6⟩ := List.getElem?_eq_some_iff.1 hpx
    obtain ⟨h7, h8⟩ := List.getElem?_eq_some_iff.1 hx
    have := List.pairwise_iff_getElem.1 hg.rises (i - 1) i h5 h7 (by omega)
    rw [h6, h8] at this
    exact this
  · rw [e] at hx
    simp only [List.getElem?_cons_zero, Option.some.injEq] at hx
    subst hx
    exact ⟨h1, h2, h3⟩
end Go.Proofs.Ytappgelpigoknaa.InoP

/- What is dumped lies in blocks of its own. -/
namespace Go.Proofs.Ytappgelpigoknaa.InoW
set_option maxRecDepth 100000
set_option linter.unusedVariables false
open Go.RowKit InoP ExtW
variable {tb b : Nat} {L : List Ino} {next : Int}
/-- a block of so many parts, of one's own -/
def PBlk (B : Nat) (w : World) (oa : Option Addr) (n : Nat) : Prop := (oa = none → n = 0) ∧ ∀ a, oa = some a → ∃ g cs, a = ⟨g, 0, none⟩ ∧ B ≤ g ∧ w.heap[g]? = some (.cells cs 40 (0, 0)) ∧ n * 4 ≤ cs.size
theorem PBlk.mono {B C : Nat} {w : World} {oa : Option Addr} {n : Nat} (h : PBlk B w oa n) (hb : C ≤ B) : PBlk C w oa n := ⟨h.1, fun a ha => by obtain ⟨g, cs, h1, h2, h3, h4⟩ := h.2 a ha; exact ⟨g, cs, h1, by omega, h3, h4⟩⟩
theorem PBlk.grow {B : Nat} {w w' : World} {oa : Option Addr} {n : Nat} (h : PBlk B w oa n) (k : Below w.heap.size w w') : PBlk B w' oa n := ⟨h.1, fun a ha => by obtain ⟨g, cs, h1, h2, h3, h4⟩ := h.2 a ha; exact ⟨g, cs, h1, h2, (k.block g (lt_of_block h3)).trans h3, h4⟩⟩
theorem PBlk.grown {B : Nat} {w w' : World} {r : Option Nat} {oa : Option Addr} {n C : Nat} (h : PBlk B w oa n) (k : w.grownBy w' r) (hr : ∀ g, r = some g → C ≤ g ∧ ∃ cs, w.heap[g]? = some (.cells cs 62 (0, 0))) : PBlk B w' oa n := ⟨h.1, fun a ha => by
  obtain ⟨g, cs, h1, h2, h3, h4⟩ := h.2 a ha
  refine ⟨g, cs, h1, h2, (k.block g (lt_of_block h3) (fun e => ?_)).trans h3, h4⟩
  obtain ⟨_, cs', h5⟩ := hr g e.symm
  rw [h3] at h5
  injection h5 with h5
  injection h5 with _ h5 _
  exact absurd h5 (by decide)⟩
theorem PBlk.row {B C n c : Nat} {w : World} {oa : Option Addr} {l : List Pt} (h : Row B w (.slice oa n c) l) (hC : C ≤ B) : PBlk C w oa n := by
  rcases h.2 with ⟨e, h0⟩ | ⟨g, cap', cur, e, h1, h2, h3, h4, h5, h6⟩
  · simp only [Value.slice.injEq] at e
    obtain ⟨rfl, rfl, rfl⟩ := e
    exact ⟨fun _ => rfl, fun a ha => by cases ha⟩
  · simp only [Value.slice.injEq] at e
    obtain ⟨rfl, rfl, rfl⟩ := e
    refine ⟨fun e => (by cases e), fun a ha => ?_⟩
    injection ha with ha
    subst ha
    refine ⟨g, cur, rfl, by omega, h2, ?_⟩
    have hl := congrArg List.length h6
    rw [List.length_take, cells_len] at hl
    have e2 : cur.toList.length = cur.size := by simp
    rw [e2] at hl
    have := Nat.min_le_right (l.length * 4) cur.size
    omega
def PBs (B : Nat) (w : World) (zs : List IV) : Prop := ∀ z ∈ zs, PBlk B w z.oa z.n
theorem PBs.nil (B : Nat) (w : World) : PBs B w [] := fun z hz => by simp at hz
theorem PBs.mono {B C : Nat} {w : World} {zs : List IV} (h : PBs B w zs) (hb : C ≤ B) : PBs C w zs := fun z hz => (h z hz).mono hb
theorem PBs.grow {B : Nat} {w w' : World} {zs : List IV} (h : PBs B w zs) (k : Below w.heap.size w w') : PBs B w' zs := fun z hz => (h z hz).grow k
theorem PBs.grown {B : Nat} {w w' : World} {r : Option Nat} {zs : List IV} {C : Nat} (h : PBs B w zs) (k : w.grownBy w' r) (hr : ∀ g, r = some g → C ≤ g ∧ ∃ cs, w.heap[g]? = some (.cells cs 62 (0, 0))) : PBs B w' zs := fun z hz => (h z hz).grown k hr
theorem PBs.snoc {B : Nat} {w : World} {zs : List IV} {z : IV} (h : PBs B w zs) (hz : PBlk B w z.oa z.n) : PBs B w (zs ++ [z]) := fun y hy => by
  rcases List.mem_append.1 hy with hy | hy
  · exact h y hy
  · rw [List.mem_singleton] at hy; subst hy; exact hz
set_option maxHeartbeats 3200000 in
theorem dumpb_any (W : World) (h : TIs W tb b L next) :
    Calls Try.prog 19 #[.pointer (some ⟨tb, 0, none⟩)] W fun e w' => ∃ oa' cap' zs, e = .returned (.slice oa' L.length cap') ∧ RowI 62 W.heap.size w' (.slice oa' L.length cap') L zs ∧ PBs W.heap.size w' zs ∧ Below W.heap.size W w' := by
  obtain ⟨i0, hi, hz0, hz1, hz2⟩ := info_parts ino_info
  have HT := Lib.hid h
  have HL := Lib.hid h.good.len
  clear h
  go_enter Try.func19, Try.ntmps19
  go_wp2_with (go_at_call 29; refine (all_any _ HT.out).mono ?_; rintro e w1 ⟨oa, cap, rfl, hown, hnil, hb1⟩; have HROW1 := Lib.hid (ints_row hown); have HB1 := Lib.hid hb1; clear hown hnil hb1)
  go_loopw [3, 10] (fun v i wr => ∃ (k : Nat) (zs : List IV), k ≤ L.length ∧ i = .int .i64 (k : Int) ∧ RowI 62 w1.heap.size wr v (L.take k) zs ∧ PBs w1.heap.size wr zs ∧ Below w1.heap.size w1 wr) (fun _ i _ => (L.length - intOf i).toNat)
  case atStart => exact ⟨0, [], by omega, rfl, RowI.nil _ _ _, PBs.nil _ _, Below.refl _ _⟩
  case round =>
    obtain ⟨k, zs, hk, rfl, hrow, hpb, hbel⟩ := hrel
    have HPBS := Lib.hid hpb
    clear hpb
    have hl64 := HL.out
    have HB := Lib.hid hbel
    have HZ : Hid (zs.length = k) := Lib.hid (by rw [hrow.read.1, List.length_take]; omega)
    obtain ⟨oz, cz, rfl, hcz, _, _⟩ := hrow.row.form
    have hzk := HZ.out
    rw [hzk] at hrow hcz ⊢
    have HRI := Lib.hid hrow
    have HROW := Lib.hid hrow.row
    clear hbel hrow hzk
    by_cases hlt : k < L.length
    · obtain ⟨x, hx⟩ : ∃ x, L[k]? = some x := ⟨_, List.getElem?_eq_getElem hlt⟩
      have hxm : x ∈ L := List.mem_of_getElem? hx
      have HTX := Lib.hid (take_snocI hx)
      have HTW := Lib.hid (HT.out.grow (bstep HB1.out HB.out))
      obtain ⟨a, rfl, _, hcc⟩ := RowK.pts encJ_len (by omega) (HROW1.out.grow HB.out) k x.i (by rw [List.getElem?_map, hx]; rfl)
      have c6 := hcc 0 _ rfl
      simp only [fieldOf, Nat.mul_one] at c6
      obtain ⟨n, g, o⟩ := HTW.out.op
      obtain ⟨y, hy, hr⟩ := o.yes x.i x (find_of_mem HT.out.good.rises hxm)
      obtain ⟨yi, yk, yl, yo, ys', ya, yn, yc⟩ := y
      obtain rfl : yn = x.p.length := hr.n
      have HR := Lib.hid hr.read
      have HM := Lib.hid o.m
      have HY := Lib.hid hy
      have HI : Hid (iOk x.i) := Lib.hid (iOk_of (by have := HT.out.good.num x hxm; have := HT.out.good.next; omega))
      have HPX : Hid (x.p.length ≤ 64) := Lib.hid (HT.out.good.all x hxm).p.1
      have h0 := HTW.out.m0.1
      have HPB : Hid (PtsAt (wr.alloc (.cells #[.int .i64 yi, .int .i64 yk, .int .i64 yl, .int .i64 yo, .int .i64 ys', .slice ya x.p.length yc] 62)).heap.size ya x.p (wr.alloc (.cells #[.int .i64 yi, .int .i64 yk, .int .i64 yl, .int .i64 yo, .int .i64 ys', .slice ya x.p.length yc] 62))) := Lib.hid (hr.pts.grow (below_alloc wr _))
      clear hx hy hr hxm o hcc
      go_wp2_with (first
        | (at_lookup; go_loud (refine wpList_map_look_some _ rfl _ _ 69 62 false rfl iMK Try.underlying69 _ (ivZero _) b n g HM.out (by rfl) x.i HI.out (by rfl) _ HY.out (.agg #[.int .i64 yi, .int .i64 yk, .int .i64 yl, .int .i64 yo, .int .i64 ys', .slice ya x.p.length yc]) rfl ?_; simp only [Bool.false_eq_true, if_false]))
        | (have hz := HR2.out; clear hz; at_builtin; go_loud (refine wpList_append_newH rfl _ _ 53 rfl w1.heap.size 62 i0 (.agg #[.int .i64 0, .int .i64 0, .int .i64 0, .int .i64 0, .int .i64 0, .slice none 0 0]) 6 64 Try.underlying53 hi hz0 hz1 hz2 rfl (by decide) _ _ _ (by rfl) HOWN6.out _ 1 1 (by rfl) rfl (encI_one ⟨yi, yk, yl, yo, ys', oa2, x.p.length, cap2⟩) (by unfold maxLen; omega) (by omega) (by have := HB.out.size; have := HB6.out.size; omega) (by simp) ?_; intro oa5 cap5 w5 hown5 hbel5 hg5 hv5; have HV5 := Lib.hid hv5; have HS5 := Lib.hid hown5; have HB5 := Lib.hid hbel5; have HG5 := Lib.hid hg5; clear hown5 hbel5 hg5 hv5))
        | (go_at_call 36; go_loud (refine (clone_any ya yc _ x.p rfl (by have := HPX.out; omega) HR.out.nil _ HPB.out).mono ?_; rintro e w2 ⟨oa2, cap2, rfl, hown2, hb2⟩; have HR2 := Lib.hid hown2; have HB2 := Lib.hid hb2; have hbx : IBox w2 wr.heap.size ⟨yi, yk, yl, yo, ys', ya, x.p.length, yc⟩ := new_kept hb2; obtain ⟨b0, b1, b2, b3, b4, b5⟩ := hbx.cells; have f5 := Lib.frozen_of_heap hbx 5; have HOWN6 := Lib.hid (own_after HROW.out HZ.out (bstep (below_alloc wr _) hb2) (.slice oa2 x.p.length cap2)); have HB6 := Lib.hid (set_after (bstep (below_alloc wr (.cells #[.int .i64 yi, .int .i64 yk, .int .i64 yl, .int .i64 yo, .int .i64 ys', .slice ya x.p.length yc] 62)) hb2) (.slice oa2 x.p.length cap2)); clear hown2 hb2 hbx)))
      have hr6 : Row (wr.alloc (.cells #[.int .i64 yi, .int .i64 yk, .int .i64 yl, .int .i64 yo, .int .i64 ys', .slice ya x.p.length yc] 62)).heap.size (w2.setCell ⟨wr.heap.size, 5, none⟩ (.slice oa2 x.p.length cap2)) (.slice oa2 x.p.length cap2) x.p :=
        ((Only.refl wr.heap.size w2).setCell 5 _).keepRow HR2.out (fun e => by
          have hq := (row_base HR2.out).1
          cases oa2 with
          | none => simp [Value.ownBlock] at e
          | some ad => have := (hq ad rfl).1; simp [Value.ownBlock] at e; simp at this; omega)
      have hr0 := HR.out
      have hyr : IRead (w2.setCell ⟨wr.heap.size, 5, none⟩ (.slice oa2 x.p.length cap2)) x ⟨yi, yk, yl, yo, ys', oa2, x.p.length, cap2⟩ := ⟨hr0.i, hr0.k, hr0.l, hr0.o, hr0.s, rfl, hr6.pts, (row_base hr6).2.2⟩
      have hfin := HRI.out.snoc HZ.out HB6.out hyr (fun _ a ha => by have := ((row_base hr6).1 a ha).1; simp at this; omega) rfl HS5.out HG5.out HV5.out
      rw [← HTX.out] at hfin
      have hpb5 : PBs w1.heap.size w5 (zs ++ [⟨yi, yk, yl, yo, ys', oa2, x.p.length, cap2⟩]) := PBs.snoc ((HPBS.out.grow HB6.out).grown HG5.out (row_own (show RowK 62 encI 6 w1.heap.size _ (.slice oz k cz) zs from by have hh := HOWN6.out; unfold RowK; rw [HZ.out]; exact hh))) ((PBlk.row hr6 (by have := HB.out.size; simp; omega)).grown HG5.out (row_own (show RowK 62 encI 6 w1.heap.size _ (.slice oz k cz) zs from by have hh := HOWN6.out; unfold RowK; rw [HZ.out]; exact hh)))
      exact ⟨⟨k + 1, _, by omega, by simp, hfin, hpb5, HB.out.trans ((HB6.out.mono HB.out.size).trans HB5.out)⟩, by simp [intOf]; omega⟩
    · obtain rfl : k = L.length := by omega
      rw [List.take_length] at HRI
      go_wp2_with fail
      go_ret
      have := HRI.out
      exact ⟨oz, cz, zs, rfl, ⟨this.row.mono HB1.out.size, this.read, this.far⟩, HPBS.out.mono HB1.out.size, HB1.out.trans (HB.out.mono HB1.out.size)⟩
end Go.Proofs.Ytappgelpigoknaa.InoW

/- Calls that are not too many. -/
namespace Go.Proofs.Ytappgelpigoknaa.InoW
set_option maxRecDepth 100000
set_option linter.unusedVariables false
open Go.RowKit InoP ExtW
def SaysF (e : Ending) (xs : List Stq) : Prop := ∃ c, e = .returned (.bool c) ∧ (c = true → (∀ x ∈ xs, x.m.length ≤ 30) ∧ xs.length ≤ 150)
set_option maxHeartbeats 800000 in
theorem fair_any (oa : Option Addr) (cap : Nat) (xs : List Stq) (ys : List IV) (hl : xs.length ≤ maxLen) (W : World) (h : SList W oa xs ys) :
    Calls Try.prog 15 #[.slice oa xs.length cap] W fun e w' => SaysF e xs ∧ W = w' := by
  have H := Lib.hid h
  have HL := Lib.hid hl
  clear h hl
  go_enter Try.func15, Try.ntmps15
  go_wp2_with fail
  go_loopw [3] (fun c wr => ∃ k : Nat, k ≤ xs.length ∧ c = .int .i64 (k : Int) ∧ (∀ x ∈ xs.take k, x.m.length ≤ 30) ∧ W = wr) (fun c _ => ((xs.length : Int) - intOf c).toNat)
  case atStart => exact ⟨0, by omega, rfl, fun x hx => by simp at hx, rfl⟩
  case round =>
    obtain ⟨k, hk, rfl, hsm, rfl⟩ := hrel
    have HS := Lib.hid hsm
    have hl := HL.out
    unfold maxLen at hl
    clear hsm
    by_cases hlt : k < xs.length
    · have hk1 : (k : Int) < (xs.length : Int) := by omega
      have hkb : (k : Int) < 9223372036854775807 := by omega
      have hk0 : ¬ (k : Int) < 0 := by omega
      obtain ⟨x, hx⟩ : ∃ x, xs[k]? = some x := ⟨_, List.getElem?_eq_getElem hlt⟩
      obtain ⟨y, hy⟩ : ∃ y, ys[k]? = some y := ⟨_, List.getElem?_eq_getElem (by rw [H.out.len]; exact hlt)⟩
      obtain ⟨a, rfl, _, _, _, _, _, _, c5⟩ := iv_at H.out.at_ hy
      have hr := H.out.read k x y hx hy
      rw [hr.len] at c5
      have HTK : Hid (xs.take (k + 1) = xs.take k ++ [x]) := Lib.hid (take_snocI hx)
      clear hx hy hr
      by_cases h30 : 30 < (x.m.length : Int)
      · go_wp2_with fail
        go_ret
        exact ⟨⟨_, rfl, fun e => by cases e⟩, rfl⟩
      · have h31 : x.m.length ≤ 30 := by omega
        have HN : Hid (∀ z ∈ xs.take (k + 1), z.m.length ≤ 30) := Lib.hid (fun z hz => by
          rw [HTK.out] at hz
          rcases List.mem_append.1 hz with hz | hz
          · exact HS.out z hz
          · rw [List.mem_singleton] at hz; subst hz; exact h31)
        clear hl
        go_wp2_with fail
        exact ⟨⟨k + 1, by omega, by simp, HN.out, trivial⟩, by simp [intOf]; omega⟩
    · obtain rfl : k = xs.length := by omega
      have HA : Hid (∀ x ∈ xs, x.m.length ≤ 30) := Lib.hid (by have h := HS.out; rw [List.take_length] at h; exact h)
      clear hlt hk hl
      go_wp2_with fail
      go_ret
      refine ⟨⟨_, rfl, fun e => ⟨HA.out, ?_⟩⟩, rfl⟩
      have := of_decide_eq_true e
      omega
theorem RT.mono {B C qb : Nat} {w : World} {L : List Ino} {next : Int} (h : RT B w qb L next) (hC : C ≤ B) : RT C w qb L next := by
  obtain ⟨oq, cq, zs, h1, h2, h3, h4⟩ := h.ex
  exact ⟨Nat.le_trans hC h.lt, oq, cq, zs, h1, h2.mono hC, h3, h4⟩
end Go.Proofs.Ytappgelpigoknaa.InoW

/- InodeBack. -/
namespace Go.Proofs.Ytappgelpigoknaa.InoW
set_option maxRecDepth 100000
set_option linter.unusedVariables false
open Go.RowKit InoP ExtW
theorem set_heap (w : World) (g o : Nat) (v : Value) (cs : Array Value) (T : TypeId) (h : w.heap[g]? = some (.cells cs T (0, 0))) : (w.setCell ⟨g, o, none⟩ v).heap[g]? = some (.cells (cs.setIfInBounds o v) T (0, 0)) := heap_setCell_same w g o _ _ _ h
/-- what stands while the dump is written over -/
structure InvD (zD : List IV) (wr : World) (g n i : Nat) (w : World) : Prop where
  row : ∃ cur, w.heap[g]? = some (.cells cur 62 (0, 0)) ∧ n * 6 ≤ cur.size ∧ ∀ j, i ≤ j → ∀ z, zD[j]? = some z → cur[j * 6 + 5]? = some (.slice z.oa z.n z.c)
  pb : PBs wr.heap.size w zD
  below : Below wr.heap.size wr w
  g : wr.heap.size ≤ g
theorem InvD.cell {zD : List IV} {wr w : World} {g n i j : Nat} {z : IV} (h : InvD zD wr g n i w) (hz : zD[j]? = some z) (hj : i ≤ j) : w.cell? ⟨g, j * 6 + 5, none⟩ = some (.slice z.oa z.n z.c) := by
  obtain ⟨cur, h1, _, h3⟩ := h.row
  rw [Lib.cell_of_heap h1]
  exact h3 j hj z hz
theorem InvD.cells {zD : List IV} {wr w : World} {g n i k : Nat} (h : InvD zD wr g n k w) (hi : i < n) : (∀ o, w.frozen? ⟨g, o, none⟩ = false) ∧ ∀ o, o < 6 → ∃ v, w.cell? ⟨g, i * 6 + o, none⟩ = some v := by
  obtain ⟨cur, h1, h2, _⟩ := h.row
  refine ⟨fun o => Lib.frozen_of_heap h1 o, fun o ho => ?_⟩
  rw [Lib.cell_of_heap h1]
  exact ⟨_, Array.getElem?_eq_getElem (by omega)⟩
theorem InvD.part {zD : List IV} {wr w : World} {g n i j k : Nat} {z : IV} (h : InvD zD wr g n i w) (hz : zD[j]? = some z) (hk : k < z.n) : ∃ gp, z.oa = some ⟨gp, 0, none⟩ ∧ wr.heap.size ≤ gp ∧ (∃ cs, w.heap[gp]? = some (.cells cs 40 (0, 0))) ∧ (∀ o, w.frozen? ⟨gp, o, none⟩ = false) ∧
    (∃ v, w.cell? ⟨gp, k * 4, none⟩ = some v) ∧ (∃ v, w.cell? ⟨gp, k * 4 + 1, none⟩ = some v) ∧ (∃ v, w.cell? ⟨gp, k * 4 + 2, none⟩ = some v) ∧ ∃ v, w.cell? ⟨gp, k * 4 + 3, none⟩ = some v := by
  obtain ⟨hn, hb⟩ := h.pb z (List.mem_of_getElem? hz)
  obtain ⟨a, ha⟩ : ∃ a, z.oa = some a := by
    cases e : z.oa with
    | none => have := hn e; omega
    | some a => exact ⟨a, rfl⟩
  obtain ⟨gp, cs, h1, h2, h3, h4⟩ := hb a ha
  subst h1
  refine ⟨gp, ha, h2, ⟨cs, h3⟩, fun o => Lib.frozen_of_heap h3 o, ?_, ?_, ?_, ?_⟩
  all_goals
    rw [Lib.cell_of_heap h3]
    exact ⟨_, Array.getElem?_eq_getElem (by omega)⟩
theorem PBs.set {B : Nat} {w : World} {zs : List IV} (h : PBs B w zs) (g o : Nat) (v : Value) : PBs B (w.setCell ⟨g, o, none⟩ v) zs := fun z hz => by
  obtain ⟨hn, hb⟩ := h z hz
  refine ⟨hn, fun a ha => ?_⟩
  obtain ⟨gp, cs, h1, h2, h3, h4⟩ := hb a ha
  by_cases e : g = gp
  · subst e
    exact ⟨g, _, h1, h2, set_heap w g o v cs _ h3, by simpa using h4⟩
  · exact ⟨gp, cs, h1, h2, (Below.heap_setCell w ⟨g, o, none⟩ v gp (fun e2 => e e2.symm)).trans h3, h4⟩
theorem PBlk.part {B n k : Nat} {w : World} {oa : Option Addr} (h : PBlk B w oa n) (hk : k < n) : ∃ gp, oa = some ⟨gp, 0, none⟩ ∧ B ≤ gp ∧ (∀ o, w.frozen? ⟨gp, o, none⟩ = false) ∧
    (∃ v, w.cell? ⟨gp, k * 4, none⟩ = some v) ∧ (∃ v, w.cell? ⟨gp, k * 4 + 1, none⟩ = some v) ∧ (∃ v, w.cell? ⟨gp, k * 4 + 2, none⟩ = some v) ∧ ∃ v, w.cell? ⟨gp, k * 4 + 3, none⟩ = some v := by
  obtain ⟨hn, hb⟩ := h
  obtain ⟨a, ha⟩ : ∃ a, oa = some a := by
    cases e : oa with
    | none => have := hn e; omega
    | some a => exact ⟨a, rfl⟩
  obtain ⟨gp, cs, h1, h2, h3, h4⟩ := hb a ha
  subst h1
  refine ⟨gp, ha, h2, fun o => Lib.frozen_of_heap h3 o, ?_, ?_, ?_, ?_⟩
  all_goals
    rw [Lib.cell_of_heap h3]
    exact ⟨_, Array.getElem?_eq_getElem (by omega)⟩
theorem PBlk.set {B n : Nat} {w : World} {oa : Option Addr} (h : PBlk B w oa n) (g o : Nat) (v : Value) : PBlk B (w.setCell ⟨g, o, none⟩ v) oa n :=
  PBs.set (zs := [⟨0, 0, 0, 0, 0, oa, n, 0⟩]) (fun z hz => by rw [List.mem_singleton] at hz; subst hz; exact h) g o v ⟨0, 0, 0, 0, 0, oa, n, 0⟩ (List.mem_singleton.2 rfl)
/-- a part written over -/
theorem InvD.setP {zD : List IV} {wr w : World} {g n i gp : Nat} (h : InvD zD wr g n i w) (hg : wr.heap.size ≤ gp ∧ ∃ cs, w.heap[gp]? = some (.cells cs 40 (0, 0))) (o : Nat) (v : Value) : InvD zD wr g n i (w.setCell ⟨gp, o, none⟩ v) ∧ (wr.heap.size ≤ gp ∧ ∃ cs, (w.setCell ⟨gp, o, none⟩ v).heap[gp]? = some (.cells cs 40 (0, 0))) := by
  obtain ⟨h0, cs, hc⟩ := hg
  obtain ⟨cur, h1, h2, h3⟩ := h.row
  have hne : g ≠ gp := by
    intro e
    subst e
    rw [h1] at hc
    injection hc with hc
    injection hc with _ hc _
    exact absurd hc (by decide)
  exact ⟨⟨⟨cur, (Below.heap_setCell w ⟨gp, o, none⟩ v g hne).trans h1, h2, h3⟩, h.pb.set gp o v, h.below.setCell (p := ⟨gp, o, none⟩) h0 v, h.g⟩, h0, _, set_heap w gp o v cs _ hc⟩
/-- an inode written over -/
theorem InvD.setR {zD : List IV} {wr w : World} {g n i : Nat} (h : InvD zD wr g n (i + 1) w) (o : Nat) (ho : o < 6) (v : Value) : InvD zD wr g n (i + 1) (w.setCell ⟨g, i * 6 + o, none⟩ v) := by
  obtain ⟨cur, h1, h2, h3⟩ := h.row
  refine ⟨⟨_, set_heap w g (i * 6 + o) v cur _ h1, by simpa using h2, fun j hj z hz => ?_⟩, h.pb.set g _ v, h.below.setCell (p := ⟨g, i * 6 + o, none⟩) h.g v, h.g⟩
  rw [Array.getElem?_setIfInBounds_ne (by omega)]
  exact h3 j hj z hz
theorem InvD.next {zD : List IV} {wr w : World} {g n i : Nat} (h : InvD zD wr g n i w) : InvD zD wr g n (i + 1) w := by
  obtain ⟨cur, h1, h2, h3⟩ := h.row
  exact ⟨⟨cur, h1, h2, fun j hj z hz => h3 j (by omega) z hz⟩, h.pb, h.below, h.g⟩
theorem inv_start {zD : List IV} {wr w4 wb : World} {n cD : Nat} {oD : Option Addr} (hs : wr.heap.size ≤ w4.heap.size) (hr : RowK 62 encI 6 wr.heap.size w4 (.slice oD n cD) zD) (hp : PBs wr.heap.size w4 zD) (h4 : Below wr.heap.size wr w4) (hb : Below w4.heap.size w4 wb) (hl : zD.length = n) (hn : 1 ≤ n) :
    ∃ g, oD = some ⟨g, 0, none⟩ ∧ wr.heap.size ≤ g ∧ InvD zD wr g n 0 wb := by
  rcases hr.2 with ⟨e, h0⟩ | ⟨g, cap', cur, e, h1, h2, h3, _, h5, h6⟩
  · omega
  · simp only [Value.slice.injEq] at e
    have hlen := congrArg List.length h6
    rw [List.length_take, flat_len encI_len] at hlen
    have e2 : cur.toList.length = cur.size := by simp
    rw [e2] at hlen
    have hsz : zD.length * 6 ≤ cur.size := by have := Nat.min_le_right (zD.length * 6) cur.size; omega
    refine ⟨g, e.1, h1, ⟨cur, (hb.block g (lt_of_block h2)).trans h2, by omega, fun j _ z hz => ?_⟩, hp.grow hb, h4.trans (hb.mono hs), h1⟩
    have hj := (List.getElem?_eq_some_iff.1 hz).1
    have e3 : (zD.flatMap encI)[j * 6 + 5]? = some (.slice z.oa z.n z.c) := by
      rw [flat_get encI_len (by omega), Nat.mul_comm j 6, Nat.mul_add_div (by omega), Nat.mul_add_mod]
      show (zD[j + 0]?).bind _ = _
      rw [Nat.add_zero, hz]; rfl
    rw [← h6, List.getElem?_take, if_pos (by omega)] at e3
    simpa using e3
set_option maxHeartbeats 12800000 in
theorem back_walk (oa : Option Addr) (cap : Nat) (xs : List Stq) (ys : List IV) (hl : xs.length ≤ maxLen) (hwf : ∀ x ∈ xs, SWf x) (W : World) (h : SList W oa xs ys) :
    Calls Try.prog 4 #[.slice oa xs.length cap] W fun e w' => e = .returned (.bool true) ∧ Below W.heap.size W w' := by
  have H := Lib.hid h
  have HL := Lib.hid hl
  have HWF := Lib.hid hwf
  clear h hl hwf
  go_enter Try.func4, Try.ntmps4
  go_wp2_with fail
  refine (new_any W).mono ?_
  rintro e w1 ⟨rfl, ht1, hb1⟩
  have HT1 := Lib.hid ht1
  have HB1 := Lib.hid hb1
  clear ht1 hb1
  go_wp2_with fail
  refine (rnew_any w1).mono ?_
  rintro e w2 ⟨rfl, hr2, hb2⟩
  have HB2 : Hid (Below W.heap.size W w2) := Lib.hid (HB1.out.trans (hb2.mono HB1.out.size))
  have HTW0 : Hid (Two W.heap.size w2 (W.heap.size + 1) W.heap.size (w1.heap.size + 1) [root] 2) := Lib.hid ⟨HT1.out.grow hb2, hr2.mono HB1.out.size, by omega, Nat.le_refl _⟩
  obtain ⟨tb, htb⟩ : ∃ tb, tb = W.heap.size + 1 := ⟨_, rfl⟩
  obtain ⟨qb, hqb⟩ : ∃ qb, qb = w1.heap.size + 1 := ⟨_, rfl⟩
  obtain ⟨b, hb⟩ : ∃ b, b = W.heap.size := ⟨_, rfl⟩
  have HTW : Hid (Two W.heap.size w2 tb b qb [root] 2) := Lib.hid (by rw [htb, hqb, hb]; exact HTW0.out)
  rw [← htb, ← hqb]
  clear hr2 hb2 HTW0 htb hqb hb HT1
  go_wp2_with fail
  refine (fair_any oa cap xs ys HL.out w2 (H.out.grow HB2.out)).mono ?_
  rintro e w3 ⟨⟨c, rfl, hc⟩, rfl⟩
  have HC := Lib.hid hc
  clear hc
  cases c with
  | false =>
    go_wp2_with fail
    refine (wakes_any w2).mono ?_
    rintro e w4 ⟨rfl, hb4⟩
    have HB4 := Lib.hid (bstep HB2.out hb4)
    clear hb4
    go_wp2_with fail
    go_ret
    exact ⟨rfl, HB4.out⟩
  | true =>
    have H30 := Lib.hid (HC.out rfl).1
    have H150 := Lib.hid (HC.out rfl).2
    clear HC
    go_wp2_with fail
    go_loopw [5] (fun c wr => ∃ (k : Nat) (L : List Ino) (next : Int), k ≤ xs.length ∧ c = .int .i64 (k : Int) ∧ Two W.heap.size wr tb b qb L next ∧ BGood L ∧ Below W.heap.size W wr) (fun c _ => ((xs.length : Int) - intOf c).toNat)
    case atStart => exact ⟨0, [root], 2, by omega, rfl, HTW.out, good_root, HB2.out⟩
    case round =>
      obtain ⟨k, L, next, hk, rfl, htw, hbg, hbel⟩ := hrel
      have HTW := Lib.hid htw
      have HBG := Lib.hid hbg
      have HBE := Lib.hid hbel
      clear htw hbg hbel
      by_cases hlt : k < xs.length
      · have hk1 : (k : Int) < (xs.length : Int) := by omega
        have hk2 : (k : Int) < 150 := by have := H150.out; omega
        have hk0 : ¬ (k : Int) < 0 := by omega
        obtain ⟨x, hx⟩ : ∃ x, xs[k]? = some x := ⟨_, List.getElem?_eq_getElem hlt⟩
        obtain ⟨y, hy⟩ : ∃ y, ys[k]? = some y := ⟨_, List.getElem?_eq_getElem (by rw [H.out.len]; exact hlt)⟩
        have hrd := H.out.read k x y hx hy
        obtain ⟨a, rfl, hab, c0, c1, c2, c3, c4, c5⟩ := iv_at (H.out.at_.below HBE.out) hy
        have HAB := Lib.hid hab
        clear hab
        rw [hrd.k] at c0
        rw [hrd.i] at c1
        rw [hrd.n] at c2
        rw [hrd.o] at c3
        rw [hrd.a] at c4
        rw [hrd.len] at c5
        have HSW := Lib.hid (HWF.out x (List.mem_of_getElem? hx))
        have HM3 := Lib.hid (H30.out x (List.mem_of_getElem? hx))
        have HKQ := Lib.hid (hrd.pts.below HBE.out)
        have HNQ : Hid (y.oa = none → x.m.length = 0 ∧ y.c = 0) := Lib.hid (fun e => by have := hrd.nil e; rw [hrd.len] at this; exact this)
        have HBZ : Hid (W.heap.size ≤ wr.heap.size) := Lib.hid HBE.out.size
        clear hx hy hrd
        by_cases hk0' : x.k = 0
        · rw [hk0'] at c0
          obtain ⟨E, hE⟩ : ∃ E, makeE L next x.n = E := ⟨_, rfl⟩
          have HMA := Lib.hid (make_any x.n wr HTW.out.t)
          by_cases hE0 : E = 0
          · subst hE0
            obtain ⟨_, hI, hL, hN⟩ := make_yes hE
            have hmk : (x.n = 1 ∨ x.n = 2) ∧ L.length < 64 ∧ next < 2147483647 := by
              unfold makeE at hE
              split at hE
              · rename_i h1
                split at hE
                · cases hE
                · exact ⟨h1, by omega, by omega⟩
              · cases hE
            have HMK := Lib.hid hmk
            have HN2 := Lib.hid HTW.out.t.good.next
            have HIO : Hid (iOk next) := Lib.hid (iOk_of (by have := HN2.out; omega))
            rw [hE, hI, hL, hN] at HMA
            clear hE hI hL hN hmk hk0'
            go_wp2_with fail
            refine HMA.out.mono ?_
            rintro e w4 ⟨rfl, ht4, ho4⟩
            have HT4 := Lib.hid ht4
            have HR4 := Lib.hid (HTW.out.r.two ho4 (head_not HTW.out.t))
            have HB4 : Hid (Below W.heap.size wr w4) := Lib.hid (ho4.below HTW.out.lt.1 HTW.out.lt.2 HBZ.out)
            clear ht4 ho4
            go_wp2_with fail
            refine (link_any next 1 HIO.out w4 HT4.out).mono ?_
            rintro e w5 ⟨rfl, ht5, ho5⟩
            have HT5 := Lib.hid ht5
            have HR5 := Lib.hid (HR4.out.two (Only2.of (c := tb) ho5) (head_not HT4.out))
            have HZ4 : Hid (W.heap.size ≤ w4.heap.size) := Lib.hid (Nat.le_trans HBZ.out HB4.out.size)
            have HB5 : Hid (Below W.heap.size wr w5) := Lib.hid (HB4.out.trans (ho5.below HTW.out.lt.2 HZ4.out))
            have HZ5 : Hid (W.heap.size ≤ w5.heap.size) := Lib.hid (Nat.le_trans HBZ.out HB5.out.size)
            have c2' : w5.cell? ⟨(a.add (k * 6)).block, (a.add (k * 6)).off + 2, none⟩ = some (.int .i64 x.n) := (HB5.out.cell (p := ⟨(a.add (k * 6)).block, (a.add (k * 6)).off + 2, none⟩) (by show (a.add (k * 6)).block < _; rw [add_block]; exact HAB.out)).trans c2
            clear ht5 ho5
            go_wp2_with fail
            refine (rmake_any x.n HMK.out.1 HMK.out.2.1 ⟨HN2.out.1, HMK.out.2.2⟩ w5 HR5.out HZ5.out).mono ?_
            rintro e w6 ⟨rfl, hlf6⟩
            have HL6 := Lib.hid hlf6
            clear hlf6
            go_wp2_with fail
            refine (rlink_any next 1 HT4.out.good w6 HL6.out.rt (Nat.le_trans HZ5.out HL6.out.below.size)).mono ?_
            rintro e w7 ⟨rfl, hlf7⟩
            have HL7 := Lib.hid hlf7
            clear hlf7
            have HB7 : Hid (Below W.heap.size W w7) := Lib.hid (HBE.out.trans (HB5.out.trans (HL6.out.below.trans HL7.out.below)))
            have HGN : Hid (BGood (linkL (L ++ [⟨next, x.n, 0, 0, 0, []⟩]) next 1)) := Lib.hid (HBG.out.made HT4.out.good HN2.out.1)
            clear c0 c1 c2 c2' c3 c4 c5
            go_wp2_with fail
            exact ⟨⟨k + 1, _, _, by omega, by simp, ⟨(HT5.out.tch HL6.out.tch).tch HL7.out.tch, HL7.out.rt, HTW.out.lt⟩, HGN.out, HB7.out⟩, by simp [intOf]; omega⟩
          · obtain ⟨_, hI, hL, hN⟩ := make_no E hE hE0
            have hen : (E == 0) = false := beq_eq_false_iff_ne.2 hE0
            rw [hE, hI, hL, hN] at HMA
            clear hE hI hL hN hE0 hk0'
            go_wp2_with fail
            refine HMA.out.mono ?_
            rintro e w4 ⟨rfl, ht4, ho4⟩
            have HT4 := Lib.hid ht4
            have HR4 := Lib.hid (HTW.out.r.two ho4 (head_not HTW.out.t))
            have HB4 : Hid (Below W.heap.size wr w4) := Lib.hid (ho4.below HTW.out.lt.1 HTW.out.lt.2 HBZ.out)
            clear ht4 ho4 c0 c1 c2 c3 c4 c5
            go_wp2_with fail
            exact ⟨⟨k + 1, L, next, by omega, by simp, ⟨HT4.out, HR4.out, HTW.out.lt⟩, HBG.out, HBE.out.trans HB4.out⟩, by simp [intOf]; omega⟩
        · have hkb : (x.k == 0) = false := beq_eq_false_iff_ne.2 hk0'
          have HK0 := Lib.hid hk0'
          clear hk0'
          go_wp2_with fail
          refine (step_any x y.oa y.c HSW.out HM3.out HK0.out wr HTW.out HBZ.out HKQ.out HNQ.out).mono ?_
          rintro e w4 ⟨⟨c, rfl⟩, ht4, hb4⟩
          have HT4 := Lib.hid ht4
          have HB4 := Lib.hid hb4
          have HGN := Lib.hid (HBG.out.step HTW.out.t.good x)
          clear ht4 hb4 c0 c1 c2 c3 c4 c5
          go_wp2_with fail
          exact ⟨⟨k + 1, _, next, by omega, by simp, HT4.out, HGN.out, HBE.out.trans HB4.out⟩, by simp [intOf]; omega⟩
      · obtain rfl : k = xs.length := by omega
        have hlt1 : ¬ (xs.length : Int) < (xs.length : Int) := by omega
        have HBZ : Hid (W.heap.size ≤ wr.heap.size) := Lib.hid HBE.out.size
        clear hk hlt
        generalize wr = wD at *
        have HG := Lib.hid HTW.out.t.good
        have HPL : Hid (∀ x ∈ L, x.p.length ≤ 100000) := Lib.hid (fun x hx => by have := (HG.out.all x hx).p.1; omega)
        have HLL : Hid (L.length ≤ 100000) := Lib.hid (by have := HG.out.len; omega)
        go_wp2_with fail
        refine (dumpb_any wD HTW.out.t).mono ?_
        rintro e w4 ⟨oD, cD, zD, rfl, hri, hpb, hb4⟩
        have HRI := Lib.hid hri
        have HPB := Lib.hid hpb
        have HB4 := Lib.hid hb4
        clear hri hpb hb4
        go_wp2_with fail
        refine (new_any w4).mono ?_
        rintro e w5 ⟨rfl, ht5, hb5⟩
        have HB5 : Hid (Below w4.heap.size w4 w5) := Lib.hid hb5
        obtain ⟨ub, hub⟩ : ∃ ub, ub = w4.heap.size + 1 := ⟨_, rfl⟩
        have HU5 : Hid (TIs w5 ub w4.heap.size [root] 2) := Lib.hid (by rw [hub]; exact ht5)
        have HUB : Hid (w4.heap.size ≤ ub) := Lib.hid (by omega)
        rw [← hub]
        clear ht5 hb5 hub
        have HT4 := Lib.hid (HTW.out.t.grow HB4.out)
        have HD4 := Lib.hid HRI.out.list
        go_wp2_with fail
        refine (copied_any oD cD L zD HPL.out HLL.out w5 (HD4.out.grow HB5.out)).mono ?_
        rintro e w6 ⟨oC, cC, zC, rfl, hri6, hb6⟩
        have HC6 := Lib.hid hri6.list
        have HB6 : Hid (Below w4.heap.size w4 w6) := Lib.hid (bstep HB5.out hb6)
        have HU6 := Lib.hid (HU5.out.grow hb6)
        clear hri6 hb6
        go_wp2_with fail
        refine (next_any w6 (HT4.out.grow HB6.out)).mono ?_
        rintro e w6' ⟨rfl, rfl⟩
        go_wp2_with fail
        refine (load_yes ub w4.heap.size [root] 2 next oC cC L zC (HBG.out.load HG.out) w6 HU6.out HC6.out).mono ?_
        rintro e w7 ⟨rfl, mb, ht7, hmb, ho7⟩
        have HU7 := Lib.hid ht7
        have HB7 : Hid (Below w4.heap.size w4 w7) := Lib.hid (HB6.out.trans (ho7.below HUB.out HB6.out.size))
        clear ht7 hmb ho7
        go_wp2_with fail
        refine (dump_any w7 HU7.out).mono ?_
        rintro e w8 ⟨oE, cE, zE, rfl, hri8, hb8⟩
        have HE8 := Lib.hid hri8.list
        have HU8 := Lib.hid (HU7.out.grow hb8)
        have HB8 : Hid (Below w4.heap.size w4 w8) := Lib.hid (bstep HB7.out hb8)
        clear hri8 hb8
        go_wp2_with fail
        refine (own_any oE cE L zE HPL.out HLL.out w8 HE8.out).mono ?_
        rintro e w9 ⟨o9, c9, z9, rfl, hri9, hb9⟩
        have H9 := Lib.hid hri9.list
        have HU9 := Lib.hid (HU8.out.grow hb9)
        have HB9 : Hid (Below w4.heap.size w4 w9) := Lib.hid (bstep HB8.out hb9)
        clear hri9 hb9
        go_wp2_with fail
        refine (own_any oD cD L zD HPL.out HLL.out w9 (HD4.out.grow HB9.out)).mono ?_
        rintro e wa ⟨oa', ca, za, rfl, hria, hba⟩
        have HA := Lib.hid hria.list
        have H9a := Lib.hid (H9.out.grow hba)
        have HUa := Lib.hid (HU9.out.grow hba)
        have HBa : Hid (Below w4.heap.size w4 wa) := Lib.hid (bstep HB9.out hba)
        clear hria hba
        go_wp2_with fail
        refine (rsame_any o9 oa' L.length L.length c9 ca L z9 za rfl rfl HLL.out HPL.out wa H9a.out HA.out).mono ?_
        rintro e wb ⟨rfl, hbb⟩
        have HUb := Lib.hid (HUa.out.grow hbb)
        have HBb : Hid (Below w4.heap.size w4 wb) := Lib.hid (bstep HBa.out hbb)
        clear hbb
        go_wp2_with fail
        refine (next_any wb HUb.out).mono ?_
        rintro e wb' ⟨rfl, rfl⟩
        go_wp2_with fail
        refine (next_any wb (HT4.out.grow HBb.out)).mono ?_
        rintro e wb' ⟨rfl, rfl⟩
        have hnn : (next != next) = false := bne_self_eq_false _
        go_wp2_with fail
        obtain ⟨g, hgq, hgB, hIV⟩ := inv_start HB4.out.size HRI.out.row HPB.out HB4.out HBb.out HRI.out.read.1 (by obtain ⟨r, M, e, _⟩ := HBG.out.first; rw [e]; simp)
        have HGB := Lib.hid hgB
        have HIV := Lib.hid hIV
        subst hgq
        have HZL : Hid (zD.length = L.length) := Lib.hid HRI.out.read.1
        clear hgB hIV hnn HU5 HU6 HU7 HU8 HU9 HUa HUb HC6 HE8 H9 H9a HA
        have hl1 : (L.length : Int) ≤ 64 := by have := HG.out.len; omega
        go_loopw [12] (fun c wx => ∃ i : Nat, i ≤ L.length ∧ c = .int .i64 (i : Int) ∧ InvD zD wD g L.length i wx) (fun c _ => ((L.length : Int) - intOf c).toNat)
        case atStart => exact ⟨0, by omega, rfl, HIV.out⟩
        case round =>
          obtain ⟨i, hi, rfl, hiv⟩ := hrel
          have HI := Lib.hid hiv
          clear hiv
          by_cases hil : i < L.length
          · have hi1 : (i : Int) < (L.length : Int) := by omega
            have hi0 : ¬ (i : Int) < 0 := by omega
            obtain ⟨z, hz⟩ : ∃ z, zD[i]? = some z := ⟨_, List.getElem?_eq_getElem (by rw [HZL.out]; exact hil)⟩
            have HZ := Lib.hid hz
            have HZN : Hid (z.n ≤ 64) := Lib.hid (by
              obtain ⟨x, hx⟩ : ∃ x, L[i]? = some x := ⟨_, List.getElem?_eq_getElem hil⟩
              have := (HRI.out.read.2 i x z hx hz).n
              rw [this]
              exact (HG.out.all x (List.mem_of_getElem? hx)).p.1)
            clear hz
            go_wp2_with fail
            go_loopw [13] (fun c wy => ∃ k : Nat, k ≤ z.n ∧ c = .int .i64 (k : Int) ∧ InvD zD wD g L.length i wy) (fun c _ => ((z.n : Int) - intOf c).toNat)
            case atStart => exact ⟨0, by omega, rfl, HI.out⟩
            case round =>
              obtain ⟨k, hk, rfl, hiv⟩ := hrel
              have HJ := Lib.hid hiv
              have c5 := hiv.cell HZ.out (Nat.le_refl _)
              have hzn := HZN.out
              clear hiv
              by_cases hkn : k < z.n
              · have hk1 : (k : Int) < (z.n : Int) := by omega
                have hk2 : (k : Int) < 64 := by omega
                have hk0 : ¬ (k : Int) < 0 := by omega
                obtain ⟨gp, hzo, hgp, hty, fz, d0, d1, d2, d3⟩ := HJ.out.part HZ.out hkn
                rw [hzo] at c5
                obtain ⟨v0, e0⟩ := d0
                obtain ⟨v1, e1⟩ := d1
                obtain ⟨v2, e2⟩ := d2
                obtain ⟨v3, e3⟩ := d3
                have z0 := fz (k * 4)
                have z1 := fz (k * 4 + 1)
                have z2 := fz (k * 4 + 2)
                have z3 := fz (k * 4 + 3)
                have HTY := Lib.hid (And.intro hgp hty)
                clear hgp hty fz hzo
                go_wp2_with fail
                have s1 := HJ.out.setP HTY.out (k * 4) (.int .i64 0)
                have s2 := s1.1.setP s1.2 (k * 4 + 1) (.int .i64 0)
                have s3 := s2.1.setP s2.2 (k * 4 + 2) (.int .i64 0)
                have s4 := s3.1.setP s3.2 (k * 4 + 3) (.int .i64 0)
                exact ⟨⟨k + 1, by omega, by simp, s4.1⟩, by simp [intOf]; omega⟩
              · obtain rfl : k = z.n := by omega
                have hk1 : ¬ (z.n : Int) < (z.n : Int) := by omega
                obtain ⟨fz, hcl⟩ := HJ.out.cells hil
                obtain ⟨v0, d0⟩ := hcl 0 (by omega)
                obtain ⟨v1, d1⟩ := hcl 1 (by omega)
                obtain ⟨v2, d2⟩ := hcl 2 (by omega)
                obtain ⟨v3, d3⟩ := hcl 3 (by omega)
                obtain ⟨v4, d4⟩ := hcl 4 (by omega)
                have z0 := fz (i * 6)
                have z1 := fz (i * 6 + 1)
                have z2 := fz (i * 6 + 2)
                have z3 := fz (i * 6 + 3)
                have z4 := fz (i * 6 + 4)
                have z5 := fz (i * 6 + 5)
                rw [Nat.add_zero] at d0
                clear hkn hk fz hcl
                go_wp2_with fail
                have s1 := HJ.out.next.setR 0 (by omega) (.int .i64 0)
                have s2 := s1.setR 1 (by omega) (.int .i64 0)
                have s3 := s2.setR 2 (by omega) (.int .i64 0)
                have s4 := s3.setR 3 (by omega) (.int .i64 0)
                have s5 := s4.setR 4 (by omega) (.int .i64 0)
                have s6 := s5.setR 5 (by omega) (.slice none 0 0)
                exact ⟨⟨i + 1, by omega, by simp, s6⟩, by simp [intOf]; omega⟩
          · obtain rfl : i = L.length := by omega
            have hi1 : ¬ (L.length : Int) < (L.length : Int) := by omega
            clear hil hi
            have HBD := Lib.hid HI.out.below
            have HTX : Hid (TIs wr tb b L next) := Lib.hid (HTW.out.t.grow HBD.out)
            have HRX : Hid (RT W.heap.size wr qb L next) := Lib.hid (HTW.out.r.grow HBD.out)
            have HBX : Hid (Below W.heap.size W wr) := Lib.hid (HBE.out.trans (HBD.out.mono HBZ.out))
            clear HI HBD HIV HZL hl1
            generalize wr = wP at *
            go_wp2_with fail
            refine (parts_any 2 (iOk_of (by omega)) wP HTX.out).mono ?_
            rintro e wq ⟨oP, cP, rfl, hrow, hbq⟩
            obtain ⟨oP', cP', eP, hlc, hcm, _⟩ := hrow.form
            have HMX : Hid ((partsL L 2).length ≤ maxLen) := Lib.hid (Nat.le_trans hlc hcm)
            have HPQ := Lib.hid (PBlk.row hrow (Nat.le_refl _))
            have HBQ := Lib.hid hbq
            clear hrow hbq eP hlc hcm
            generalize (partsL L 2).length = M at *
            go_wp2_with fail
            go_loopw [15] (fun c wx => ∃ k : Nat, k ≤ M ∧ c = .int .i64 (k : Int) ∧ PBlk wP.heap.size wx oP M ∧ Below wP.heap.size wP wx) (fun c _ => ((M : Int) - intOf c).toNat)
            case atStart => exact ⟨0, by omega, rfl, HPQ.out, HBQ.out⟩
            case round =>
              obtain ⟨k, hk, rfl, hpk, hbk⟩ := hrel
              have HPK := Lib.hid hpk
              have HBK := Lib.hid hbk
              have hmx := HMX.out
              unfold maxLen at hmx
              clear hpk hbk
              by_cases hkm : k < M
              · have hk1 : (k : Int) < (M : Int) := by omega
                have hk2 : (k : Int) < 9223372036854775807 := by omega
                have hk0 : ¬ (k : Int) < 0 := by omega
                obtain ⟨gp, rfl, hgp, fz, d0, d1, d2, d3⟩ := HPK.out.part hkm
                obtain ⟨v0, e0⟩ := d0
                obtain ⟨v1, e1⟩ := d1
                obtain ⟨v2, e2⟩ := d2
                obtain ⟨v3, e3⟩ := d3
                have z0 := fz (k * 4)
                have z1 := fz (k * 4 + 1)
                have z2 := fz (k * 4 + 2)
                have z3 := fz (k * 4 + 3)
                have HGP := Lib.hid hgp
                clear hgp fz hmx
                go_wp2_with fail
                exact ⟨⟨k + 1, by omega, by simp, (((HPK.out.set gp _ _).set gp _ _).set gp _ _).set gp _ _, (((HBK.out.setCell (p := ⟨gp, k * 4, none⟩) HGP.out _).setCell (p := ⟨gp, k * 4 + 1, none⟩) HGP.out _).setCell (p := ⟨gp, k * 4 + 2, none⟩) HGP.out _).setCell (p := ⟨gp, k * 4 + 3, none⟩) HGP.out _⟩, by simp [intOf]; omega⟩
              · obtain rfl : k = M := by omega
                have hk1 : ¬ (k : Int) < (k : Int) := by omega
                obtain ⟨oq, cq, zs, hra⟩ := (HRX.out.grow HBK.out).ra
                have HSA := Lib.hid (lsame_any qb cq oq zs wr (HTX.out.grow HBK.out) ⟨RowK.pts encI_len (by omega) hra.row, hra.read⟩ hra.q.1 hra.q.2.1)
                clear hra hkm hk hmx
                go_wp2_with fail
                refine HSA.out.mono ?_
                rintro e wy ⟨rfl, hby⟩
                have HBY : Hid (Below W.heap.size W wy) := Lib.hid (bstep (bstep HBX.out HBK.out) hby)
                clear hby
                go_wp2_with fail
                refine (wakes_any wy).mono ?_
                rintro e wz ⟨rfl, hbz⟩
                have HBZ2 := Lib.hid (bstep HBY.out hbz)
                clear hbz
                go_wp2_with fail
                go_ret
                exact ⟨rfl, HBZ2.out⟩
end Go.Proofs.Ytappgelpigoknaa.InoW
