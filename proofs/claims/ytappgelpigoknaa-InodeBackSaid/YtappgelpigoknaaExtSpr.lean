/- The reference's bytes, one by one: spread. -/
import Derived.Test.YtappgelpigoknaaExtRef1
import Derived.Test.YtappgelpigoknaaExtMove
import Derived.Deep.OwnRows
import Derived.Laws.MakeOwn
namespace Go.Proofs.Ytappgelpigoknaa.ExtW
open Go.RowKit
/-- a row of 8192 places in data, at an address -/
def Spr (B : Nat) (w : World) (a : Addr) (d : Nat → Int × Int) : Prop :=
  a = ⟨a.block, 0, none⟩ ∧ B ≤ a.block ∧ w.rowIs a.block 119 16384 (fun j => if j % 2 = 0 then .int .i64 (d (j / 2)).1 else .int .i64 (d (j / 2)).2)
theorem Spr.lt {B : Nat} {w : World} {a : Addr} {d : Nat → Int × Int} (h : Spr B w a d) : a.block < w.heap.size := h.2.2.lt
theorem addb (a : Addr) (h : a = ⟨a.block, 0, none⟩) (i : Nat) : a.add i = ⟨a.block, i, none⟩ := by rw [h]; exact add_at _ _
theorem Spr.cells {B : Nat} {w : World} {a : Addr} {d : Nat → Int × Int} (h : Spr B w a d) {i : Nat} (hi : i < 8192) :
    w.cell? (a.add (i * 2)) = some (.int .i64 (d i).1) ∧ w.cell? ⟨(a.add (i * 2)).block, (a.add (i * 2)).off + 1, none⟩ = some (.int .i64 (d i).2) ∧ w.frozen? (a.add (i * 2)) = false ∧ w.frozen? ⟨(a.add (i * 2)).block, (a.add (i * 2)).off + 1, none⟩ = false := by
  obtain ⟨h1, _, h2⟩ := h
  have e1 := h2.cell (i := i * 2) (by omega)
  have e2 := h2.cell (i := i * 2 + 1) (by omega)
  rw [if_pos (by omega), show i * 2 / 2 = i by omega] at e1
  rw [if_neg (by omega), show (i * 2 + 1) / 2 = i by omega] at e2
  rw [addb a h1]
  exact ⟨e1, e2, h2.frozen _, h2.frozen _⟩
theorem Spr.congr {B : Nat} {w : World} {a : Addr} {d e : Nat → Int × Int} (h : Spr B w a d) (he : ∀ i, i < 8192 → d i = e i) : Spr B w a e :=
  ⟨h.1, h.2.1, h.2.2.congr fun i hi => by rw [he (i / 2) (by omega)]⟩
theorem Spr.grow {B : Nat} {w w' : World} {a : Addr} {d : Nat → Int × Int} (h : Spr B w a d) (hb : Below w.heap.size w w') : Spr B w' a d :=
  ⟨h.1, h.2.1, h.2.2.of_block (hb.block _ h.2.2.lt)⟩
theorem Spr.set1 {B : Nat} {w : World} {a : Addr} {d : Nat → Int × Int} (h : Spr B w a d) (i : Nat) (u : Int) : Spr B (w.setCell (a.add (i * 2)) (.int .i64 u)) a (fun j => if j = i then (u, (d j).2) else d j) := by
  obtain ⟨h1, h0, h2⟩ := h
  rw [addb a h1]
  refine ⟨h1, h0, (h2.set (i * 2) (.int .i64 u)).congr fun j hj => ?_⟩
  dsimp only
  by_cases c : j = i * 2
  · subst c
    rw [if_pos rfl, if_pos (by omega), if_pos (by omega)]
  · rw [if_neg c]
    by_cases c2 : j % 2 = 0
    · rw [if_pos c2, if_pos c2, if_neg (by omega)]
    · rw [if_neg c2, if_neg c2]
      split <;> rfl
theorem Spr.set2 {B : Nat} {w : World} {a : Addr} {d : Nat → Int × Int} (h : Spr B w a d) (i : Nat) (u v : Int) : Spr B ((w.setCell (a.add (i * 2)) (.int .i64 u)).setCell ⟨(a.add (i * 2)).block, (a.add (i * 2)).off + 1, none⟩ (.int .i64 v)) a (fun j => if j = i then (u, v) else d j) := by
  obtain ⟨h1, h0, h2⟩ := h
  rw [addb a h1]
  refine ⟨h1, h0, ((h2.set (i * 2) (.int .i64 u)).set (i * 2 + 1) (.int .i64 v)).congr fun j hj => ?_⟩
  dsimp only
  by_cases c : j = i * 2 + 1
  · subst c
    rw [if_pos rfl, if_neg (by omega), if_pos (by omega)]
  · rw [if_neg c]
    by_cases c' : j = i * 2
    · subst c'
      rw [if_pos rfl, if_pos (by omega), if_pos (by omega)]
    · rw [if_neg c']
      by_cases c2 : j % 2 = 0
      · rw [if_pos c2, if_pos c2, if_neg (by omega)]
      · rw [if_neg c2, if_neg c2, if_neg (by omega)]
/-- what is read of it -/
def Says (d : Nat → Int × Int) (g : Int → Option (Int × Int)) : Prop :=
  ∀ i : Nat, i < 8192 → ((d i).1 < 0 ∧ g i = none ∨ 0 ≤ (d i).1 ∧ g i = some (d i)) ∧ 0 ≤ (d i).2 ∧ (d i).2 ≤ 1024 ∧ -1 ≤ (d i).1 ∧ (d i).1 ≤ 16384
theorem Says.over {d : Nat → Int × Int} {g : Int → Option (Int × Int)} (x : Pt) (hx : One x) (k m : Nat) (hk : (k : Int) < x.n) (hm : x.o + k = m) (hg : Says d (overG g ⟨x.o, k, x.a, x.f⟩)) :
    Says (fun j => if j = m then (x.a, x.f + k) else d j) (overG g ⟨x.o, (k + 1 : Nat), x.a, x.f⟩) := by
  have hxs := hx.small
  intro i hi
  obtain ⟨h1, h2⟩ := hg i hi
  rw [← over_more]
  dsimp only
  by_cases c : i = m
  · subst c
    rw [if_pos rfl, if_pos (by omega)]
    exact ⟨.inr ⟨by simp only; omega, rfl⟩, by simp only; omega, by simp only; omega, by simp only; omega, by simp only; omega⟩
  · rw [if_neg c, if_neg (by omega)]
    exact ⟨h1, h2⟩
theorem zeroRow : ∀ w : World, ∃ w', (Instr.makeSlice 116 (.int .i64 8192) (.int .i64 8192)).run Try.prog w = .ok (.slice (some ⟨w.heap.size, 0, none⟩) 8192 8192) w' ∧ Spr w.heap.size w' ⟨w.heap.size, 0, none⟩ (fun _ => (0, 0)) ∧ Below w.heap.size w w' ∧ w.heap.size < w'.heap.size := by
  intro w
  obtain ⟨i0, hi, hz0, hz1, hz2⟩ := info_parts (show (Try.prog.info? 119).map (fun i => (i.zero, i.size, i.bytes)) = some (some (.agg #[.int .i64 0, .int .i64 0]), 2, 16) by kernel_rfl)
  have hr := run_make (P := Try.prog) w 116 119 i0 _ Try.underlying116 hi hz0 .i64 .i64 8192 8192 (by omega) (by omega) (by rw [hz2]; omega) (by omega)
  refine ⟨_, hr, ⟨rfl, Nat.le_refl _, ?_⟩, below_alloc w _, by simp⟩
  rw [hz1]
  refine ⟨_, heap_alloc_new w _, by simp [size_madeCells], fun j hj => ?_⟩
  have hs : (Value.agg #[.int .i64 0, .int .i64 0]).cells = #[.int .i64 0, .int .i64 0] := rfl
  rw [hs]
  unfold madeCells
  have hj2 : j < (Int.toNat 8192) * 2 := hj
  rw [Array.getElem?_map, Array.getElem?_range, if_pos hj2]
  rcases Nat.mod_two_eq_zero_or_one j with h | h
  · simp [h]
  · simp [h]
end Go.Proofs.Ytappgelpigoknaa.ExtW
