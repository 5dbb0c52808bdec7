/- What a call leaves alone: all but one block; all but one block and rows of bytes. -/
import Derived.Test.YtappgelpigoknaaBase
import Derived.Lib.UnsafeStr
namespace Go.Proofs.Ytappgelpigoknaa
open Go.RowKit
/-- only block b has turned, and what is new -/
def Only (b : Nat) (w w' : World) : Prop := w.grownBy w' (some b)
theorem Only.refl (b : Nat) (w : World) : Only b w w := ⟨rfl, rfl, rfl, Nat.le_refl _, fun _ _ _ => rfl⟩
theorem Only.size {b : Nat} {a w : World} (h : Only b a w) : a.heap.size ≤ w.heap.size := World.grownBy.size h
theorem Only.drew {b : Nat} {a w : World} (h : Only b a w) : Only b a w.drew := ⟨h.os, h.tape, h.output, (show a.heap.size ≤ w.heap.size from h.size), h.block⟩
theorem Only.drewN {b : Nat} {a w : World} (h : Only b a w) (n : Nat) : Only b a (w.drewN n) := ⟨h.os, h.tape, h.output, (show a.heap.size ≤ w.heap.size from h.size), h.block⟩
theorem Only.trans {b : Nat} {a w x : World} (h : Only b a w) (k : Only b w x) : Only b a x :=
  ⟨k.os.trans h.os, k.tape.trans h.tape, k.output.trans h.output, Nat.le_trans h.size k.size, fun i hi hne => (k.block i (Nat.lt_of_lt_of_le hi h.size) hne).trans (h.block i hi hne)⟩
theorem Only.setCell {b : Nat} {a w : World} (h : Only b a w) (i : Nat) (u : Value) : Only b a (w.setCell ⟨b, i, none⟩ u) :=
  ⟨h.os, h.tape, h.output, by simpa using h.size, fun k hk hne => (Below.heap_setCell w ⟨b, i, none⟩ u k (fun e => hne (by rw [e]))).trans (h.block k hk hne)⟩
theorem Only.of_below {b : Nat} {a w : World} (h : Below a.heap.size a w) : Only b a w := ⟨h.os, h.tape, h.output, h.size, fun k hk _ => h.block k hk⟩
theorem Only.step {b : Nat} {a w x : World} (h : Only b a w) (k : Below w.heap.size w x) : Only b a x := h.trans (Only.of_below k)
theorem Only.below {b B : Nat} {w w' : World} (h : Only b w w') (hB : B ≤ b) (hw : B ≤ w.heap.size) : Below B w w' :=
  ⟨h.os, h.tape, h.output, h.size, fun k hk => h.block k (Nat.lt_of_lt_of_le hk hw) (fun e => by injection e; omega)⟩
theorem Only.heap {b x : Nat} {w w' : World} {o : Obj} (h : Only b w w') (hx : w.heap[x]? = some o) (hne : x ≠ b) : w'.heap[x]? = some o :=
  (h.block x (lt_of_block hx) (fun e => hne (by injection e))).trans hx
theorem Only.keepRow {b base : Nat} {e : TypeId} {size n : Nat} {v : Value} {xs : List Value} {w w' : World} (h : Only b w w') (ho : w.ownsRow base e size v n xs) (hne : v.ownBlock ≠ some b) : w'.ownsRow base e size v n xs :=
  World.ownsRow.kept ho h (.inr hne)
/-- below B nothing has turned; and of all else only block b, rows of bytes, and what is new -/
structure Fr (B b : Nat) (w w' : World) : Prop where
  below : Below B w w'
  far : ∀ (x : Nat) (c : Array Value) (t : TypeId) (m : Nat × Nat), x ≠ b → t ≠ 5 → w.heap[x]? = some (.cells c t m) → w'.heap[x]? = some (.cells c t m)
theorem Fr.refl (B b : Nat) (w : World) : Fr B b w w := ⟨Below.refl B w, fun _ _ _ _ _ _ h => h⟩
theorem Fr.size {B b : Nat} {w w' : World} (h : Fr B b w w') : w.heap.size ≤ w'.heap.size := h.below.size
theorem Fr.drew {B b : Nat} {a w : World} (h : Fr B b a w) : Fr B b a w.drew := ⟨h.below.drew, h.far⟩
theorem Fr.trans {B b : Nat} {a w x : World} (h : Fr B b a w) (k : Fr B b w x) : Fr B b a x :=
  ⟨h.below.trans k.below, fun y c t m h1 h2 h3 => k.far y c t m h1 h2 (h.far y c t m h1 h2 h3)⟩
theorem Fr.step {B b : Nat} {a w x : World} (h : Fr B b a w) (k : Below w.heap.size w x) (hB : B ≤ w.heap.size) : Fr B b a x :=
  ⟨h.below.trans (k.mono hB), fun y c t m h1 h2 h3 => (k.block y (lt_of_block (h.far y c t m h1 h2 h3))).trans (h.far y c t m h1 h2 h3)⟩
theorem Fr.setCell {B b : Nat} {a w : World} (h : Fr B b a w) (i : Nat) (hB : B ≤ b) (u : Value) : Fr B b a (w.setCell ⟨b, i, none⟩ u) :=
  ⟨h.below.setCell (p := ⟨b, i, none⟩) hB u, fun y c t m h1 h2 h3 => (Below.heap_setCell w ⟨b, i, none⟩ u y (fun e => h1 e)).trans (h.far y c t m h1 h2 h3)⟩
theorem Fr.alloc {B b : Nat} {a w : World} (h : Fr B b a w) (hB : B ≤ w.heap.size) (o : Obj) : Fr B b a (w.alloc o) :=
  h.step ((Below.refl _ _).alloc (Nat.le_refl _) o) hB
theorem Fr.grown {B b : Nat} {a w x : World} {n : Nat} {v : Value} {xs : List Value} (h : Fr B b a w) (hg : w.grownBy x v.ownBlock) (ho : w.ownsRow B 5 1 v n xs) (hB : B ≤ w.heap.size) : Fr B b a x := by
  refine ⟨h.below.grown hg hB (fun k hk => ?_), fun y c t m h1 h2 h3 => ?_⟩
  · rcases ho.2 with ⟨rfl, _⟩ | ⟨g, cap, cur, rfl, hb, _⟩
    · simp [Value.ownBlock] at hk
    · simp [Value.ownBlock] at hk; omega
  · have h4 := h.far y c t m h1 h2 h3
    refine (hg.block y (lt_of_block h4) (fun e => ?_)).trans h4
    rcases ho.2 with ⟨rfl, _⟩ | ⟨g, cap, cur, rfl, hb, hg2, _⟩
    · simp [Value.ownBlock] at e
    · simp only [Value.ownBlock, Option.some.injEq] at e
      subst e
      rw [hg2] at h4
      injection h4 with h5
      injection h5 with _ h6 _
      exact h2 h6.symm
theorem Fr.freeze {B b : Nat} {a w : World} (h : Fr B b a w) {g n : Nat} {cur : Array Value} {m : Nat × Nat} (hg : w.heap[g]? = some (.cells cur 5 m)) (hB : B ≤ g) : Fr B b a (w.freeze ⟨g, 0, none⟩ n) := by
  refine ⟨Lib.below_freeze h.below (p := ⟨g, 0, none⟩) hB n, fun y c t k h1 h2 h3 => ?_⟩
  have h4 := h.far y c t k h1 h2 h3
  have hne : y ≠ g := by
    rintro rfl
    rw [hg] at h4
    injection h4 with h5
    injection h5 with _ h6 _
    exact h2 h6.symm
  unfold World.freeze
  split
  · exact h4
  · simp only [Array.getElem?_modify]
    rw [if_neg (fun e => hne e.symm)]
    exact h4
end Go.Proofs.Ytappgelpigoknaa
