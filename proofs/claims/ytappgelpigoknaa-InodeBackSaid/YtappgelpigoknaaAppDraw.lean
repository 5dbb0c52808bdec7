/- append of one element that was just laid, behind a draw: what becomes of other rows, too. -/
import Derived.Test.YtappgelpigoknaaAppend
import Derived.Test.YtappgelpigoknaaRowAt
import Derived.Maps.AppendAt
namespace Go.Proofs.Ytappgelpigoknaa
open Go.RowKit
theorem wpList_append_newG {P : Program} {ops : Array Oper} {rest : List Oper} {o : Oper} {a : Act} {Q : Exit → Act → World → Prop} (hgd : o.guard = none) (s x : Operand) (t : TypeId)
    (ho : o.op = .call { callee := .builtin .append, args := #[s, x], argTypes := #[t, t] })
    (base : Nat) (e : TypeId) (i : TypeInfo) (z : Value) (size bytes : Nat) (ht : P.underlying t = some (.slice e)) (hi : P.info? e = some i) (hz : i.zero = some z)
    (hsize : i.size = size) (hby : i.bytes = bytes) (hzs : z.cells.size = size) (hsz : 0 < size)
    {W : World} (v : Value) (n : Nat) (xs : List Value) (hs : a.eval s = v) (hown : W.ownsRow base e size v n xs)
    {cs : Array Value} {T : TypeId} (b m c : Nat) (hx : a.eval x = .slice (some ⟨b, 0, none⟩) m c) (hl : cs.size = m * size) (h1 : ∀ u ∈ cs.toList, u.oneCell' = true)
    (h63 : n + m ≤ maxLen) (hbytes : (n + m) * bytes ≤ 140737488355328) (hbase : base ≤ W.heap.size) (hb : W.heap.size = b)
    (h : ∀ oa cap w', w'.ownsRow base e size (.slice oa (n + m) cap) (n + m) (xs ++ cs.toList) → Below base W w' → W.grownBy w' v.ownBlock → ((Value.slice oa (n + m) cap).ownBlock = v.ownBlock ∨ (Value.slice oa (n + m) cap).ownBlock = some (W.heap.size + 1)) → wpList P ops Q rest (a.put o.dst (.slice oa (n + m) cap)) w') :
    wpList P ops Q (o :: rest) a (W.alloc (.cells cs T)).drew := by
  subst hb
  have hown' : (W.alloc (.cells cs T)).drew.ownsRow base e size v n xs := hown.alloc _
  refine wpList_append_own_at (W.alloc (.cells cs T)).drew hgd s x t ho base e i z size bytes ht hi hz hsize hby hzs hsz v n xs hs hown' ⟨W.heap.size, 0, none⟩ m c cs.toList hx (by simpa using hl) (World.news_of_block (heap_alloc_new W _)) h1 h63 hbytes (by show base ≤ (W.alloc (.cells cs T)).heap.size; simp; omega) ?_
  intro v' w' h2 h3 _ h5
  have h4 : W.grownBy w' v.ownBlock := grown_from_alloc (o := .cells cs T) ⟨h3.os, h3.tape, h3.output, h3.size, h3.block⟩
  obtain ⟨oa, cap, rfl⟩ := row_form h2
  exact h oa cap w' h2 (below_of_grown h4 hown hbase) h4 (by simpa using h5)
section
variable {α : Type} {enc : α → List Value} {k : Nat} {T : TypeId}
/-- another row of the call's own, when one has grown -/
theorem RowK.other {B : Nat} {w w' : World} {v : Value} {l : List α} {r : Option Nat} (h : RowK T enc k B w v l) (hg : w.grownBy w' r) (hne : ∀ g, v.ownBlock = some g → r ≠ some g) : RowK T enc k B w' v l :=
  World.ownsRow.kept h hg (by
    cases hv : v.ownBlock with
    | none => exact .inl rfl
    | some g => exact .inr (fun e => hne g hv e.symm))
end
end Go.Proofs.Ytappgelpigoknaa
