/- append as a step of a region that draws its order: onto a row of the call's own, of a slice that is read, nil or not. -/
import Derived.Test.YtappgelpigoknaaAppend
import Derived.Test.YtappgelpigoknaaRowAt
namespace Go.Proofs.Ytappgelpigoknaa
open Go.RowKit
theorem own_empty (W : World) (e : TypeId) (size B : Nat) (hB : B ≤ W.heap.size) : (W.alloc (.cells #[] e)).ownsRow B e size (.slice (some ⟨W.heap.size, 0, none⟩) 0 0) 0 [] :=
  ⟨by simp, .inr ⟨W.heap.size, 0, #[], rfl, hB, heap_alloc_new W _, Nat.le_refl _, Nat.zero_le _, by simp, by simp⟩⟩
theorem own_empty_at {W : World} {b : Nat} (hb : W.heap.size = b) (e : TypeId) (size B : Nat) (hB : B ≤ b) : (W.alloc (.cells #[] e)).ownsRow B e size (.slice (some ⟨b, 0, none⟩) 0 0) 0 [] := by
  subst hb; exact own_empty W e size B hB
theorem own_grow {W W' : World} {B n size : Nat} {e : TypeId} {v : Value} {xs : List Value} (h : W.ownsRow B e size v n xs) (hb : Below W.heap.size W W') : W'.ownsRow B e size v n xs :=
  World.ownsRow.kept h (row := none) ⟨hb.os, hb.tape, hb.output, hb.size, fun k hk _ => hb.block k hk⟩ (by
    cases hv : v.ownBlock with
    | none => exact .inl rfl
    | some k => exact .inr (by simp))
theorem seeS {w w' : World} {p : Addr} {v : Value} (p0 : w.cell? p = some v) (h : Below w.heap.size w w') : w'.cell? p = some v ∧ Below w.heap.size w w' :=
  ⟨(h.cell (World.block_lt_of_cell? _ _ p0)).trans p0, h⟩
theorem step_append_both {P : Program} {ops : Array Oper} {o : Oper} {a : Act} {K : Act → World → Prop} {Q : Exit → Act → World → Prop} {E : Prop} (hgd : o.guard = none) (s x : Operand) (t : TypeId)
    (ho : o.op = .call { callee := .builtin .append, args := #[s, x], argTypes := #[t, t] })
    (base : Nat) (e : TypeId) (i : TypeInfo) (z : Value) (size bytes : Nat) (ht : P.underlying t = some (.slice e)) (hi : P.info? e = some i) (hz : i.zero = some z)
    (hsize : i.size = size) (hby : i.bytes = bytes) (hzs : z.cells.size = size) (hsz : 0 < size)
    (W : World) (v : Value) (n : Nat) (xs : List Value) (hs : a.eval s = v) (hown : W.ownsRow base e size v n xs)
    (oa : Option Addr) (m c : Nat) (news : List Value) (hx : a.eval x = .slice oa m c) (hn : oa = none → m = 0 ∧ c = 0)
    (hl : news.length = m * size) (hnews : ∀ ad, oa = some ad → ∀ j u, news[j]? = some u → W.cell? (ad.add j) = some u) (h1 : ∀ u ∈ news, u.oneCell' = true)
    (h63 : n + m ≤ maxLen) (hbytes : (n + m) * bytes ≤ 140737488355328) (hbase : base ≤ W.heap.size)
    (h : ∀ oa' cap' w', w'.ownsRow base e size (.slice oa' (n + m) cap') (n + m) (xs ++ news) → Below base W w' → W.grownBy w' v.ownBlock → K (a.put o.dst (.slice oa' (n + m) cap')) w') :
    if Region.wanted o (yielded ops a.tmps) = true then Oper.wp P o a W K Q else E := by
  have hw : Region.wanted o (yielded ops a.tmps) = true := by simp [Region.wanted, hgd]
  rw [if_pos hw]
  cases oa with
  | none =>
    obtain ⟨rfl, rfl⟩ := hn rfl
    have hnil : news = [] := List.eq_nil_of_length_eq_zero (by simpa using hl)
    subst hnil
    obtain ⟨oa0, cap0, rfl⟩ := row_form hown
    have hh := h oa0 cap0 W
    simp only [Nat.add_zero, List.append_nil] at hh
    have hrun := run_append_owned_none (P := P) (w := W) base t o.type e i size ht hi _ n xs hown
    unfold Oper.wp
    simp only [execOp, ho, resolve, invoke, builtin, Sem.run_bind, Sem.run_pure, List.map_toArray, List.map_cons, List.map_nil, hs, hx, hrun, Result.andThen, Oper.upon]
    exact hh hown (Below.refl _ _) ⟨rfl, rfl, rfl, Nat.le_refl _, fun _ _ _ => rfl⟩
  | some ad =>
    refine wp_append_own W s x t ho base e i z size bytes ht hi hz hsize hby hzs hsz v n xs hs hown ad m c news hx hl (hnews ad rfl) h1 h63 hbytes hbase ?_
    intro v' w' h2 h3 _
    obtain ⟨oa', cap', rfl⟩ := row_form h2
    exact h oa' cap' w' h2 (below_of_grown h3 hown hbase) h3
end Go.Proofs.Ytappgelpigoknaa
