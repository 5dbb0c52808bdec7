/- append of elements that were just laid in a block of their own, onto a row of the call's own. -/
import Derived.Test.YtappgelpigoknaaBase
import Derived.Laws.AppendOwnNone
namespace Go.Proofs.Ytappgelpigoknaa
open Go.RowKit
theorem grown_from_alloc {W w' : World} {o : Obj} {row : Option Nat} (h : (W.alloc o).grownBy w' row) : W.grownBy w' row :=
  ⟨h.os, h.tape, h.output, Nat.le_trans (by simp) h.size, fun k hk hne => (h.block k (by simp; omega) hne).trans (Below.heap_alloc W o k hk)⟩
theorem below_of_grown {W w' : World} {base size n : Nat} {e : TypeId} {v : Value} {xs : List Value} (h : W.grownBy w' v.ownBlock) (ho : W.ownsRow base e size v n xs) (hb : base ≤ W.heap.size) : Below base W w' :=
  (Below.refl base W).grown h hb (fun k hk => by
    rcases ho.2 with ⟨rfl, _⟩ | ⟨g, cap, cur, rfl, hg, _⟩
    · simp [Value.ownBlock] at hk
    · simp [Value.ownBlock] at hk; omega)
theorem row_form {W : World} {base size n : Nat} {e : TypeId} {v : Value} {xs : List Value} (h : W.ownsRow base e size v n xs) : ∃ oa cap, v = .slice oa n cap := by
  rcases h.2 with ⟨rfl, h0⟩ | ⟨g, cap, cur, rfl, _⟩
  · exact ⟨none, 0, by rw [h0]⟩
  · exact ⟨_, _, rfl⟩
theorem wpList_append_new {P : Program} {ops : Array Oper} {rest : List Oper} {o : Oper} {a : Act} {Q : Exit → Act → World → Prop} (hgd : o.guard = none) (s x : Operand) (t : TypeId)
    (ho : o.op = .call { callee := .builtin .append, args := #[s, x], argTypes := #[t, t] })
    (base : Nat) (e : TypeId) (i : TypeInfo) (z : Value) (size bytes : Nat) (ht : P.underlying t = some (.slice e)) (hi : P.info? e = some i) (hz : i.zero = some z)
    (hsize : i.size = size) (hby : i.bytes = bytes) (hzs : z.cells.size = size) (hsz : 0 < size)
    {W : World} (v : Value) (n : Nat) (xs : List Value) (hs : a.eval s = v) (hown : W.ownsRow base e size v n xs)
    {cs : Array Value} {T : TypeId} (m c : Nat) (hx : a.eval x = .slice (some ⟨W.heap.size, 0, none⟩) m c) (hl : cs.size = m * size) (h1 : ∀ u ∈ cs.toList, u.oneCell' = true)
    (h63 : n + m ≤ maxLen) (hbytes : (n + m) * bytes ≤ 140737488355328) (hbase : base ≤ W.heap.size)
    (h : ∀ oa cap w', w'.ownsRow base e size (.slice oa (n + m) cap) (n + m) (xs ++ cs.toList) → Below base W w' → W.grownBy w' v.ownBlock → wpList P ops Q rest (a.put o.dst (.slice oa (n + m) cap)) w') :
    wpList P ops Q (o :: rest) a (W.alloc (.cells cs T)) := by
  refine wpList_append_own _ hgd s x t ho base e i z size bytes ht hi hz hsize hby hzs hsz v n xs hs (hown.alloc _) ⟨W.heap.size, 0, none⟩ m c cs.toList hx (by simpa using hl) ?_ h1 h63 hbytes (by simp; omega) ?_
  · exact World.news_of_block (heap_alloc_new W _)
  · intro v' w' h2 h3 _
    have h4 := grown_from_alloc h3
    obtain ⟨oa, cap, rfl⟩ := row_form h2
    exact h oa cap w' h2 (below_of_grown h4 hown hbase) h4
/-- the same, the new block's number as the walk spells it -/
theorem wpList_append_newB {P : Program} {ops : Array Oper} {rest : List Oper} {o : Oper} {a : Act} {Q : Exit → Act → World → Prop} (hgd : o.guard = none) (s x : Operand) (t : TypeId)
    (ho : o.op = .call { callee := .builtin .append, args := #[s, x], argTypes := #[t, t] })
    (base : Nat) (e : TypeId) (i : TypeInfo) (z : Value) (size bytes : Nat) (ht : P.underlying t = some (.slice e)) (hi : P.info? e = some i) (hz : i.zero = some z)
    (hsize : i.size = size) (hby : i.bytes = bytes) (hzs : z.cells.size = size) (hsz : 0 < size)
    {W : World} (v : Value) (n : Nat) (xs : List Value) (hs : a.eval s = v) (hown : W.ownsRow base e size v n xs)
    {cs : Array Value} {T : TypeId} (b m c : Nat) (hx : a.eval x = .slice (some ⟨b, 0, none⟩) m c) (hl : cs.size = m * size) (h1 : ∀ u ∈ cs.toList, u.oneCell' = true)
    (h63 : n + m ≤ maxLen) (hbytes : (n + m) * bytes ≤ 140737488355328) (hbase : base ≤ W.heap.size) (hb : W.heap.size = b)
    (h : ∀ oa cap w', w'.ownsRow base e size (.slice oa (n + m) cap) (n + m) (xs ++ cs.toList) → Below base W w' → W.grownBy w' v.ownBlock → wpList P ops Q rest (a.put o.dst (.slice oa (n + m) cap)) w') :
    wpList P ops Q (o :: rest) a (W.alloc (.cells cs T)) := by
  subst hb
  exact wpList_append_new hgd s x t ho base e i z size bytes ht hi hz hsize hby hzs hsz v n xs hs hown m c hx hl h1 h63 hbytes hbase h
/-- the same behind a draw -/
theorem wpList_append_newD {P : Program} {ops : Array Oper} {rest : List Oper} {o : Oper} {a : Act} {Q : Exit → Act → World → Prop} (hgd : o.guard = none) (s x : Operand) (t : TypeId)
    (ho : o.op = .call { callee := .builtin .append, args := #[s, x], argTypes := #[t, t] })
    (base : Nat) (e : TypeId) (i : TypeInfo) (z : Value) (size bytes : Nat) (ht : P.underlying t = some (.slice e)) (hi : P.info? e = some i) (hz : i.zero = some z)
    (hsize : i.size = size) (hby : i.bytes = bytes) (hzs : z.cells.size = size) (hsz : 0 < size)
    {W : World} (v : Value) (n : Nat) (xs : List Value) (hs : a.eval s = v) (hown : W.ownsRow base e size v n xs)
    {cs : Array Value} {T : TypeId} (b m c : Nat) (hx : a.eval x = .slice (some ⟨b, 0, none⟩) m c) (hl : cs.size = m * size) (h1 : ∀ u ∈ cs.toList, u.oneCell' = true)
    (h63 : n + m ≤ maxLen) (hbytes : (n + m) * bytes ≤ 140737488355328) (hbase : base ≤ W.heap.size) (hb : W.heap.size = b)
    (h : ∀ oa cap w', w'.ownsRow base e size (.slice oa (n + m) cap) (n + m) (xs ++ cs.toList) → Below base W w' → wpList P ops Q rest (a.put o.dst (.slice oa (n + m) cap)) w') :
    wpList P ops Q (o :: rest) a (W.alloc (.cells cs T)).drew :=
  wpList_append_newB (W := W.drew) hgd s x t ho base e i z size bytes ht hi hz hsize hby hzs hsz v n xs hs hown b m c hx hl h1 h63 hbytes hbase hb fun oa cap w' h1 h2 _ => h oa cap w' h1 ⟨h2.os, h2.tape, h2.output, h2.size, h2.block⟩
/-- the same, as a step of a region that draws -/
theorem step_append_newD {P : Program} {ops : Array Oper} {o : Oper} {a : Act} {K : Act → World → Prop} {Q : Exit → Act → World → Prop} {E : Prop} (hgd : o.guard = none) (s x : Operand) (t : TypeId)
    (ho : o.op = .call { callee := .builtin .append, args := #[s, x], argTypes := #[t, t] })
    (base : Nat) (e : TypeId) (i : TypeInfo) (z : Value) (size bytes : Nat) (ht : P.underlying t = some (.slice e)) (hi : P.info? e = some i) (hz : i.zero = some z)
    (hsize : i.size = size) (hby : i.bytes = bytes) (hzs : z.cells.size = size) (hsz : 0 < size)
    {W : World} (v : Value) (n : Nat) (xs : List Value) (hs : a.eval s = v) (hown : W.ownsRow base e size v n xs)
    {cs : Array Value} {T : TypeId} (b m c : Nat) (hx : a.eval x = .slice (some ⟨b, 0, none⟩) m c) (hl : cs.size = m * size) (h1 : ∀ u ∈ cs.toList, u.oneCell' = true)
    (h63 : n + m ≤ maxLen) (hbytes : (n + m) * bytes ≤ 140737488355328) (hbase : base ≤ W.heap.size) (hb : W.heap.size = b)
    (h : ∀ oa cap w', w'.ownsRow base e size (.slice oa (n + m) cap) (n + m) (xs ++ cs.toList) → Below base W w' → K (a.put o.dst (.slice oa (n + m) cap)) w') :
    if Region.wanted o (yielded ops a.tmps) = true then Oper.wp P o a (W.alloc (.cells cs T)).drew K Q else E := by
  have hw : Region.wanted o (yielded ops a.tmps) = true := by simp [Region.wanted, hgd]
  rw [if_pos hw]
  subst hb
  refine wp_append_own (W.alloc (.cells cs T)).drew s x t ho base e i z size bytes ht hi hz hsize hby hzs hsz v n xs hs (hown.alloc _ : (W.alloc (.cells cs T)).ownsRow base e size v n xs) ⟨W.heap.size, 0, none⟩ m c cs.toList hx (by simpa using hl) ?_ h1 h63 hbytes (by show base ≤ (W.alloc (.cells cs T)).heap.size; simp; omega) ?_
  · exact World.news_of_block (heap_alloc_new W _)
  · intro v' w' h2 h3 _
    have h4 : W.grownBy w' v.ownBlock := grown_from_alloc (o := .cells cs T) ⟨h3.os, h3.tape, h3.output, h3.size, h3.block⟩
    obtain ⟨oa, cap, rfl⟩ := row_form h2
    exact h oa cap w' h2 (below_of_grown h4 hown hbase)
/-- a row, nil or not, appended to one of the call's own -/
theorem wpList_append_both {P : Program} {ops : Array Oper} {rest : List Oper} {o : Oper} {a : Act} {Q : Exit → Act → World → Prop} (hgd : o.guard = none) (s x : Operand) (t : TypeId)
    (ho : o.op = .call { callee := .builtin .append, args := #[s, x], argTypes := #[t, t] })
    (base : Nat) (e : TypeId) (i : TypeInfo) (z : Value) (size bytes : Nat) (ht : P.underlying t = some (.slice e)) (hi : P.info? e = some i) (hz : i.zero = some z)
    (hsize : i.size = size) (hby : i.bytes = bytes) (hzs : z.cells.size = size) (hsz : 0 < size)
    {W : World} (v : Value) (n : Nat) (xs : List Value) (hs : a.eval s = v) (hown : W.ownsRow base e size v n xs)
    (oa : Option Addr) (m c : Nat) (news : List Value) (hx : a.eval x = .slice oa m c) (hn : oa = none → m = 0 ∧ c = 0)
    (hl : news.length = m * size) (hnews : ∀ ad, oa = some ad → ∀ j u, news[j]? = some u → W.cell? (ad.add j) = some u) (h1 : ∀ u ∈ news, u.oneCell' = true)
    (h63 : n + m ≤ maxLen) (hbytes : (n + m) * bytes ≤ 140737488355328) (hbase : base ≤ W.heap.size)
    (h : ∀ oa' cap' w', w'.ownsRow base e size (.slice oa' (n + m) cap') (n + m) (xs ++ news) → Below base W w' → W.grownBy w' v.ownBlock → wpList P ops Q rest (a.put o.dst (.slice oa' (n + m) cap')) w') :
    wpList P ops Q (o :: rest) a W := by
  cases oa with
  | none =>
    obtain ⟨rfl, rfl⟩ := hn rfl
    have hnil : news = [] := List.eq_nil_of_length_eq_zero (by simpa using hl)
    subst hnil
    obtain ⟨oa0, cap0, rfl⟩ := row_form hown
    refine wpList_append_own_none hgd s x t ho base e i size ht hi _ n xs hs hown hx ?_
    have := h oa0 cap0 W
    simp only [Nat.add_zero, List.append_nil] at this
    exact this hown (Below.refl _ _) ⟨rfl, rfl, rfl, Nat.le_refl _, fun _ _ _ => rfl⟩
  | some ad =>
    refine wpList_append_own _ hgd s x t ho base e i z size bytes ht hi hz hsize hby hzs hsz _ n xs hs hown ad m c news hx hl (hnews ad rfl) h1 h63 hbytes hbase ?_
    intro v' w' h2 h3 _
    obtain ⟨oa', cap', rfl⟩ := row_form h2
    exact h oa' cap' w' h2 (below_of_grown h3 hown hbase) h3
/-- 'append([]T{}, l...)': a copy in new memory -/
theorem wpList_append_copy {P : Program} {ops : Array Oper} {rest : List Oper} {o : Oper} {a : Act} {Q : Exit → Act → World → Prop} (hgd : o.guard = none) (s x : Operand) (t : TypeId)
    (ho : o.op = .call { callee := .builtin .append, args := #[s, x], argTypes := #[t, t] })
    (e : TypeId) (i : TypeInfo) (z : Value) (size bytes : Nat) (ht : P.underlying t = some (.slice e)) (hi : P.info? e = some i) (hz : i.zero = some z)
    (hsize : i.size = size) (hby : i.bytes = bytes) (hzs : z.cells.size = size) (hsz : 0 < size)
    {W : World} (hs : a.eval s = .slice (some ⟨W.heap.size, 0, none⟩) 0 0) (oa : Option Addr) (m c : Nat) (news : List Value) (hx : a.eval x = .slice oa m c) (hn : oa = none → m = 0 ∧ c = 0)
    (hl : news.length = m * size) (hnews : ∀ ad, oa = some ad → ∀ j u, news[j]? = some u → W.cell? (ad.add j) = some u) (h1 : ∀ u ∈ news, u.oneCell' = true)
    (h63 : m ≤ maxLen) (hbytes : m * bytes ≤ 140737488355328)
    (h : ∀ oa' cap' w', w'.ownsRow W.heap.size e size (.slice oa' m cap') m news → Below W.heap.size W w' → wpList P ops Q rest (a.put o.dst (.slice oa' m cap')) w') :
    wpList P ops Q (o :: rest) a (W.alloc (.cells #[] e)) := by
  have hown : (W.alloc (.cells #[] e)).ownsRow W.heap.size e size (.slice (some ⟨W.heap.size, 0, none⟩) 0 0) 0 [] :=
    ⟨by simp, .inr ⟨W.heap.size, 0, #[], rfl, Nat.le_refl _, heap_alloc_new W _, Nat.le_refl _, Nat.zero_le _, by simp, by simp⟩⟩
  cases oa with
  | none =>
    obtain ⟨rfl, rfl⟩ := hn rfl
    have hnil : news = [] := List.eq_nil_of_length_eq_zero (by simpa using hl)
    subst hnil
    exact wpList_append_own_none hgd s x t ho W.heap.size e i size ht hi _ 0 [] hs hown hx (by rw [← hs]; rw [hs]; exact h _ _ _ hown (below_alloc W _))
  | some ad =>
    refine wpList_append_own _ hgd s x t ho W.heap.size e i z size bytes ht hi hz hsize hby hzs hsz _ 0 [] hs hown ad m c news hx hl ?_ h1 (by omega) (by rw [Nat.zero_add]; exact hbytes) (by simp) ?_
    · intro j u hu
      have hc := hnews ad rfl j u hu
      rw [← hc]
      exact World.cell?_alloc_lt W _ _ (by have := World.block_lt_of_cell? _ _ hc; exact this)
    · intro v' w' h2 h3 _
      obtain ⟨oa', cap', rfl⟩ := row_form h2
      rw [Nat.zero_add, List.nil_append] at h2
      rw [Nat.zero_add]
      exact h oa' cap' w' h2 (below_of_grown (v := .slice (some ⟨W.heap.size, 0, none⟩) 0 0) (base := W.heap.size) (W := W.alloc (.cells #[] e)) h3 hown (by simp) |> fun hb => (below_alloc W _).trans hb)
end Go.Proofs.Ytappgelpigoknaa
