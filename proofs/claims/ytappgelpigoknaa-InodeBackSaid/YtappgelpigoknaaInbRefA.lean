/- Several texts in one. -/
import Derived.Test.YtappgelpigoknaaInbList
import Derived.Test.YtappgelpigoknaaInbMake
import Derived.Test.YtappgelpigoknaaInbOwn
import Derived.Test.YtappgelpigoknaaExtRef3
import Derived.StillTailTactics
import Derived.Test.YtappgelpigoknaaInbMove
import Derived.Test.YtappgelpigoknaaExtRef5
import Derived.Test.YtappgelpigoknaaInbLink
/- The document's table of inodes in memory; what its calls leave alone. -/
set_option linter.unusedVariables false
namespace Go.Proofs.Ytappgelpigoknaa
open Go.RowKit
section
variable {α : Type} {enc : α → List Value} {k : Nat} {T : TypeId}
theorem flat_set (hk : ∀ x, (enc x).length = k) : ∀ (l : List α) (i : Nat) (x y : α) (j : Nat) (v : Value), l[i]? = some x → j < k → enc y = (enc x).set j v → (l.set i y).flatMap enc = (l.flatMap enc).set (i * k + j) v
  | [], i, x, y, j, v, h, _, _ => by simp at h
  | a :: l, 0, x, y, j, v, h, hj, he => by
    simp only [List.getElem?_cons_zero, Option.some.injEq] at h
    subst h
    rw [List.set_cons_zero, List.flatMap_cons, List.flatMap_cons, he, Nat.zero_mul, Nat.zero_add, List.set_append_left _ _ (by rw [hk]; exact hj)]
  | a :: l, i + 1, x, y, j, v, h, hj, he => by
    rw [List.set_cons_succ, List.flatMap_cons, List.flatMap_cons, flat_set hk l i x y j v (by simpa using h) hj he, List.set_append_right _ _ (by rw [hk, Nat.succ_mul]; omega), hk, show (i + 1) * k + j - k = i * k + j from by rw [Nat.succ_mul]; omega]
/-- a row's element, one of its cells stored into -/
theorem RowK.put {B : Nat} {w : World} {a : Addr} {n cap : Nat} {l : List α} (hk : ∀ x, (enc x).length = k) (h : RowK T enc k B w (.slice (some a) n cap) l) {i : Nat} {x y : α} (hx : l[i]? = some x) (j : Nat) (v : Value) (hj : j < k) (hy : enc y = (enc x).set j v) :
    RowK T enc k B (w.setCell ⟨a.block, i * k + j, none⟩ v) (.slice (some a) n cap) (l.set i y) := by
  have hi : i < l.length := (List.getElem?_eq_some_iff.1 hx).1
  unfold RowK at h ⊢
  rw [List.length_set, flat_set hk l i x y j v hx hj hy]
  rcases h.2 with ⟨e, h0⟩ | ⟨g, cap', cur, e, hB, hb, h3, h4, h5, h6⟩
  · omega
  · simp only [Value.slice.injEq] at e
    obtain ⟨ea, rfl, rfl⟩ := e
    injection ea with ea
    subst ea
    have hlt : i * k + j < l.length * k := Nat.lt_of_lt_of_le (Nat.add_lt_add_left hj _) (by rw [← Nat.succ_mul]; exact Nat.mul_le_mul_right _ hi)
    refine ⟨by rw [List.length_set]; exact h.1, .inr ⟨g, cap, cur.setIfInBounds (i * k + j) v, rfl, hB, ?_, h3, h4, by simpa using h5, ?_⟩⟩
    · simp [World.setCell, Array.getElem?_modify, hb]
    · rw [Array.toList_setIfInBounds, List.take_set, h6]
theorem RowK.free {B : Nat} {w : World} {oa : Option Addr} {n cap : Nat} {l : List α} (h : RowK T enc k B w (.slice oa n cap) l) {i : Nat} (hi : i < l.length) : ∃ g cs, oa = some ⟨g, 0, none⟩ ∧ B ≤ g ∧ g < w.heap.size ∧ w.heap[g]? = some (.cells cs T (0, 0)) ∧ ∀ j, w.frozen? ⟨g, j, none⟩ = false := by
  rcases h.2 with ⟨e, h0⟩ | ⟨g, cap', cur, e, hB, hb, _⟩
  · omega
  · simp only [Value.slice.injEq] at e
    exact ⟨g, cur, e.1, hB, lt_of_block hb, hb, fun j => Lib.frozen_of_heap hb j⟩
end
end Go.Proofs.Ytappgelpigoknaa
namespace Go.Proofs.Ytappgelpigoknaa.InoP
/-- where an inode stands -/
theorem find_at : ∀ {L : List Ino} {i : Int} {x : Ino}, Rises L → find L i = some x → ∃ k, L[k]? = some x ∧ (∀ j, j < k → ∀ y, L[j]? = some y → y.i ≠ i) ∧ (∀ y : Ino, y.i = i → upd L y = L.set k y) ∧ del L i = L.take k ++ L.drop (k + 1)
  | [], i, x, _, h => by simp [find] at h
  | a :: L, i, x, hr, h => by
    obtain ⟨h1, h2⟩ := List.pairwise_cons.1 hr
    unfold find at h
    rw [List.find?_cons] at h
    by_cases ha : a.i = i
    · rw [show decide (a.i = i) = true from decide_eq_true ha] at h
      injection h with h
      subst h
      have hne : ∀ b ∈ L, b.i ≠ i := fun b hb => by have := h1 b hb; omega
      refine ⟨0, rfl, fun j hj => by omega, fun y hy => ?_, ?_⟩
      · unfold upd
        rw [List.map_cons, if_pos (by rw [hy]; exact ha), List.set_cons_zero]
        congr 1
        exact (List.map_congr_left (g := id) (fun b hb => if_neg (fun e => hne b hb (e.trans hy)))).trans (List.map_id L)
      · unfold del
        rw [List.filter_cons_of_neg (by simp [ha])]
        simp only [List.take_zero, List.nil_append, List.drop_succ_cons, List.drop_zero]
        exact List.filter_eq_self.2 fun b hb => by simp [hne b hb]
    · rw [show decide (a.i = i) = false from decide_eq_false ha] at h
      obtain ⟨k, g1, g2, g3, g4⟩ := find_at h2 h
      refine ⟨k + 1, by simpa using g1, fun j hj y hy => ?_, fun y hy => ?_, ?_⟩
      · cases j with
        | zero => simp at hy; rw [← hy]; exact ha
        | succ j => exact g2 j (by omega) y (by simpa using hy)
      · have e := g3 y hy
        unfold upd at e ⊢
        rw [List.map_cons, if_neg (fun c => ha (by rw [c]; exact hy)), e, List.set_cons_succ]
      · unfold del at g4 ⊢
        rw [List.filter_cons_of_pos (by simp [ha]), g4]
        simp
theorem find_nowhere {L : List Ino} {i : Int} (h : find L i = none) : ∀ (j : Nat) (y : Ino), L[j]? = some y → y.i ≠ i := fun j y hy => find_none.1 h y (List.mem_of_getElem? hy)
end Go.Proofs.Ytappgelpigoknaa.InoP
namespace Go.Proofs.Ytappgelpigoknaa.InoW
set_option maxRecDepth 100000
open Go.RowKit InoP ExtW
/-- the document's own blocks -/
def RfB (w : World) (g : Nat) : Prop := ∃ cs T fr, w.heap[g]? = some (.cells cs T fr) ∧ (T = 84 ∨ T = 82)
theorem part_not {w : World} {g : Nat} (h : PartB w g) : ¬ RfB w g := by
  rintro ⟨cs, T, fr, h1, h2⟩
  obtain ⟨cs', fr', h3⟩ := h
  rw [h3] at h1
  injection h1 with h1
  injection h1 with _ h1 _
  rcases h2 with rfl | rfl
  · exact absurd h1 (by decide)
  · exact absurd h1 (by decide)
/-- all is left alone but the document's own blocks -/
structure Tch (w w' : World) : Prop where
  os : w'.os = w.os
  tape : w'.tape = w.tape
  output : w'.output = w.output
  size : w.heap.size ≤ w'.heap.size
  block : ∀ k, k < w.heap.size → ¬ RfB w k → w'.heap[k]? = w.heap[k]?
theorem Tch.refl (w : World) : Tch w w := ⟨rfl, rfl, rfl, Nat.le_refl _, fun _ _ _ => rfl⟩
theorem Tch.trans {w w' w2 : World} (h : Tch w w') (k : Tch w' w2) : Tch w w2 :=
  ⟨k.os.trans h.os, k.tape.trans h.tape, k.output.trans h.output, Nat.le_trans h.size k.size, fun j hj hn => by
    have e := h.block j hj hn
    rw [k.block j (Nat.lt_of_lt_of_le hj h.size) (fun ⟨cs, T, fr, h1, h2⟩ => hn ⟨cs, T, fr, by rw [← e]; exact h1, h2⟩), e]⟩
theorem Tch.below {w w' : World} (h : Below w.heap.size w w') : Tch w w' := ⟨h.os, h.tape, h.output, h.size, fun k hk _ => h.block k hk⟩
theorem Tch.only {w w' : World} {g : Nat} (h : Only g w w') (hg : RfB w g) : Tch w w' := ⟨h.os, h.tape, h.output, h.size, fun k hk hn => h.block k hk (fun e => hn (by injection e with e; rw [e]; exact hg))⟩
theorem PartB.tch {w w' : World} {g : Nat} (h : PartB w g) (k : Tch w w') : PartB w' g := by
  have hn := part_not h
  obtain ⟨cs, fr, h⟩ := h
  exact ⟨cs, fr, (k.block g (lt_of_block h) hn).trans h⟩
theorem pts_tch {B : Nat} {oa : Option Addr} {l : List Pt} {w w' : World} (h : PtsAt B oa l w) (k : Tch w w') (hB : B ≤ w.heap.size) (hp : ∀ a, oa = some a → PartB w a.block) : PtsAt B oa l w' := by
  intro i x hx
  obtain ⟨a, h1, h2, d0, d1, d2, d3⟩ := h i x hx
  have hb : w'.heap[a.block]? = w.heap[a.block]? := k.block _ (by omega) (part_not (hp a h1))
  have hc : ∀ q : Addr, q.block = a.block → w'.cell? q = w.cell? q := fun q hq => by unfold World.cell?; rw [hq, hb]
  exact ⟨a, h1, h2, (hc (a.add (i * 4)) (add_block _ _)).trans d0, (hc ⟨(a.add (i * 4)).block, (a.add (i * 4)).off + 1, none⟩ (add_block _ _)).trans d1,
    (hc ⟨(a.add (i * 4)).block, (a.add (i * 4)).off + 2, none⟩ (add_block _ _)).trans d2, (hc ⟨(a.add (i * 4)).block, (a.add (i * 4)).off + 3, none⟩ (add_block _ _)).trans d3⟩
theorem IRel.tch {w w' : World} {tb b : Nat} {x : Ino} {y : IV} (h : IRel w tb b x y) (k : Tch w w') : IRel w' tb b x y :=
  { h with pts := (pts_tch h.pts k (Nat.le_refl _) h.ty).mono k.size, ty := fun a ha => (h.ty a ha).tch k }
theorem head_not {w : World} {tb b : Nat} {L : List Ino} {next : Int} (h : TIs w tb b L next) : ¬ RfB w tb ∧ ¬ RfB w b ∧ ¬ PartB w tb ∧ ¬ PartB w b := by
  have h0 := h.head
  obtain ⟨n, g, ⟨es, clock, hm, _⟩, _⟩ := h.map
  refine ⟨?_, ?_, ?_, ?_⟩
  · rintro ⟨cs, T, fr, h1, h2⟩
    rw [h0] at h1
    injection h1 with h1
    injection h1 with _ h1 _
    rcases h2 with rfl | rfl
    · exact absurd h1 (by decide)
    · exact absurd h1 (by decide)
  · rintro ⟨cs, T, fr, h1, h2⟩
    rw [hm] at h1; cases h1
  · rintro ⟨cs, fr, h1⟩
    rw [h0] at h1
    injection h1 with h1
    injection h1 with _ h1 _
    exact absurd h1 (by decide)
  · rintro ⟨cs, fr, h1⟩
    rw [hm] at h1; cases h1
theorem TIs.tch {w w' : World} {tb b : Nat} {L : List Ino} {next : Int} (h : TIs w tb b L next) (k : Tch w w') : TIs w' tb b L next := by
  obtain ⟨n1, n2, _, _⟩ := head_not h
  have hl := h.lt
  obtain ⟨n, g, hm, h1, h2⟩ := h.map
  refine ⟨(k.block tb hl.1 n1).trans h.head, ⟨n, g, ?_, h1, fun i x hx => by obtain ⟨y, hy, hr⟩ := h2 i x hx; exact ⟨y, hy, hr.tch k⟩⟩, h.good⟩
  obtain ⟨es, clock, hb, hr⟩ := hm
  exact ⟨es, clock, (k.block b hl.2 n2).trans hb, hr⟩
/-- the document's table in block qb -/
structure RT (B : Nat) (w : World) (qb : Nat) (L : List Ino) (next : Int) : Prop where
  lt : B ≤ qb
  ex : ∃ oq cq zs, w.heap[qb]? = some (.cells #[.slice oq L.length cq, .int .i64 next] 84 (0, 0)) ∧ RowK 82 encI 6 B w (.slice oq L.length cq) zs ∧ IReads w L zs ∧ ∀ (i : Nat) (z : IV), zs[i]? = some z → ∀ a, z.oa = some a → PartB w a.block
theorem RT.grow {B qb : Nat} {w w' : World} {L : List Ino} {next : Int} (h : RT B w qb L next) (k : Below w.heap.size w w') : RT B w' qb L next := by
  obtain ⟨oq, cq, zs, h1, h2, h3, h4⟩ := h.ex
  exact ⟨h.lt, oq, cq, zs, (k.block qb (lt_of_block h1)).trans h1, h2.grow k, h3.grow k, fun i z hz a ha => (h4 i z hz a ha).grow k⟩
theorem row_kept {α : Type} {enc : α → List Value} {k B : Nat} {T : TypeId} {w w' : World} {v : Value} {l : List α} (h : RowK T enc k B w v l) (he : ∀ g, v.ownBlock = some g → w'.heap[g]? = w.heap[g]?) : RowK T enc k B w' v l := by
  refine ⟨h.1, ?_⟩
  rcases h.2 with h0 | ⟨g, cap, cur, e, hB, hb, hr⟩
  · exact .inl h0
  · exact .inr ⟨g, cap, cur, e, hB, (he g (by rw [e]; rfl)).trans hb, hr⟩
theorem row_own {α : Type} {enc : α → List Value} {k B : Nat} {T : TypeId} {w : World} {v : Value} {l : List α} (h : RowK T enc k B w v l) : ∀ g, v.ownBlock = some g → B ≤ g ∧ ∃ cs, w.heap[g]? = some (.cells cs T (0, 0)) := by
  intro g hg
  rcases h.2 with ⟨e, _⟩ | ⟨g', cap, cur, e, hB, hb, _⟩
  · rw [e] at hg; cases hg
  · rw [e] at hg
    have : g' = g := by simpa [Value.ownBlock] using hg
    subst this
    exact ⟨hB, _, hb⟩
/-- calls of the other table leave the document's alone -/
theorem RT.two {B qb c d : Nat} {w w' : World} {L : List Ino} {next : Int} (h : RT B w qb L next) (k : Only2 c d w w') (hn : ¬ RfB w c ∧ ¬ RfB w d ∧ ¬ PartB w c ∧ ¬ PartB w d) : RT B w' qb L next := by
  obtain ⟨n1, n2, n3, n4⟩ := hn
  obtain ⟨oq, cq, zs, h1, h2, h3, h4⟩ := h.ex
  have hne : ∀ g, g < w.heap.size → RfB w g ∨ PartB w g → w'.heap[g]? = w.heap[g]? := fun g hg hr => by
    refine k.block g hg (fun e => ?_) (fun e => ?_)
    · subst e
      rcases hr with hr | hr
      · exact n1 hr
      · exact n3 hr
    · subst e
      rcases hr with hr | hr
      · exact n2 hr
      · exact n4 hr
  refine ⟨h.lt, oq, cq, zs, (hne qb (lt_of_block h1) (.inl ⟨_, _, _, h1, .inl rfl⟩)).trans h1, row_kept h2 fun g hg => ?_, ⟨h3.1, fun i x y hx hy => ?_⟩, fun i z hz a ha => ?_⟩
  · obtain ⟨_, cs, hb⟩ := row_own h2 g hg
    exact hne g (lt_of_block hb) (.inl ⟨_, _, _, hb, .inr rfl⟩)
  · have hr := h3.2 i x y hx hy
    have hp := h4 i y hy
    refine { hr with pts := ?_ }
    intro j p hj
    obtain ⟨a, e1, e2, d0, d1, d2, d3⟩ := hr.pts j p hj
    have hb : w'.heap[a.block]? = w.heap[a.block]? := hne _ e2 (.inr (hp a e1))
    have hc : ∀ q : Addr, q.block = a.block → w'.cell? q = w.cell? q := fun q hq => by unfold World.cell?; rw [hq, hb]
    exact ⟨a, e1, Nat.lt_of_lt_of_le e2 k.size, (hc (a.add (j * 4)) (add_block _ _)).trans d0, (hc ⟨(a.add (j * 4)).block, (a.add (j * 4)).off + 1, none⟩ (add_block _ _)).trans d1,
      (hc ⟨(a.add (j * 4)).block, (a.add (j * 4)).off + 2, none⟩ (add_block _ _)).trans d2, (hc ⟨(a.add (j * 4)).block, (a.add (j * 4)).off + 3, none⟩ (add_block _ _)).trans d3⟩
  · obtain ⟨cs, fr, hb⟩ := h4 i z hz a ha
    exact ⟨cs, fr, (hne _ (lt_of_block hb) (.inr ⟨cs, fr, hb⟩)).trans hb⟩
theorem IReads.tch {w w' : World} {L : List Ino} {zs : List IV} (h : IReads w L zs) (hp : ∀ (i : Nat) (z : IV), zs[i]? = some z → ∀ a, z.oa = some a → PartB w a.block) (k : Tch w w') : IReads w' L zs :=
  ⟨h.1, fun i x y hx hy => { h.2 i x y hx hy with pts := (pts_tch (h.2 i x y hx hy).pts k (Nat.le_refl _) (hp i y hy)).mono k.size }⟩
/-- the document's table, opened -/
structure RA (B : Nat) (w : World) (qb : Nat) (L : List Ino) (next : Int) (oq : Option Addr) (cq : Nat) (zs : List IV) : Prop where
  lt : B ≤ qb
  head : w.heap[qb]? = some (.cells #[.slice oq L.length cq, .int .i64 next] 84 (0, 0))
  row : RowK 82 encI 6 B w (.slice oq L.length cq) zs
  read : IReads w L zs
  ty : ∀ (i : Nat) (z : IV), zs[i]? = some z → ∀ a, z.oa = some a → PartB w a.block
theorem RA.rt {B qb cq : Nat} {w : World} {L : List Ino} {next : Int} {oq : Option Addr} {zs : List IV} (h : RA B w qb L next oq cq zs) : RT B w qb L next := ⟨h.lt, oq, cq, zs, h.head, h.row, h.read, h.ty⟩
theorem RT.ra {B qb : Nat} {w : World} {L : List Ino} {next : Int} (h : RT B w qb L next) : ∃ oq cq zs, RA B w qb L next oq cq zs := by
  obtain ⟨oq, cq, zs, h1, h2, h3, h4⟩ := h.ex
  exact ⟨oq, cq, zs, h.lt, h1, h2, h3, h4⟩
section
variable {B qb cq : Nat} {w : World} {L : List Ino} {next : Int} {oq : Option Addr} {zs : List IV}
theorem RA.q (h : RA B w qb L next oq cq zs) : w.cell? ⟨qb, 0, none⟩ = some (.slice oq L.length cq) ∧ w.cell? ⟨qb, 1, none⟩ = some (.int .i64 next) ∧ w.frozen? ⟨qb, 0, none⟩ = false ∧ w.frozen? ⟨qb, 1, none⟩ = false :=
  ⟨(new_cells h.head 0 (by simp)).1, (new_cells h.head 1 (by simp)).1, (new_cells h.head 0 (by simp)).2, (new_cells h.head 1 (by simp)).2⟩
theorem RA.qr (h : RA B w qb L next oq cq zs) : RfB w qb := ⟨_, _, _, h.head, .inl rfl⟩
/-- an inode of the document's, where it stands -/
structure RC (w : World) (oq : Option Addr) (zs : List IV) (k : Nat) (x : Ino) (g : Nat) (z : IV) : Prop where
  oq : oq = some ⟨g, 0, none⟩
  lt : g < w.heap.size
  rf : RfB w g
  hz : zs[k]? = some z
  c0 : w.cell? ⟨g, k * 6, none⟩ = some (.int .i64 x.i)
  c1 : w.cell? ⟨g, k * 6 + 1, none⟩ = some (.int .i64 x.k)
  c2 : w.cell? ⟨g, k * 6 + 2, none⟩ = some (.int .i64 x.l)
  c3 : w.cell? ⟨g, k * 6 + 3, none⟩ = some (.int .i64 x.o)
  c4 : w.cell? ⟨g, k * 6 + 4, none⟩ = some (.int .i64 x.s)
  c5 : w.cell? ⟨g, k * 6 + 5, none⟩ = some (.slice z.oa x.p.length z.c)
  fr : ∀ j, w.frozen? ⟨g, j, none⟩ = false
  rd : IRead w x z
theorem RA.at (h : RA B w qb L next oq cq zs) {k : Nat} {x : Ino} (hx : L[k]? = some x) : ∃ g z, RC w oq zs k x g z ∧ B ≤ g := by
  have hk : k < L.length := (List.getElem?_eq_some_iff.1 hx).1
  obtain ⟨z, hz⟩ : ∃ z, zs[k]? = some z := ⟨_, List.getElem?_eq_getElem (by rw [h.read.1]; exact hk)⟩
  have hr := h.read.2 k x z hx hz
  obtain ⟨g, e, hB, hg, hc⟩ := RowK.at encI_len (by omega) h.row hz
  obtain ⟨g', cs, e', _, _, hb, hf⟩ := RowK.free h.row (i := k) (by rw [h.read.1]; exact hk)
  have eg : g' = g := by
    rw [e] at e'
    injection e' with e'
    injection e' with e'
    exact e'.symm
  subst eg
  have hn : z.n = x.p.length := hr.n
  refine ⟨g', z, ⟨e, hg, ⟨_, _, _, hb, .inr rfl⟩, hz, ?_, ?_, ?_, ?_, ?_, ?_, hf, hr⟩, hB⟩
  · have := hc 0 _ rfl; rw [hr.i] at this; exact this
  · have := hc 1 _ rfl; rw [hr.k] at this; exact this
  · have := hc 2 _ rfl; rw [hr.l] at this; exact this
  · have := hc 3 _ rfl; rw [hr.o] at this; exact this
  · have := hc 4 _ rfl; rw [hr.s] at this; exact this
  · have := hc 5 _ rfl; rw [hn] at this; exact this
/-- one cell of an inode stored into -/
theorem RA.set (h : RA B w qb L next oq cq zs) {k g : Nat} {x x' : Ino} {z z' : IV} (hx : L[k]? = some x) (hc : RC w oq zs k x g z) (j : Nat) (v : Value) (hj : j < 6) (he : encI z' = (encI z).set j v)
    (hr : IRead w x' z') (ht : ∀ a, z'.oa = some a → PartB w a.block) : RA B (w.setCell ⟨g, k * 6 + j, none⟩ v) qb (L.set k x') next oq cq (zs.set k z') ∧ Only g w (w.setCell ⟨g, k * 6 + j, none⟩ v) := by
  have ho : Only g w (w.setCell ⟨g, k * 6 + j, none⟩ v) := (Only.refl g w).setCell _ v
  have hT : Tch w (w.setCell ⟨g, k * 6 + j, none⟩ v) := Tch.only ho hc.rf
  have hrow := h.row
  obtain rfl := hc.oq
  have hne : qb ≠ g := by
    intro e
    subst e
    obtain ⟨g', cs, e', _, _, hb, _⟩ := RowK.free hrow (i := k) (by rw [h.read.1]; exact (List.getElem?_eq_some_iff.1 hx).1)
    injection e' with e'
    injection e' with e'
    subst e'
    rw [h.head] at hb
    injection hb with hb
    injection hb with _ hb _
    exact absurd hb (by decide)
  have hty : ∀ (i : Nat) (y : IV), (zs.set k z')[i]? = some y → ∀ a, y.oa = some a → PartB w a.block := by
    intro i y hy a ha
    rw [List.getElem?_set] at hy
    split at hy
    · split at hy
      · injection hy with hy; subst hy; exact ht a ha
      · cases hy
    · exact h.ty i y hy a ha
  have hread : IReads w (L.set k x') (zs.set k z') := by
    refine ⟨by simpa using h.read.1, fun i a b ha hb => ?_⟩
    rw [List.getElem?_set] at ha hb
    split at ha
    · rename_i hk
      rw [if_pos hk] at hb
      split at ha
      · split at hb
        · injection ha with ha; injection hb with hb
          subst ha; subst hb; exact hr
        · cases hb
      · cases ha
    · rename_i hk
      rw [if_neg hk] at hb
      exact h.read.2 i a b ha hb
  refine ⟨⟨h.lt, ?_, ?_, hread.tch hty hT, fun i y hy a ha => (hty i y hy a ha).tch hT⟩, ho⟩
  · rw [List.length_set]; exact Only.heap ho h.head hne
  · rw [List.length_set]; exact RowK.put encI_len hrow hc.hz j v hj he
/-- another list stored -/
theorem RA.new {w' : World} {L' : List Ino} {zs' : List IV} {oa' : Option Addr} {c' : Nat} (h : RA B w qb L next oq cq zs) (hb : Below w.heap.size w w') (hB : B ≤ w.heap.size) (hr : RowK 82 encI 6 w.heap.size w' (.slice oa' L'.length c') zs')
    (hrd : IReads w' L' zs') (ht : ∀ (i : Nat) (z : IV), zs'[i]? = some z → ∀ a, z.oa = some a → PartB w' a.block) :
    RA B (w'.setCell ⟨qb, 0, none⟩ (.slice oa' L'.length c')) qb L' next oa' c' zs' ∧ Only qb w (w'.setCell ⟨qb, 0, none⟩ (.slice oa' L'.length c')) := by
  have hq := lt_of_block h.head
  have hh := (hb.block qb hq).trans h.head
  have ho : Only qb w' (w'.setCell ⟨qb, 0, none⟩ (.slice oa' L'.length c')) := (Only.refl qb w').setCell 0 _
  have hT : Tch w' (w'.setCell ⟨qb, 0, none⟩ (.slice oa' L'.length c')) := Tch.only ho ⟨_, _, _, hh, .inl rfl⟩
  refine ⟨⟨h.lt, ?_, ?_, hrd.tch ht hT, fun i y hy a ha => (ht i y hy a ha).tch hT⟩, (Only.of_below hb).trans ho⟩
  · rw [heap_setCell_same w' qb 0 _ _ _ hh]
    congr 2
  · refine ho.keepRow (hr.mono hB) (fun e => ?_)
    have := World.ownsRow.lt hr qb e
    omega
end
end Go.Proofs.Ytappgelpigoknaa.InoW

/- The document's table: Find. -/
namespace Go.Proofs.Ytappgelpigoknaa.InoW
set_option maxRecDepth 100000
set_option linter.unusedVariables false
open Go.RowKit InoP ExtW
variable {B qb cq : Nat} {L : List Ino} {next : Int} {oq : Option Addr} {zs : List IV}
set_option maxHeartbeats 800000 in
theorem rfind_any (i : Int) (m : Nat) (hm : m ≤ L.length) (hlt : ∀ j, j < m → ∀ y : Ino, L[j]? = some y → y.i ≠ i) (hst : ∀ y : Ino, L[m]? = some y → y.i = i) (hl : L.length ≤ 1000) (r : Int) (hr : r = if m < L.length then (m : Int) else -1) (w : World) (h : RA B w qb L next oq cq zs) :
    Calls Try.prog 37 #[.pointer (some ⟨qb, 0, none⟩), .int .i64 i] w fun e w' => e = .returned (.int .i64 r) ∧ w = w' := by
  have H := Lib.hid h
  have HLT := Lib.hid hlt
  have HST := Lib.hid hst
  have HR := Lib.hid hr
  have HL := Lib.hid hl
  have HM := Lib.hid hm
  obtain ⟨q0, _, _, _⟩ := h.q
  clear h hlt hst hr hl hm
  go_enter Try.func37, Try.ntmps37
  go_wp2_with fail
  go_loopw [5] (fun c wr => ∃ j : Nat, j ≤ m ∧ c = .int .i64 (j : Int) ∧ w = wr) (fun c _ => ((L.length : Int) - intOf c).toNat)
  case atStart => exact ⟨0, by omega, rfl, rfl⟩
  case round =>
    obtain ⟨j, hj, rfl, rfl⟩ := hrel
    have hl := HL.out
    have hm := HM.out
    by_cases hjl : j < L.length
    · obtain ⟨x, hx⟩ : ∃ x, L[j]? = some x := ⟨_, List.getElem?_eq_getElem hjl⟩
      obtain ⟨g, z, hc, _⟩ := H.out.at hx
      obtain rfl := hc.oq
      have c0 := hc.c0
      have hk1 : (j : Int) < (L.length : Int) := by omega
      have hk2 : (j : Int) < 1000 := by omega
      have HX := Lib.hid hx
      by_cases he : j = m
      · have hb : (x.i == i) = true := beq_iff_eq.2 (HST.out x (by rw [← he]; exact HX.out))
        have HE : Hid (r = (j : Int)) := Lib.hid (by rw [HR.out, ← he, if_pos hjl])
        clear hc hx hj he hl hm
        go_wp2_with fail
        go_ret
        exact ⟨congrArg (fun q => Ending.returned (.int .i64 q)) HE.out.symm, rfl⟩
      · have hb : (x.i == i) = false := beq_eq_false_iff_ne.2 (HLT.out j (by omega) x HX.out)
        have hjm : j < m := by omega
        clear hc hx
        go_wp2_with fail
        exact ⟨⟨j + 1, by omega, by simp, trivial⟩, by simp [intOf]; omega⟩
    · have hk1 : ¬ (j : Int) < (L.length : Int) := by omega
      have HE : Hid (r = -1) := Lib.hid (by rw [HR.out, if_neg (by omega)])
      clear hl hm
      go_wp2_with fail
      go_ret
      exact ⟨congrArg (fun q => Ending.returned (.int .i64 q)) HE.out.symm, rfl⟩
theorem rfind_yes {i : Int} {x : Ino} (hr : Rises L) (hl : L.length ≤ 1000) (hf : find L i = some x) : ∃ k : Nat, L[k]? = some x ∧ (∀ y : Ino, y.i = i → upd L y = L.set k y) ∧ del L i = L.take k ++ L.drop (k + 1) ∧ ∀ (B qb cq : Nat) (next : Int) (oq : Option Addr) (zs : List IV) (w : World), RA B w qb L next oq cq zs →
    Calls Try.prog 37 #[.pointer (some ⟨qb, 0, none⟩), .int .i64 i] w fun e w' => e = .returned (.int .i64 (k : Int)) ∧ w = w' := by
  obtain ⟨k, h1, h2, h3, h4⟩ := find_at hr hf
  have hk : k < L.length := (List.getElem?_eq_some_iff.1 h1).1
  refine ⟨k, h1, h3, h4, fun B qb cq next oq zs w h => rfind_any i k (by omega) h2 (fun y hy => ?_) hl (k : Int) (by rw [if_pos hk]) w h⟩
  rw [h1] at hy; injection hy with hy; rw [← hy]; exact (find_mem hf).2
theorem rfind_not {i : Int} (hl : L.length ≤ 1000) (hf : find L i = none) (B qb cq : Nat) (next : Int) (oq : Option Addr) (zs : List IV) (w : World) (h : RA B w qb L next oq cq zs) :
    Calls Try.prog 37 #[.pointer (some ⟨qb, 0, none⟩), .int .i64 i] w fun e w' => e = .returned (.int .i64 (-1)) ∧ w = w' :=
  rfind_any i L.length (Nat.le_refl _) (fun j _ y hy => find_nowhere hf j y hy) (fun y hy => by rw [List.getElem?_eq_none (Nat.le_refl _)] at hy; cases hy) hl (-1) (by rw [if_neg (Nat.lt_irrefl _)]) w h
end Go.Proofs.Ytappgelpigoknaa.InoW

/- The document's table: one that has neither links nor opens goes. -/
namespace Go.Proofs.Ytappgelpigoknaa.InoW
set_option maxRecDepth 100000
set_option linter.unusedVariables false
open Go.RowKit InoP ExtW
variable {B qb cq : Nat} {L : List Ino} {next : Int} {oq : Option Addr} {zs : List IV}
theorem flat_oneI (l : List IV) : ∀ u ∈ l.flatMap encI, u.oneCell' = true := by
  intro u hu
  obtain ⟨a, _, h⟩ := List.mem_flatMap.1 hu
  exact encI_one a u h
def endsL (L : List Ino) (x : Ino) (j : Nat) : List Ino := if x.l = 0 ∧ x.o = 0 then L.take j ++ L.drop (j + 1) else L
/-- what a call leaves -/
structure Lft (B : Nat) (w w' : World) (qb : Nat) (L' : List Ino) (next' : Int) : Prop where
  rt : RT B w' qb L' next'
  tch : Tch w w'
  below : Below B w w'
theorem row_size {α : Type} {enc : α → List Value} {k : Nat} {T : TypeId} {w : World} {oa : Option Addr} {n c : Nat} {l : List α} (h : RowK T enc k B w (.slice oa n c) l) : n = l.length := by
  obtain ⟨oa', cap, e, _⟩ := h.form
  injection e
theorem reads_cut {w : World} {j : Nat} (h : IReads w L zs) : IReads w (L.take j ++ L.drop (j + 1)) (zs.take j ++ zs.drop (j + 1)) := by
  have hl := h.1
  refine ⟨by simp [hl], fun i x y hx hy => ?_⟩
  have key : ∀ {α : Type} (l : List α), (l.take j ++ l.drop (j + 1))[i]? = if i < min j l.length then l[i]? else l[i - min j l.length + (j + 1)]? := by
    intro α l
    by_cases hi : i < min j l.length
    · rw [if_pos hi, List.getElem?_append_left (by rw [List.length_take]; exact hi), List.getElem?_take_of_lt (by omega)]
    · rw [if_neg hi, List.getElem?_append_right (by rw [List.length_take]; omega), List.length_take, List.getElem?_drop]
      congr 1
      omega
  rw [key] at hx hy
  rw [hl] at hy
  split at hx
  · rename_i hi
    rw [if_pos hi] at hy
    exact h.2 _ x y hx hy
  · rename_i hi
    rw [if_neg hi] at hy
    exact h.2 _ x y hx hy
theorem mem_cut {j i : Nat} {z : IV} (h : (zs.take j ++ zs.drop (j + 1))[i]? = some z) : ∃ k : Nat, zs[k]? = some z := by
  have hm := List.mem_of_getElem? h
  rcases List.mem_append.1 hm with h | h
  · exact List.getElem?_of_mem (List.mem_of_mem_take h)
  · exact List.getElem?_of_mem (List.mem_of_mem_drop h)
set_option maxHeartbeats 1600000 in
theorem rends_any (j : Nat) (x : Ino) (hx : L[j]? = some x) (hl : L.length ≤ 1000) (w : World) (h : RA B w qb L next oq cq zs) (hBw : B ≤ w.heap.size) :
    Calls Try.prog 38 #[.pointer (some ⟨qb, 0, none⟩), .int .i64 (j : Int)] w fun e w' => e = .returned (.tuple #[]) ∧ Lft B w w' qb (endsL L x j) next := by
  obtain ⟨i0, hi, hz0, hz1, hz2⟩ := info_parts rino_info
  have H := Lib.hid h
  obtain ⟨p0, _, f0, _⟩ := h.q
  obtain ⟨g, z, hc, _⟩ := h.at hx
  have HP := Lib.hid (RowK.pts encI_len (by omega) h.row)
  obtain ⟨a, ha, hab, _, _, c2, c3, _, _⟩ := iv_at HP.out hc.hz
  rw [hc.rd.l] at c2
  rw [hc.rd.o] at c3
  have hqb : qb < w.heap.size := lt_of_block h.head
  have hjl : j < L.length := (List.getElem?_eq_some_iff.1 hx).1
  have hj1 : (j : Int) < (L.length : Int) := by omega
  have hj2 : (j : Int) < 1000 := by omega
  have hzl : zs.length = L.length := h.read.1
  have HBw := Lib.hid hBw
  obtain ⟨oa', cap', e1, hcap, hcm, _⟩ := h.row.form
  have hcap2 : L.length ≤ cq ∧ cq ≤ maxLen := by
    injection e1 with _ _ e1
    rw [hzl] at hcap
    omega
  subst ha
  obtain ⟨cap, hcq⟩ : ∃ cap, cap = cq := ⟨_, rfl⟩
  subst hcq
  have hc1 := hcap2.1
  have hc2 := hcap2.2
  clear hcap2 e1 hcap hcm h
  by_cases hzr : x.l = 0 ∧ x.o = 0
  · have b1 : (x.l == 0) = true := beq_iff_eq.2 hzr.1
    have b2 : (x.o == 0) = true := beq_iff_eq.2 hzr.2
    have hw1 : IntKind.i64.wrap ((j : Int) + 1) = (j : Int) + 1 := IntWalk.i64_in _ (by omega)
    have hq1 : (0 : Int) ≤ (j : Int) + 1 := by omega
    have hq2 : ((j : Int) + 1).toNat = j + 1 := by omega
    have hq3 : (j : Int) ≤ (cap : Int) := by omega
    have hq4 : (j : Int) + 1 ≤ (L.length : Int) := by omega
    have hq5 : (L.length : Int) ≤ (cap : Int) := by omega
    have HL1 : Hid (((zs.take j).flatMap encI).length = j * 6) := Lib.hid (by rw [flat_len encI_len, List.length_take, Nat.min_eq_left (by omega)])
    have HL2 : Hid (((zs.drop (j + 1)).flatMap encI).length = (L.length - (j + 1)) * 6) := Lib.hid (by rw [flat_len encI_len, List.length_drop, hzl])
    have HLN : Hid ([] ++ (zs.take j).flatMap encI ++ (zs.drop (j + 1)).flatMap encI = (zs.take j ++ zs.drop (j + 1)).flatMap encI ∧ 0 + (j) + (L.length - (j + 1)) = (zs.take j ++ zs.drop (j + 1)).length) := Lib.hid (by
      refine ⟨by simp, ?_⟩
      rw [List.length_append, List.length_take, List.length_drop, Nat.min_eq_left (by omega), hzl]; omega)
    have HW1 := Lib.hid fun W (hb : Below w.heap.size w W) => news_take encI_len (by omega) (HP.out.below hb) j
    have HW2 := Lib.hid fun W (hb : Below w.heap.size w W) => news_drop encI_len (by omega) (HP.out.below hb) (show zs.length ≤ cap by omega) (j + 1)
    have HFIN : Hid (∀ wL oaL nL capL, Below w.heap.size w wL → RowK 82 encI 6 w.heap.size wL (.slice oaL nL capL) (zs.take j ++ zs.drop (j + 1)) → Lft B w (wL.setCell ⟨qb, 0, none⟩ (.slice oaL nL capL)) qb (endsL L x j) next) := Lib.hid (by
      intro wL oaL nL capL hb hr
      have e : nL = (L.take j ++ L.drop (j + 1)).length := by
        rw [row_size hr]
        simp [hzl]
      subst e
      unfold endsL
      rw [if_pos hzr]
      obtain ⟨r1, r2⟩ := RA.new H.out hb HBw.out hr (reads_cut (H.out.read.grow hb)) (fun i y hy a ha => by
        obtain ⟨k, hk⟩ := mem_cut hy
        exact (H.out.ty k y hk a ha).grow hb)
      exact ⟨r1.rt, Tch.only r2 H.out.qr, r2.below H.out.lt HBw.out⟩)
    clear hc hzl hx hzr hBw
    go_enter Try.func38, Try.ntmps38
    go_wp2_with fail
    have HS0 := Lib.hid (seeS p0 (Below.refl w.heap.size w).drew)
    refine regionL 19 20 (fun w' => w'.cell? ⟨qb, 0, none⟩ = some ((.slice (some a) L.length cap)) ∧ Below w.heap.size w w') (by kernel_rfl) rfl ?_
    refine takeL 0 (some 24) (v := ?_) rfl (by kernel_rfl) (by kernel_rfl) (by kernel_rfl) (by kernel_rfl) (fun _ _ _ h => h) rfl rfl HS0.out ?_ ?_
    rotate_left
    · intro wq hq
      have g0 := hq.1
      go_simp
      with_reducible rfl
    simp only [Act.put, List.setIfInBounds_toArray, List.set_cons_zero, List.set_cons_succ]
    refine takeL 2 (some 26) (v := ?_) rfl (by kernel_rfl) (by kernel_rfl) (by kernel_rfl) (by kernel_rfl) (fun _ _ _ h => h) rfl rfl HS0.out ?_ ?_
    rotate_left
    · intro wq hq
      have g0 := hq.1
      go_simp
      with_reducible rfl
    simp only [Act.put, List.setIfInBounds_toArray, List.set_cons_zero, List.set_cons_succ]
    refine takeL 3 (some 27) (v := ?_) rfl (by kernel_rfl) (by kernel_rfl) (by kernel_rfl) (by kernel_rfl) (fun _ _ _ h => h) rfl rfl HS0.out ?_ ?_
    rotate_left
    · intro wq hq
      have g0 := hq.1
      go_simp
      with_reducible rfl
    simp only [Act.put, List.setIfInBounds_toArray, List.set_cons_zero, List.set_cons_succ]
    refine takeL 4 (some 28) (v := ?_) rfl (by kernel_rfl) (by kernel_rfl) (by kernel_rfl) (by kernel_rfl) (fun _ _ _ h => h) rfl rfl HS0.out ?_ ?_
    rotate_left
    · intro wq hq
      have g0 := hq.1
      go_simp
      with_reducible rfl
    simp only [Act.put, List.setIfInBounds_toArray, List.set_cons_zero, List.set_cons_succ]
    refine takeL 5 (some 29) (v := ?_) rfl (by kernel_rfl) (by kernel_rfl) (by kernel_rfl) (by kernel_rfl) (fun _ _ _ h => h) rfl rfl HS0.out ?_ ?_
    rotate_left
    · intro wq hq
      have g0 := hq.1
      go_simp
      with_reducible rfl
    simp only [Act.put, List.setIfInBounds_toArray, List.set_cons_zero, List.set_cons_succ]
    refine takeL 6 (some 30) (v := ?_) rfl (by kernel_rfl) (by kernel_rfl) (by kernel_rfl) (by kernel_rfl) (fun _ _ _ h => h) rfl rfl HS0.out ?_ ?_
    rotate_left
    · intro wq hq
      have g0 := hq.1
      go_simp
      with_reducible rfl
    simp only [Act.put, List.setIfInBounds_toArray, List.set_cons_zero, List.set_cons_succ]
    refine takeL 7 (some 31) (v := ?_) rfl (by kernel_rfl) (by kernel_rfl) (by kernel_rfl) (by kernel_rfl) (fun _ _ _ h => h) rfl rfl HS0.out ?_ ?_
    rotate_left
    · intro wq hq
      have g0 := hq.1
      go_simp
      with_reducible rfl
    simp only [Act.put, List.setIfInBounds_toArray, List.set_cons_zero, List.set_cons_succ]
    refine takeL 9 (some 33) (v := ?_) rfl (by kernel_rfl) (by kernel_rfl) (by kernel_rfl) (by kernel_rfl) (fun _ _ _ h => h) rfl rfl HS0.out ?_ ?_
    rotate_left
    · intro wq hq
      have g0 := hq.1
      go_simp
      with_reducible rfl
    simp only [Act.put, List.setIfInBounds_toArray, List.set_cons_zero, List.set_cons_succ]
    refine takeL 10 (some 34) (v := ?_) rfl (by kernel_rfl) (by kernel_rfl) (by kernel_rfl) (by kernel_rfl) (fun _ _ _ h => h) rfl rfl HS0.out ?_ ?_
    rotate_left
    · intro wq hq
      have g0 := hq.1
      go_simp
      with_reducible rfl
    simp only [Act.put, List.setIfInBounds_toArray, List.set_cons_zero, List.set_cons_succ]
    refine takeL 11 (some 35) (v := ?_) rfl (by kernel_rfl) (by kernel_rfl) (by kernel_rfl) (by kernel_rfl) (fun _ _ _ h => h) rfl rfl HS0.out ?_ ?_
    rotate_left
    · intro wq hq
      have g0 := hq.1
      go_simp
      with_reducible rfl
    simp only [Act.put, List.setIfInBounds_toArray, List.set_cons_zero, List.set_cons_succ]
    refine takeL 12 (some 36) (v := ?_) rfl (by kernel_rfl) (by kernel_rfl) (by kernel_rfl) (by kernel_rfl) (fun _ _ _ h => h) rfl rfl HS0.out ?_ ?_
    rotate_left
    · intro wq hq
      have g0 := hq.1
      go_simp
      with_reducible rfl
    simp only [Act.put, List.setIfInBounds_toArray, List.set_cons_zero, List.set_cons_succ]
    refine takeL 13 (some 37) (v := ?_) rfl (by kernel_rfl) (by kernel_rfl) (by kernel_rfl) (by kernel_rfl) (fun _ _ _ h => h) rfl rfl HS0.out ?_ ?_
    rotate_left
    · intro wq hq
      have g0 := hq.1
      go_simp
      with_reducible rfl
    simp only [Act.put, List.setIfInBounds_toArray, List.set_cons_zero, List.set_cons_succ]
    refine takeL 14 (some 38) (v := ?_) rfl (by kernel_rfl) (by kernel_rfl) (by kernel_rfl) (by kernel_rfl) (fun _ _ _ h => h) rfl rfl HS0.out ?_ ?_
    rotate_left
    · intro wq hq
      have g0 := hq.1
      go_simp
      with_reducible rfl
    simp only [Act.put, List.setIfInBounds_toArray, List.set_cons_zero, List.set_cons_succ]
    refine takeL 15 (some 39) (v := ?_) rfl (by kernel_rfl) (by kernel_rfl) (by kernel_rfl) (by kernel_rfl) (fun _ _ _ h => h) rfl rfl HS0.out ?_ ?_
    rotate_left
    · intro wq hq
      have g0 := hq.1
      go_simp
      with_reducible rfl
    simp only [Act.put, List.setIfInBounds_toArray, List.set_cons_zero, List.set_cons_succ]
    refine oneL 1 (by kernel_rfl) rfl rfl (wp_runs (some 25) (v := .slice (some ⟨w.heap.size, 0, none⟩) 0 0) (w' := (w.alloc (.cells #[] 82)).drew) rfl (by go_simp) ⟨fun _ => seeS p0 (below_alloc w _).drew, ?_⟩)
    simp only [Act.put, List.setIfInBounds_toArray, List.set_cons_zero, List.set_cons_succ]
    refine oneL 8 (by kernel_rfl) rfl rfl (wp_append_both (some 32) rfl rfl _ _ 59 rfl w.heap.size 82 i0 (.agg #[.int .i64 0, .int .i64 0, .int .i64 0, .int .i64 0, .int .i64 0, .slice none 0 0]) 6 64 Try.underlying59 hi hz0 hz1 hz2 rfl (by decide) _ (.slice (some ⟨w.heap.size, 0, none⟩) 0 0) (0) ([]) rfl (own_empty_at (W := w.drew) rfl _ _ _ (Nat.le_refl _)) (some a) (j) (cap) ((zs.take j).flatMap encI) rfl (fun e => by cases e) HL1.out (HW1.out _ (below_alloc w _).drew) (flat_oneI _) (by unfold maxLen; omega) (by omega) (below_alloc w _).drew.size ?_)
    intro oa1 cap1 w1 h1 h2 h3
    have HR1 := Lib.hid h1
    have HB1 := Lib.hid ((below_alloc w _).drew.trans h2)
    clear h1 h2 h3
    refine ⟨fun _ => seeS p0 HB1.out, ?_⟩
    simp only [Act.put, List.setIfInBounds_toArray, List.set_cons_zero, List.set_cons_succ]
    refine oneL 16 (by kernel_rfl) rfl rfl (wp_append_both (some 40) rfl rfl _ _ 59 rfl w.heap.size 82 i0 (.agg #[.int .i64 0, .int .i64 0, .int .i64 0, .int .i64 0, .int .i64 0, .slice none 0 0]) 6 64 Try.underlying59 hi hz0 hz1 hz2 rfl (by decide) _ (.slice oa1 (0 + (j)) cap1) (0 + (j)) ([] ++ ((zs.take j).flatMap encI)) rfl HR1.out (if cap = j + 1 then some a else some (a.add ((j + 1) * 6))) (L.length - (j + 1)) ((cap - (j + 1))) ((zs.drop (j + 1)).flatMap encI) rfl (fun e => by split at e <;> cases e) HL2.out (HW2.out _ HB1.out) (flat_oneI _) (by unfold maxLen; omega) (by omega) HB1.out.size ?_)
    intro oaL capL wL h1 h2 h3
    have HRL : Hid (RowK 82 encI 6 w.heap.size wL (.slice oaL (0 + (j) + (L.length - (j + 1))) capL) ((zs.take j ++ zs.drop (j + 1)))) := Lib.hid (own_row h1 HLN.out)
    have HBL := Lib.hid (HB1.out.trans h2)
    clear h1 h2 h3
    refine ⟨fun _ => seeS p0 HBL.out, ?_⟩
    simp only [Act.put, List.setIfInBounds_toArray, List.set_cons_zero, List.set_cons_succ]
    have q0 := cell_step HBL.out p0
    have r0 : wL.frozen? ⟨qb, 0, none⟩ = false := (HBL.out.frozen hqb).trans f0
    generalize (if cap = j + 1 then some a else some (a.add ((j + 1) * 6))) = oD
    refine oneL 17 (by kernel_rfl) rfl rfl (wp_runs (some 41) (v := .pointer (some ⟨qb, 0, none⟩)) (w' := wL) rfl (by go_simp) ⟨fun _ => seeS p0 HBL.out, ?_⟩)
    simp only [Act.put, List.setIfInBounds_toArray, List.set_cons_zero, List.set_cons_succ]
    refine oneL 18 (by kernel_rfl) rfl rfl (wp_runs (some 42) (v := .pointer (some ⟨qb, 0, none⟩)) (w' := wL) rfl (by go_simp) ⟨fun _ => seeS p0 HBL.out, ?_⟩)
    simp only [Act.put, List.setIfInBounds_toArray, List.set_cons_zero, List.set_cons_succ]
    generalize 0 + (j) + (L.length - (j + 1)) = nL at HRL ⊢
    refine oneL 19 (by kernel_rfl) rfl rfl (wp_skips none (w' := wL.setCell ⟨qb, 0, none⟩ (.slice oaL nL capL)) rfl (by go_simp) ⟨fun h => absurd rfl h, ?_⟩)
    simp only [Act.put]
    refine doneL (by kernel_rfl) ?_
    go_wp2
    go_end0
    exact ⟨rfl, HFIN.out _ _ _ _ HBL.out HRL.out⟩
  · have hzr' : ¬ (x.l = 0 ∧ x.o = 0) := hzr
    have HE : Hid (Lft B w w qb (endsL L x j) next) := Lib.hid (by
      unfold endsL
      rw [if_neg hzr]
      exact ⟨H.out.rt, Tch.refl w, Below.refl _ _⟩)
    have hcs : (x.l == 0) = false ∨ ((x.l == 0) = true ∧ (x.o == 0) = false) := by
      by_cases h1 : x.l = 0
      · exact .inr ⟨beq_iff_eq.2 h1, beq_eq_false_iff_ne.2 (fun e => hzr ⟨h1, e⟩)⟩
      · exact .inl (beq_eq_false_iff_ne.2 h1)
    clear hc hzl hx hzr hzr' hBw
    rcases hcs with b1 | ⟨b1, b2⟩
    all_goals
      go_enter Try.func38, Try.ntmps38
      go_wp2_with fail
      go_end0
      exact ⟨rfl, HE.out⟩
end Go.Proofs.Ytappgelpigoknaa.InoW

/- The document's table: Link, Open. -/
namespace Go.Proofs.Ytappgelpigoknaa.InoW
set_option maxRecDepth 100000
set_option linter.unusedVariables false
open Go.RowKit InoP ExtW
variable {B qb cq : Nat} {L : List Ino} {next : Int} {oq : Option Addr} {zs : List IV}
set_option maxHeartbeats 1600000 in
theorem rlink_any (i d : Int) (hg : TGood L next) (w : World) (h : RT B w qb L next) (hBw : B ≤ w.heap.size) :
    Calls Try.prog 17 #[.pointer (some ⟨qb, 0, none⟩), .int .i64 i, .int .i64 d] w fun e w' => e = .returned (.int .i64 (linkE L i d)) ∧ Lft B w w' qb (linkL L i d) next := by
  obtain ⟨oq, cq, zs, hra⟩ := h.ra
  have H := Lib.hid hra
  have hl : L.length ≤ 1000 := by have := hg.len; omega
  have HG := Lib.hid hg
  have HBW := Lib.hid hBw
  cases hf : find L i with
  | none =>
    have HE : Hid (linkE L i d = 60 ∧ linkL L i d = L) := Lib.hid (by unfold linkE linkL; rw [hf]; exact ⟨rfl, rfl⟩)
    have HC := Lib.hid (rfind_not hl hf B qb cq next oq zs w hra)
    clear h hra hl hg hf hBw
    go_enter Try.func17, Try.ntmps17
    go_wp2_with fail
    refine HC.out.mono ?_
    rintro e w2 ⟨rfl, rfl⟩
    go_wp2_with fail
    go_ret
    exact ⟨ret_int HE.out.1.symm, by rw [HE.out.2]; exact ⟨H.out.rt, Tch.refl _, Below.refl _ _⟩⟩
  | some x =>
    have HF := Lib.hid hf
    obtain ⟨k, hk, hu, hd, hfi⟩ := rfind_yes hg.rises hl hf
    have HK := Lib.hid hk
    have HU := Lib.hid hu
    have HD := Lib.hid hd
    have HL := Lib.hid hl
    have HC := Lib.hid (hfi B qb cq next oq zs w hra)
    have hxi := (find_mem hf).2
    have HXI := Lib.hid hxi
    have HXG := Lib.hid (hg.all x (find_mem hf).1)
    obtain ⟨q0, _, _, _⟩ := hra.q
    obtain ⟨g, z, hc, hBg⟩ := hra.at hk
    have HRC := Lib.hid hc
    have HBG := Lib.hid hBg
    obtain rfl := hc.oq
    have c1 := hc.c1
    have cf := hc.c2
    have ff := hc.fr (k * 6 + 2)
    have hkl : k < L.length := (List.getElem?_eq_some_iff.1 hk).1
    have hk1 : (k : Int) < (L.length : Int) := by omega
    have hk2 : (k : Int) < 1000 := by omega
    have hk0 : ¬ (k : Int) < 0 := by omega
    have hxr : 0 ≤ x.l ∧ x.l ≤ 8 := (hg.all x (find_mem hf).1).l
    clear h hra hg hf hBw hu hd hfi hc hkl hk hl hBg hxi
    by_cases hb : d = 1 ∨ d = -1
    rotate_left
    · have q1 : (d != 1) = true := bne_iff_ne.2 (fun e => hb (.inl e))
      have q2 : (d != -1) = true := bne_iff_ne.2 (fun e => hb (.inr e))
      have HE : Hid (linkE L i d = 1 ∧ linkL L i d = L) := Lib.hid (by
        have e : linkE L i d = 1 := by unfold linkE; rw [HF.out]; exact if_neg (fun e => hb e.1)
        exact ⟨e, by unfold linkL; rw [HF.out]; exact if_neg (by rw [e]; decide)⟩)
      clear hb hxr
      go_enter Try.func17, Try.ntmps17
      go_wp2_with fail
      refine HC.out.mono ?_
      rintro e w2 ⟨rfl, rfl⟩
      go_wp2_with fail
      go_ret
      exact ⟨ret_int HE.out.1.symm, by rw [HE.out.2]; exact ⟨H.out.rt, Tch.refl _, Below.refl _ _⟩⟩
    by_cases hi1 : i = 1
    · have q3 : (i == 1) = true := beq_iff_eq.2 hi1
      have q1 : (d != 1) = false ∨ ((d != 1) = true ∧ (d != -1) = false) := by
        rcases hb with rfl | rfl
        · exact .inl rfl
        · exact .inr ⟨rfl, rfl⟩
      have HE : Hid (linkE L i d = 1 ∧ linkL L i d = L) := Lib.hid (by
        have e : linkE L i d = 1 := by unfold linkE; rw [HF.out]; exact if_neg (fun e => e.2 hi1)
        exact ⟨e, by unfold linkL; rw [HF.out]; exact if_neg (by rw [e]; decide)⟩)
      clear hb hi1 hxr
      rcases q1 with q1 | ⟨q1, q2⟩
      all_goals
        go_enter Try.func17, Try.ntmps17
        go_wp2_with fail
        refine HC.out.mono ?_
        rintro e w2 ⟨rfl, rfl⟩
        go_wp2_with fail
        go_ret
        exact ⟨ret_int HE.out.1.symm, by rw [HE.out.2]; exact ⟨H.out.rt, Tch.refl _, Below.refl _ _⟩⟩
    have q3 : (i == 1) = false := beq_eq_false_iff_ne.2 hi1
    by_cases hov : x.l + d < 0 ∨ 8 < x.l + d
    · have HE : Hid (linkE L i d = 66 ∧ linkL L i d = L) := Lib.hid (by
        have e : linkE L i d = 66 := by unfold linkE; rw [HF.out]; exact (if_pos (⟨hb, hi1⟩ : (d = 1 ∨ d = -1) ∧ i ≠ 1)).trans (if_pos hov)
        exact ⟨e, by unfold linkL; rw [HF.out]; exact if_neg (by rw [e]; decide)⟩)
      rcases hb with rfl | rfl
      · have hw : IntKind.i64.wrap (x.l + 1) = x.l + 1 := IntWalk.i64_in _ (by omega)
        have h8 : 8 < x.l + 1 := by omega
        have h9 : decide (x.l + 1 < 0) = false := decide_eq_false (by omega)
        clear hov hxr
        go_enter Try.func17, Try.ntmps17
        go_wp2_with fail
        refine HC.out.mono ?_
        rintro e w2 ⟨rfl, rfl⟩
        go_wp2_with fail
        go_ret
        exact ⟨ret_int HE.out.1.symm, by rw [HE.out.2]; exact ⟨H.out.rt, Tch.refl _, Below.refl _ _⟩⟩
      · have hw : IntKind.i64.wrap (x.l + -1) = x.l + -1 := IntWalk.i64_in _ (by omega)
        have h8 : x.l + -1 < 0 := by omega
        clear hov hxr
        go_enter Try.func17, Try.ntmps17
        go_wp2_with fail
        refine HC.out.mono ?_
        rintro e w2 ⟨rfl, rfl⟩
        go_wp2_with fail
        go_ret
        exact ⟨ret_int HE.out.1.symm, by rw [HE.out.2]; exact ⟨H.out.rt, Tch.refl _, Below.refl _ _⟩⟩
    have HE : Hid (linkE L i d = 0) := Lib.hid (by unfold linkE; rw [HF.out]; exact (if_pos (⟨hb, hi1⟩ : (d = 1 ∨ d = -1) ∧ i ≠ 1)).trans (if_neg hov))
    have HLL : Hid (linkL L i d = keepL L { x with l := x.l + d } (decide (d < 0))) := Lib.hid (by
      unfold linkL
      rw [HF.out]
      exact if_pos HE.out)
    have HSET : Hid (RA B (w.setCell ⟨g, k * 6 + 2, none⟩ (.int .i64 (x.l + d))) qb (L.set k { x with l := x.l + d }) next (some ⟨g, 0, none⟩) cq (zs.set k { z with l := x.l + d }) ∧ Only g w (w.setCell ⟨g, k * 6 + 2, none⟩ (.int .i64 (x.l + d)))) := Lib.hid (RA.set H.out HK.out HRC.out 2 (.int .i64 (x.l + d)) (by omega) rfl { HRC.out.rd with l := rfl } (fun a ha => H.out.ty k z HRC.out.hz a ha))
    have HUP : Hid (upd L { x with l := x.l + d } = L.set k { x with l := x.l + d }) := Lib.hid (HU.out _ HXI.out)
    have HT1 : Hid (Tch w (w.setCell ⟨g, k * 6 + 2, none⟩ (.int .i64 (x.l + d))) ∧ Below B w (w.setCell ⟨g, k * 6 + 2, none⟩ (.int .i64 (x.l + d)))) := Lib.hid ⟨Tch.only HSET.out.2 HRC.out.rf, HSET.out.2.below HBG.out HBW.out⟩
    rcases hb with rfl | rfl
    · have hw : IntKind.i64.wrap (x.l + 1) = x.l + 1 := IntWalk.i64_in _ (by omega)
      have h8 : decide (8 < x.l + 1) = false := decide_eq_false (by omega)
      have h9 : decide (x.l + 1 < 0) = false := decide_eq_false (by omega)
      have HFIN : Hid (keepL L { x with l := x.l + 1 } (decide ((1 : Int) < 0)) = L.set k { x with l := x.l + 1 }) := Lib.hid (by
        unfold keepL
        rw [if_neg (fun e => absurd e.1 (by decide))]
        exact HUP.out)
      clear hov hxr
      go_enter Try.func17, Try.ntmps17
      go_wp2_with fail
      refine HC.out.mono ?_
      rintro e w2 ⟨rfl, rfl⟩
      go_wp2_with fail
      go_ret
      exact ⟨ret_int HE.out.symm, by rw [HLL.out, HFIN.out]; exact ⟨HSET.out.1.rt, HT1.out.1, HT1.out.2⟩⟩
    · have hw : IntKind.i64.wrap (x.l + -1) = x.l + -1 := IntWalk.i64_in _ (by omega)
      have h8 : decide (8 < x.l + -1) = false := decide_eq_false (by omega)
      have h9 : decide (x.l + -1 < 0) = false := decide_eq_false (by omega)
      have HFIN : Hid (keepL L { x with l := x.l + -1 } (decide ((-1 : Int) < 0)) = endsL (L.set k { x with l := x.l + -1 }) { x with l := x.l + -1 } k) := Lib.hid (by
        have h1 := HXG.out.l
        have h2 := HXG.out.o
        unfold keepL endsL
        by_cases hz : ({ x with l := x.l + -1 } : Ino).l = 0 ∧ ({ x with l := x.l + -1 } : Ino).o = 0
        · rw [if_pos hz, if_pos ⟨by decide, by rw [hz.1, hz.2]; rfl⟩]
          show del L x.i = _
          rw [HXI.out, HD.out, List.take_set_of_le (Nat.le_refl _), List.drop_set_of_lt (by omega)]
        · rw [if_neg hz, if_neg (fun e => hz (by have e2 := e.2; simp only at e2 ⊢; omega))]
          exact HUP.out)
      have HXK : Hid ((L.set k { x with l := x.l + -1 })[k]? = some { x with l := x.l + -1 }) := Lib.hid (by
        rw [List.getElem?_set_self (List.getElem?_eq_some_iff.1 HK.out).1])
      clear hov hxr
      go_enter Try.func17, Try.ntmps17
      go_wp2_with fail
      refine HC.out.mono ?_
      rintro e w2 ⟨rfl, rfl⟩
      go_wp2_with fail
      generalize w.setCell ⟨g, k * 6 + 2, none⟩ (.int .i64 (x.l + -1)) = w3 at *
      refine (rends_any k _ HXK.out (by rw [List.length_set]; exact HL.out) w3 HSET.out.1 (Nat.le_trans HBW.out HT1.out.2.size)).mono ?_
      rintro e w4 ⟨rfl, hlf⟩
      have HLF := Lib.hid hlf
      clear hlf
      go_wp2_with fail
      go_ret
      exact ⟨ret_int HE.out.symm, by rw [HLL.out, HFIN.out]; exact ⟨HLF.out.rt, HT1.out.1.trans HLF.out.tch, HT1.out.2.trans HLF.out.below⟩⟩
set_option maxHeartbeats 1600000 in
theorem ropen_any (i d : Int) (hg : TGood L next) (w : World) (h : RT B w qb L next) (hBw : B ≤ w.heap.size) :
    Calls Try.prog 39 #[.pointer (some ⟨qb, 0, none⟩), .int .i64 i, .int .i64 d] w fun e w' => e = .returned (.int .i64 (openE L i d)) ∧ Lft B w w' qb (openL L i d) next := by
  obtain ⟨oq, cq, zs, hra⟩ := h.ra
  have H := Lib.hid hra
  have hl : L.length ≤ 1000 := by have := hg.len; omega
  have HG := Lib.hid hg
  have HBW := Lib.hid hBw
  cases hf : find L i with
  | none =>
    have HE : Hid (openE L i d = 60 ∧ openL L i d = L) := Lib.hid (by unfold openE openL; rw [hf]; exact ⟨rfl, rfl⟩)
    have HC := Lib.hid (rfind_not hl hf B qb cq next oq zs w hra)
    clear h hra hl hg hf hBw
    go_enter Try.func39, Try.ntmps39
    go_wp2_with fail
    refine HC.out.mono ?_
    rintro e w2 ⟨rfl, rfl⟩
    go_wp2_with fail
    go_ret
    exact ⟨ret_int HE.out.1.symm, by rw [HE.out.2]; exact ⟨H.out.rt, Tch.refl _, Below.refl _ _⟩⟩
  | some x =>
    have HF := Lib.hid hf
    obtain ⟨k, hk, hu, hd, hfi⟩ := rfind_yes hg.rises hl hf
    have HK := Lib.hid hk
    have HU := Lib.hid hu
    have HD := Lib.hid hd
    have HL := Lib.hid hl
    have HC := Lib.hid (hfi B qb cq next oq zs w hra)
    have hxi := (find_mem hf).2
    have HXI := Lib.hid hxi
    have HXG := Lib.hid (hg.all x (find_mem hf).1)
    obtain ⟨q0, _, _, _⟩ := hra.q
    obtain ⟨g, z, hc, hBg⟩ := hra.at hk
    have HRC := Lib.hid hc
    have HBG := Lib.hid hBg
    obtain rfl := hc.oq
    have c1 := hc.c1
    have cf := hc.c3
    have ff := hc.fr (k * 6 + 3)
    have hkl : k < L.length := (List.getElem?_eq_some_iff.1 hk).1
    have hk1 : (k : Int) < (L.length : Int) := by omega
    have hk2 : (k : Int) < 1000 := by omega
    have hk0 : ¬ (k : Int) < 0 := by omega
    have hxr : 0 ≤ x.o ∧ x.o ≤ 128 := (hg.all x (find_mem hf).1).o
    clear h hra hg hf hBw hu hd hfi hc hkl hk hl hBg hxi
    by_cases hb : d = 1 ∨ d = -1
    rotate_left
    · have q1 : (d != 1) = true := bne_iff_ne.2 (fun e => hb (.inl e))
      have q2 : (d != -1) = true := bne_iff_ne.2 (fun e => hb (.inr e))
      have HE : Hid (openE L i d = 1 ∧ openL L i d = L) := Lib.hid (by
        have e : openE L i d = 1 := by unfold openE; rw [HF.out]; exact if_neg hb
        exact ⟨e, by unfold openL; rw [HF.out]; exact if_neg (by rw [e]; decide)⟩)
      clear hb hxr
      go_enter Try.func39, Try.ntmps39
      go_wp2_with fail
      refine HC.out.mono ?_
      rintro e w2 ⟨rfl, rfl⟩
      go_wp2_with fail
      go_ret
      exact ⟨ret_int HE.out.1.symm, by rw [HE.out.2]; exact ⟨H.out.rt, Tch.refl _, Below.refl _ _⟩⟩
    by_cases hk63 : x.k = 1
    · have q4 : (x.k == 1) = true := beq_iff_eq.2 hk63
      have HE : Hid (openE L i d = 63 ∧ openL L i d = L) := Lib.hid (by
        have e : openE L i d = 63 := by unfold openE; rw [HF.out]; exact (if_pos hb).trans (if_pos hk63)
        exact ⟨e, by unfold openL; rw [HF.out]; exact if_neg (by rw [e]; decide)⟩)
      clear hxr hk63
      rcases hb with rfl | rfl
      all_goals
        go_enter Try.func39, Try.ntmps39
        go_wp2_with fail
        refine HC.out.mono ?_
        rintro e w2 ⟨rfl, rfl⟩
        go_wp2_with fail
        go_ret
        exact ⟨ret_int HE.out.1.symm, by rw [HE.out.2]; exact ⟨H.out.rt, Tch.refl _, Below.refl _ _⟩⟩
    have q4 : (x.k == 1) = false := beq_eq_false_iff_ne.2 hk63
    by_cases hov : x.o + d < 0 ∨ 128 < x.o + d
    · have HE : Hid (openE L i d = 3 ∧ openL L i d = L) := Lib.hid (by
        have e : openE L i d = 3 := by unfold openE; rw [HF.out]; exact ((if_pos hb).trans (if_neg hk63)).trans (if_pos hov)
        exact ⟨e, by unfold openL; rw [HF.out]; exact if_neg (by rw [e]; decide)⟩)
      rcases hb with rfl | rfl
      · have hw : IntKind.i64.wrap (x.o + 1) = x.o + 1 := IntWalk.i64_in _ (by omega)
        have h8 : 128 < x.o + 1 := by omega
        have h9 : decide (x.o + 1 < 0) = false := decide_eq_false (by omega)
        clear hov hxr
        go_enter Try.func39, Try.ntmps39
        go_wp2_with fail
        refine HC.out.mono ?_
        rintro e w2 ⟨rfl, rfl⟩
        go_wp2_with fail
        go_ret
        exact ⟨ret_int HE.out.1.symm, by rw [HE.out.2]; exact ⟨H.out.rt, Tch.refl _, Below.refl _ _⟩⟩
      · have hw : IntKind.i64.wrap (x.o + -1) = x.o + -1 := IntWalk.i64_in _ (by omega)
        have h8 : x.o + -1 < 0 := by omega
        clear hov hxr
        go_enter Try.func39, Try.ntmps39
        go_wp2_with fail
        refine HC.out.mono ?_
        rintro e w2 ⟨rfl, rfl⟩
        go_wp2_with fail
        go_ret
        exact ⟨ret_int HE.out.1.symm, by rw [HE.out.2]; exact ⟨H.out.rt, Tch.refl _, Below.refl _ _⟩⟩
    have HE : Hid (openE L i d = 0) := Lib.hid (by unfold openE; rw [HF.out]; exact ((if_pos hb).trans (if_neg hk63)).trans (if_neg hov))
    have HLL : Hid (openL L i d = keepL L { x with o := x.o + d } (decide (d < 0))) := Lib.hid (by
      unfold openL
      rw [HF.out]
      exact if_pos HE.out)
    have HSET : Hid (RA B (w.setCell ⟨g, k * 6 + 3, none⟩ (.int .i64 (x.o + d))) qb (L.set k { x with o := x.o + d }) next (some ⟨g, 0, none⟩) cq (zs.set k { z with o := x.o + d }) ∧ Only g w (w.setCell ⟨g, k * 6 + 3, none⟩ (.int .i64 (x.o + d)))) := Lib.hid (RA.set H.out HK.out HRC.out 3 (.int .i64 (x.o + d)) (by omega) rfl { HRC.out.rd with o := rfl } (fun a ha => H.out.ty k z HRC.out.hz a ha))
    have HUP : Hid (upd L { x with o := x.o + d } = L.set k { x with o := x.o + d }) := Lib.hid (HU.out _ HXI.out)
    have HT1 : Hid (Tch w (w.setCell ⟨g, k * 6 + 3, none⟩ (.int .i64 (x.o + d))) ∧ Below B w (w.setCell ⟨g, k * 6 + 3, none⟩ (.int .i64 (x.o + d)))) := Lib.hid ⟨Tch.only HSET.out.2 HRC.out.rf, HSET.out.2.below HBG.out HBW.out⟩
    rcases hb with rfl | rfl
    · have hw : IntKind.i64.wrap (x.o + 1) = x.o + 1 := IntWalk.i64_in _ (by omega)
      have h8 : decide (128 < x.o + 1) = false := decide_eq_false (by omega)
      have h9 : decide (x.o + 1 < 0) = false := decide_eq_false (by omega)
      have HFIN : Hid (keepL L { x with o := x.o + 1 } (decide ((1 : Int) < 0)) = L.set k { x with o := x.o + 1 }) := Lib.hid (by
        unfold keepL
        rw [if_neg (fun e => absurd e.1 (by decide))]
        exact HUP.out)
      clear hov hxr
      go_enter Try.func39, Try.ntmps39
      go_wp2_with fail
      refine HC.out.mono ?_
      rintro e w2 ⟨rfl, rfl⟩
      go_wp2_with fail
      go_ret
      exact ⟨ret_int HE.out.symm, by rw [HLL.out, HFIN.out]; exact ⟨HSET.out.1.rt, HT1.out.1, HT1.out.2⟩⟩
    · have hw : IntKind.i64.wrap (x.o + -1) = x.o + -1 := IntWalk.i64_in _ (by omega)
      have h8 : decide (128 < x.o + -1) = false := decide_eq_false (by omega)
      have h9 : decide (x.o + -1 < 0) = false := decide_eq_false (by omega)
      have HFIN : Hid (keepL L { x with o := x.o + -1 } (decide ((-1 : Int) < 0)) = endsL (L.set k { x with o := x.o + -1 }) { x with o := x.o + -1 } k) := Lib.hid (by
        have h1 := HXG.out.l
        have h2 := HXG.out.o
        unfold keepL endsL
        by_cases hz : ({ x with o := x.o + -1 } : Ino).l = 0 ∧ ({ x with o := x.o + -1 } : Ino).o = 0
        · rw [if_pos hz, if_pos ⟨by decide, by rw [hz.1, hz.2]; rfl⟩]
          show del L x.i = _
          rw [HXI.out, HD.out, List.take_set_of_le (Nat.le_refl _), List.drop_set_of_lt (by omega)]
        · rw [if_neg hz, if_neg (fun e => hz (by have e2 := e.2; simp only at e2 ⊢; omega))]
          exact HUP.out)
      have HXK : Hid ((L.set k { x with o := x.o + -1 })[k]? = some { x with o := x.o + -1 }) := Lib.hid (by
        rw [List.getElem?_set_self (List.getElem?_eq_some_iff.1 HK.out).1])
      clear hov hxr
      go_enter Try.func39, Try.ntmps39
      go_wp2_with fail
      refine HC.out.mono ?_
      rintro e w2 ⟨rfl, rfl⟩
      go_wp2_with fail
      generalize w.setCell ⟨g, k * 6 + 3, none⟩ (.int .i64 (x.o + -1)) = w3 at *
      refine (rends_any k _ HXK.out (by rw [List.length_set]; exact HL.out) w3 HSET.out.1 (Nat.le_trans HBW.out HT1.out.2.size)).mono ?_
      rintro e w4 ⟨rfl, hlf⟩
      have HLF := Lib.hid hlf
      clear hlf
      go_wp2_with fail
      go_ret
      exact ⟨ret_int HE.out.symm, by rw [HLL.out, HFIN.out]; exact ⟨HLF.out.rt, HT1.out.1.trans HLF.out.tch, HT1.out.2.trans HLF.out.below⟩⟩
end Go.Proofs.Ytappgelpigoknaa.InoW

/- The document's table: New, Make, file, space. -/
namespace Go.Proofs.Ytappgelpigoknaa.InoW
set_option maxRecDepth 100000
set_option linter.unusedVariables false
open Go.RowKit InoP ExtW
variable {B qb cq : Nat} {L : List Ino} {next : Int} {oq : Option Addr} {zs : List IV}
theorem RA.setN {w : World} (h : RA B w qb L next oq cq zs) (n : Int) : RA B (w.setCell ⟨qb, 1, none⟩ (.int .i64 n)) qb L n oq cq zs ∧ Tch w (w.setCell ⟨qb, 1, none⟩ (.int .i64 n)) ∧ Below B w (w.setCell ⟨qb, 1, none⟩ (.int .i64 n)) ∧ (w.setCell ⟨qb, 1, none⟩ (.int .i64 n)).cell? ⟨qb, 1, none⟩ = some (.int .i64 n) := by
  have ho : Only qb w (w.setCell ⟨qb, 1, none⟩ (.int .i64 n)) := (Only.refl qb w).setCell 1 _
  have hT := Tch.only ho h.qr
  have hh : (w.setCell ⟨qb, 1, none⟩ (.int .i64 n)).heap[qb]? = some (.cells #[.slice oq L.length cq, .int .i64 n] 84 (0, 0)) := by
    rw [heap_setCell_same w qb 1 _ _ _ h.head]; congr 2
  refine ⟨⟨h.lt, hh, row_kept h.row fun g hg => ?_, h.read.tch h.ty hT, fun i y hy a ha => (h.ty i y hy a ha).tch hT⟩, hT, (Below.refl B w).setCell (p := ⟨qb, 1, none⟩) h.lt _, (new_cells hh 1 (by simp)).1⟩
  obtain ⟨_, cs, hb⟩ := row_own h.row g hg
  refine ho.block g (lt_of_block hb) (fun e => ?_)
  injection e with e
  subst e
  rw [h.head] at hb
  injection hb with hb
  injection hb with _ hb _
  exact absurd hb (by decide)
theorem reads_snoc {w : World} (h : IReads w L zs) (k next : Int) : IReads w (L ++ [⟨next, k, 0, 0, 0, []⟩]) (zs ++ [⟨next, k, 0, 0, 0, none, 0, 0⟩]) :=
  h.snoc ⟨rfl, rfl, rfl, rfl, rfl, rfl, fun i x hx => by simp at hx, fun _ => ⟨rfl, rfl⟩⟩
set_option maxHeartbeats 3200000 in
theorem rmake_any (kk : Int) (hk : kk = 1 ∨ kk = 2) (hl : L.length < 64) (hn : 2 ≤ next ∧ next < 2147483647) (w : World) (h : RT B w qb L next) (hBw : B ≤ w.heap.size) :
    Calls Try.prog 16 #[.pointer (some ⟨qb, 0, none⟩), .int .i64 kk] w fun e w' => e = .returned (.tuple #[.int .i64 next, .int .i64 0]) ∧ Lft B w w' qb (L ++ [⟨next, kk, 0, 0, 0, []⟩]) (next + 1) := by
  obtain ⟨i0, hi, hz0, hz1, hz2⟩ := info_parts rino_info
  obtain ⟨oq, cap, zs, h⟩ := h.ra
  have H := Lib.hid h
  obtain ⟨p0, p1, f0, f1⟩ := h.q
  have HP := Lib.hid (RowK.pts encI_len (by omega) h.row)
  have hqb : qb < w.heap.size := lt_of_block h.head
  have hzl : zs.length = L.length := h.read.1
  have HBw := Lib.hid hBw
  have hlz : L.length ≤ 100 := by omega
  have HNN : Hid (oq = none → L.length = 0 ∧ cap = 0) := Lib.hid (by
    obtain ⟨oa', cap', e1, _, _, hno⟩ := h.row.form
    injection e1 with e1 e2 e3
    intro hq
    subst e1
    obtain ⟨h1, h2⟩ := hno hq
    exact ⟨by omega, by omega⟩)
  have HL1 : Hid ((zs.flatMap encI).length = L.length * 6) := Lib.hid (by rw [flat_len encI_len, hzl])
  have HLN : Hid ([] ++ zs.flatMap encI ++ (#[.int .i64 next, .int .i64 kk, .int .i64 0, .int .i64 0, .int .i64 0, .slice none 0 0] : Array Value).toList = (zs ++ [(⟨next, kk, 0, 0, 0, none, 0, 0⟩ : IV)]).flatMap encI ∧ 0 + (L.length) + 1 = (zs ++ [(⟨next, kk, 0, 0, 0, none, 0, 0⟩ : IV)]).length) := Lib.hid (by
    refine ⟨by simp [encI], by simp [hzl]⟩)
  have HW1 := Lib.hid fun W (hb : Below w.heap.size w W) => kat_news encI_len (by omega) (HP.out.below hb)
  have HNEW : Hid (∀ wL oaL nL capL, Below w.heap.size w wL → RowK 82 encI 6 w.heap.size wL (.slice oaL nL capL) (zs ++ [⟨next, kk, 0, 0, 0, none, 0, 0⟩]) → RA B (wL.setCell ⟨qb, 0, none⟩ (.slice oaL nL capL)) qb (L ++ [⟨next, kk, 0, 0, 0, []⟩]) next oaL capL (zs ++ [⟨next, kk, 0, 0, 0, none, 0, 0⟩]) ∧ Tch w (wL.setCell ⟨qb, 0, none⟩ (.slice oaL nL capL)) ∧ Below B w (wL.setCell ⟨qb, 0, none⟩ (.slice oaL nL capL))) := Lib.hid (by
    intro wL oaL nL capL hb hr
    have e : nL = (L ++ [(⟨next, kk, 0, 0, 0, []⟩ : Ino)]).length := by
      rw [row_size hr]
      simp [hzl]
    subst e
    obtain ⟨r1, r2⟩ := RA.new H.out hb HBw.out hr (reads_snoc (H.out.read.grow hb) kk next) (fun i y hy a ha => by
      rcases List.mem_append.1 (List.mem_of_getElem? hy) with hy | hy
      · obtain ⟨k, hk⟩ := List.getElem?_of_mem hy
        exact (H.out.ty k y hk a ha).grow hb
      · rw [List.mem_singleton] at hy
        subst hy; cases ha)
    exact ⟨r1, Tch.only r2 H.out.qr, r2.below H.out.lt HBw.out⟩)
  have a1 : decide ((64 : Int) ≤ (L.length : Int)) = false := decide_eq_false (by omega)
  have a2 : decide ((2147483647 : Int) ≤ next) = false := decide_eq_false (by omega)
  have a3 : IntKind.i64.wrap (next + 1) = next + 1 := IntWalk.i64_in _ (by omega)
  have a4 : IntKind.i64.wrap (next + 1 - 1) = next := by rw [IntWalk.i64_in _ (by omega)]; omega
  have HWN : Hid (wrap64 next = next) := Lib.hid (IntWalk.wrap64_in _ ⟨by omega, by omega⟩)
  clear hl hn h hzl hBw
  rcases hk with rfl | rfl
  · go_enter Try.func16, Try.ntmps16
    go_wp2_with fail
    clear a1 a2
    have HS0 := Lib.hid (seeS p0 (Below.refl w.heap.size w).drew)
    refine regionL 17 18 (fun w' => w'.cell? ⟨qb, 0, none⟩ = some ((.slice oq L.length cap)) ∧ Below w.heap.size w w') (by kernel_rfl) rfl ?_
    refine takeL 0 (some 25) (v := ?_) rfl (by kernel_rfl) (by kernel_rfl) (by kernel_rfl) (by kernel_rfl) (fun _ _ _ h => h) rfl rfl HS0.out ?_ ?_
    rotate_left
    · intro wq hq
      have g0 := hq.1
      have g1 := cell_step hq.2 p1
      go_simp
      with_reducible rfl
    simp only [Act.put, List.setIfInBounds_toArray, List.set_cons_zero, List.set_cons_succ]
    refine takeL 2 (some 27) (v := ?_) rfl (by kernel_rfl) (by kernel_rfl) (by kernel_rfl) (by kernel_rfl) (fun _ _ _ h => h) rfl rfl HS0.out ?_ ?_
    rotate_left
    · intro wq hq
      have g0 := hq.1
      have g1 := cell_step hq.2 p1
      go_simp
      with_reducible rfl
    simp only [Act.put, List.setIfInBounds_toArray, List.set_cons_zero, List.set_cons_succ]
    refine takeL 3 (some 28) (v := ?_) rfl (by kernel_rfl) (by kernel_rfl) (by kernel_rfl) (by kernel_rfl) (fun _ _ _ h => h) rfl rfl HS0.out ?_ ?_
    rotate_left
    · intro wq hq
      have g0 := hq.1
      have g1 := cell_step hq.2 p1
      go_simp
      with_reducible rfl
    simp only [Act.put, List.setIfInBounds_toArray, List.set_cons_zero, List.set_cons_succ]
    refine takeL 4 (some 29) (v := ?_) rfl (by kernel_rfl) (by kernel_rfl) (by kernel_rfl) (by kernel_rfl) (fun _ _ _ h => h) rfl rfl HS0.out ?_ ?_
    rotate_left
    · intro wq hq
      have g0 := hq.1
      have g1 := cell_step hq.2 p1
      go_simp
      with_reducible rfl
    simp only [Act.put, List.setIfInBounds_toArray, List.set_cons_zero, List.set_cons_succ]
    refine takeL 5 (some 30) (v := ?_) rfl (by kernel_rfl) (by kernel_rfl) (by kernel_rfl) (by kernel_rfl) (fun _ _ _ h => h) rfl rfl HS0.out ?_ ?_
    rotate_left
    · intro wq hq
      have g0 := hq.1
      have g1 := cell_step hq.2 p1
      go_simp
      with_reducible rfl
    simp only [Act.put, List.setIfInBounds_toArray, List.set_cons_zero, List.set_cons_succ]
    refine takeL 7 (some 32) (v := ?_) rfl (by kernel_rfl) (by kernel_rfl) (by kernel_rfl) (by kernel_rfl) (fun _ _ _ h => h) rfl rfl HS0.out ?_ ?_
    rotate_left
    · intro wq hq
      have g0 := hq.1
      have g1 := cell_step hq.2 p1
      go_simp
      with_reducible rfl
    simp only [Act.put, List.setIfInBounds_toArray, List.set_cons_zero, List.set_cons_succ]
    refine takeL 8 (some 33) (v := ?_) rfl (by kernel_rfl) (by kernel_rfl) (by kernel_rfl) (by kernel_rfl) (fun _ _ _ h => h) rfl rfl HS0.out ?_ ?_
    rotate_left
    · intro wq hq
      have g0 := hq.1
      have g1 := cell_step hq.2 p1
      go_simp
      with_reducible rfl
    simp only [Act.put, List.setIfInBounds_toArray, List.set_cons_zero, List.set_cons_succ]
    refine takeL 9 (some 34) (v := ?_) rfl (by kernel_rfl) (by kernel_rfl) (by kernel_rfl) (by kernel_rfl) (fun _ _ _ h => h) rfl rfl HS0.out ?_ ?_
    rotate_left
    · intro wq hq
      have g0 := hq.1
      have g1 := cell_step hq.2 p1
      go_simp
      with_reducible rfl
    simp only [Act.put, List.setIfInBounds_toArray, List.set_cons_zero, List.set_cons_succ]
    refine takeL 10 (some 35) (v := ?_) rfl (by kernel_rfl) (by kernel_rfl) (by kernel_rfl) (by kernel_rfl) (fun _ _ _ h => h) rfl rfl HS0.out ?_ ?_
    rotate_left
    · intro wq hq
      have g0 := hq.1
      have g1 := cell_step hq.2 p1
      go_simp
      with_reducible rfl
    simp only [Act.put, List.setIfInBounds_toArray, List.set_cons_zero, List.set_cons_succ]
    refine takeL 11 (some 36) (v := ?_) rfl (by kernel_rfl) (by kernel_rfl) (by kernel_rfl) (by kernel_rfl) (fun _ _ _ h => h) rfl rfl HS0.out ?_ ?_
    rotate_left
    · intro wq hq
      have g0 := hq.1
      have g1 := cell_step hq.2 p1
      go_simp
      with_reducible rfl
    simp only [Act.put, List.setIfInBounds_toArray, List.set_cons_zero, List.set_cons_succ]
    refine takeL 12 (some 37) (v := ?_) rfl (by kernel_rfl) (by kernel_rfl) (by kernel_rfl) (by kernel_rfl) (fun _ _ _ h => h) rfl rfl HS0.out ?_ ?_
    rotate_left
    · intro wq hq
      have g0 := hq.1
      have g1 := cell_step hq.2 p1
      go_simp
      with_reducible rfl
    simp only [Act.put, List.setIfInBounds_toArray, List.set_cons_zero, List.set_cons_succ]
    refine twoL 1 13 (by kernel_rfl) rfl rfl rfl rfl (wp_runs (some 26) (v := .slice (some ⟨w.heap.size, 0, none⟩) 0 0) (w' := (w.alloc (.cells #[] 82)).drew) rfl (by go_simp) ⟨fun _ => seeS p0 (below_alloc w _).drew, ?_⟩) (wp_runs (some 38) (v := .slice (some ⟨w.heap.size, 0, none⟩) 1 1) (w' := (w.alloc (.cells #[.int .i64 next, .int .i64 1, .int .i64 0, .int .i64 0, .int .i64 0, .slice none 0 0] 82)).drew) rfl (by go_simp) ⟨fun _ => seeS p0 (below_alloc w _).drew, ?_⟩)
    · simp only [Act.put, List.setIfInBounds_toArray, List.set_cons_zero, List.set_cons_succ]
      refine twoL 6 13 (by kernel_rfl) rfl rfl rfl rfl (wp_append_both (some 31) rfl rfl _ _ 59 rfl w.heap.size 82 i0 (.agg #[.int .i64 0, .int .i64 0, .int .i64 0, .int .i64 0, .int .i64 0, .slice none 0 0]) 6 64 Try.underlying59 hi hz0 hz1 hz2 rfl (by decide) _ (.slice (some ⟨w.heap.size, 0, none⟩) 0 0) (0) ([]) rfl (own_empty_at (W := w.drew) rfl _ _ _ (Nat.le_refl _)) oq (L.length) (cap) (zs.flatMap encI) rfl HNN.out HL1.out (HW1.out _ (below_alloc w _).drew) (flat_oneI _) (by unfold maxLen; omega) (by omega) (below_alloc w _).drew.size ?_) (wp_runs (some 38) (v := .slice (some ⟨w.heap.size + 1, 0, none⟩) 1 1) (w' := ((w.alloc (.cells #[] 82)).alloc (.cells #[.int .i64 next, .int .i64 1, .int .i64 0, .int .i64 0, .int .i64 0, .slice none 0 0] 82)).drew) rfl (by go_simp) ⟨fun _ => seeS p0 ((below_alloc w (.cells #[] 82)).trans ((below_alloc (w.alloc (.cells #[] 82)) (.cells #[.int .i64 next, .int .i64 1, .int .i64 0, .int .i64 0, .int .i64 0, .slice none 0 0] 82)).mono (by simp))).drew, ?_⟩)
      · intro oa1 cap1 w1 h1 h2 h3
        have HR1 := Lib.hid h1
        have HB1 := Lib.hid ((below_alloc w _).drew.trans h2)
        clear h1 h2 h3
        refine ⟨fun _ => seeS p0 HB1.out, ?_⟩
        simp only [Act.put, List.setIfInBounds_toArray, List.set_cons_zero, List.set_cons_succ]
        refine oneL 13 (by kernel_rfl) rfl rfl (wp_runs (some 38) (v := .slice (some ⟨w1.heap.size, 0, none⟩) 1 1) (w' := w1.alloc (.cells #[.int .i64 next, .int .i64 1, .int .i64 0, .int .i64 0, .int .i64 0, .slice none 0 0] 82)) rfl (by go_simp) ⟨fun _ => seeS p0 (HB1.out.trans ((below_alloc w1 _).mono HB1.out.size)), ?_⟩)
        simp only [Act.put, List.setIfInBounds_toArray, List.set_cons_zero, List.set_cons_succ]
        refine oneL 14 (by kernel_rfl) rfl rfl (wp_append_both (some 39) rfl rfl _ _ 59 rfl w.heap.size 82 i0 (.agg #[.int .i64 0, .int .i64 0, .int .i64 0, .int .i64 0, .int .i64 0, .slice none 0 0]) 6 64 Try.underlying59 hi hz0 hz1 hz2 rfl (by decide) _ (.slice oa1 (0 + (L.length)) cap1) (0 + (L.length)) ([] ++ (zs.flatMap encI)) rfl (own_grow HR1.out (below_alloc w1 _)) (some ⟨w1.heap.size, 0, none⟩) (1) (1) ((#[.int .i64 next, .int .i64 1, .int .i64 0, .int .i64 0, .int .i64 0, .slice none 0 0] : Array Value).toList) rfl (fun e => by cases e) rfl (fun ad e => by cases e; exact World.news_of_block (heap_alloc_new w1 _)) (encI_one ⟨next, 1, 0, 0, 0, none, 0, 0⟩) (by unfold maxLen; omega) (by omega) (by have := HB1.out.size; simp; omega) ?_)
        intro oaL capL wL h1 h2 h3
        have HRL : Hid (RowK 82 encI 6 w.heap.size wL (.slice oaL (0 + (L.length) + 1) capL) (zs ++ [⟨next, 1, 0, 0, 0, none, 0, 0⟩])) := Lib.hid (own_row h1 HLN.out)
        have HBL := Lib.hid ((HB1.out.trans ((below_alloc w1 _).mono HB1.out.size)).trans h2)
        clear h1 h2 h3
        refine ⟨fun _ => seeS p0 HBL.out, ?_⟩
        simp only [Act.put, List.setIfInBounds_toArray, List.set_cons_zero, List.set_cons_succ]
        have q0 := cell_step HBL.out p0
        have r0 : wL.frozen? ⟨qb, 0, none⟩ = false := (HBL.out.frozen hqb).trans f0
        refine oneL 15 (by kernel_rfl) rfl rfl (wp_runs (some 40) (v := .pointer (some ⟨qb, 0, none⟩)) (w' := wL) rfl (by go_simp) ⟨fun _ => seeS p0 HBL.out, ?_⟩)
        simp only [Act.put, List.setIfInBounds_toArray, List.set_cons_zero, List.set_cons_succ]
        refine oneL 16 (by kernel_rfl) rfl rfl (wp_runs (some 41) (v := .pointer (some ⟨qb, 0, none⟩)) (w' := wL) rfl (by go_simp) ⟨fun _ => seeS p0 HBL.out, ?_⟩)
        simp only [Act.put, List.setIfInBounds_toArray, List.set_cons_zero, List.set_cons_succ]
        generalize 0 + (L.length) + 1 = nL at HRL ⊢
        refine oneL 17 (by kernel_rfl) rfl rfl (wp_skips none (w' := wL.setCell ⟨qb, 0, none⟩ (.slice oaL nL capL)) rfl (by go_simp) ⟨fun h => absurd rfl h, ?_⟩)
        simp only [Act.put]
        refine doneL (by kernel_rfl) ?_
        try simp only [Exit.then]
        have HRA := Lib.hid (HNEW.out _ _ _ _ HBL.out HRL.out)
        generalize wL.setCell ⟨qb, 0, none⟩ (.slice oaL nL capL) = w6 at *
        obtain ⟨_, t1, _, t2⟩ := HRA.out.1.q
        clear q0 r0 p0 p1 f0 f1 hqb
        go_wp2_with fail
        clear t1 t2
        obtain ⟨r1, r2, r3, r4⟩ := RA.setN HRA.out.1 (next + 1)
        have HR7 := Lib.hid r1
        have HT7 := Lib.hid (And.intro r2 r3)
        clear r1 r2 r3
        generalize w6.setCell ⟨qb, 1, none⟩ (.int .i64 (next + 1)) = w7 at *
        go_wp2_with fail
        go_ret2
        exact ⟨congrArg (fun q => Ending.returned (.tuple #[.int .i64 q, .int .i64 0])) HWN.out, HR7.out.rt, HRA.out.2.1.trans HT7.out.1, HRA.out.2.2.trans HT7.out.2⟩
      · simp only [Act.put, List.setIfInBounds_toArray, List.set_cons_zero, List.set_cons_succ]
        refine oneL 6 (by kernel_rfl) rfl rfl (wp_append_both (some 31) rfl rfl _ _ 59 rfl w.heap.size 82 i0 (.agg #[.int .i64 0, .int .i64 0, .int .i64 0, .int .i64 0, .int .i64 0, .slice none 0 0]) 6 64 Try.underlying59 hi hz0 hz1 hz2 rfl (by decide) _ (.slice (some ⟨w.heap.size, 0, none⟩) 0 0) (0) ([]) rfl (own_grow (own_empty_at (W := w.drew) rfl _ _ _ (Nat.le_refl _)) (below_alloc _ _)) oq (L.length) (cap) (zs.flatMap encI) rfl HNN.out HL1.out (HW1.out _ ((below_alloc w (.cells #[] 82)).trans ((below_alloc (w.alloc (.cells #[] 82)) (.cells #[.int .i64 next, .int .i64 1, .int .i64 0, .int .i64 0, .int .i64 0, .slice none 0 0] 82)).mono (by simp))).drew) (flat_oneI _) (by unfold maxLen; omega) (by omega) (by simp; omega) ?_)
        intro oa1 cap1 w1 h1 h2 h3
        have HR1 := Lib.hid h1
        have HX1 : Hid (w1.heap[w.heap.size + 1]? = some (.cells #[.int .i64 next, .int .i64 1, .int .i64 0, .int .i64 0, .int .i64 0, .slice none 0 0] 82)) := Lib.hid ((h3.block _ (by simp) (by simp [Value.ownBlock])).trans (by have := heap_alloc_new (w.alloc (.cells #[] 82)) (.cells #[.int .i64 next, .int .i64 1, .int .i64 0, .int .i64 0, .int .i64 0, .slice none 0 0] 82); rw [show (w.alloc (.cells #[] 82)).heap.size = w.heap.size + 1 by simp] at this; exact this))
        have HB1 := Lib.hid (((below_alloc w (.cells #[] 82)).trans ((below_alloc (w.alloc (.cells #[] 82)) (.cells #[.int .i64 next, .int .i64 1, .int .i64 0, .int .i64 0, .int .i64 0, .slice none 0 0] 82)).mono (by simp))).drew.trans h2)
        clear h1 h2 h3
        refine ⟨fun _ => seeS p0 HB1.out, ?_⟩
        simp only [Act.put, List.setIfInBounds_toArray, List.set_cons_zero, List.set_cons_succ]
        refine oneL 14 (by kernel_rfl) rfl rfl (wp_append_both (some 39) rfl rfl _ _ 59 rfl w.heap.size 82 i0 (.agg #[.int .i64 0, .int .i64 0, .int .i64 0, .int .i64 0, .int .i64 0, .slice none 0 0]) 6 64 Try.underlying59 hi hz0 hz1 hz2 rfl (by decide) _ (.slice oa1 (0 + (L.length)) cap1) (0 + (L.length)) ([] ++ (zs.flatMap encI)) rfl HR1.out (some ⟨w.heap.size + 1, 0, none⟩) (1) (1) ((#[.int .i64 next, .int .i64 1, .int .i64 0, .int .i64 0, .int .i64 0, .slice none 0 0] : Array Value).toList) rfl (fun e => by cases e) rfl (fun ad e => by cases e; exact World.news_of_block HX1.out) (encI_one ⟨next, 1, 0, 0, 0, none, 0, 0⟩) (by unfold maxLen; omega) (by omega) HB1.out.size ?_)
        intro oaL capL wL h1 h2 h3
        have HRL : Hid (RowK 82 encI 6 w.heap.size wL (.slice oaL (0 + (L.length) + 1) capL) (zs ++ [⟨next, 1, 0, 0, 0, none, 0, 0⟩])) := Lib.hid (own_row h1 HLN.out)
        have HBL := Lib.hid (HB1.out.trans h2)
        clear h1 h2 h3
        refine ⟨fun _ => seeS p0 HBL.out, ?_⟩
        simp only [Act.put, List.setIfInBounds_toArray, List.set_cons_zero, List.set_cons_succ]
        have q0 := cell_step HBL.out p0
        have r0 : wL.frozen? ⟨qb, 0, none⟩ = false := (HBL.out.frozen hqb).trans f0
        refine oneL 15 (by kernel_rfl) rfl rfl (wp_runs (some 40) (v := .pointer (some ⟨qb, 0, none⟩)) (w' := wL) rfl (by go_simp) ⟨fun _ => seeS p0 HBL.out, ?_⟩)
        simp only [Act.put, List.setIfInBounds_toArray, List.set_cons_zero, List.set_cons_succ]
        refine oneL 16 (by kernel_rfl) rfl rfl (wp_runs (some 41) (v := .pointer (some ⟨qb, 0, none⟩)) (w' := wL) rfl (by go_simp) ⟨fun _ => seeS p0 HBL.out, ?_⟩)
        simp only [Act.put, List.setIfInBounds_toArray, List.set_cons_zero, List.set_cons_succ]
        generalize 0 + (L.length) + 1 = nL at HRL ⊢
        refine oneL 17 (by kernel_rfl) rfl rfl (wp_skips none (w' := wL.setCell ⟨qb, 0, none⟩ (.slice oaL nL capL)) rfl (by go_simp) ⟨fun h => absurd rfl h, ?_⟩)
        simp only [Act.put]
        refine doneL (by kernel_rfl) ?_
        try simp only [Exit.then]
        have HRA := Lib.hid (HNEW.out _ _ _ _ HBL.out HRL.out)
        generalize wL.setCell ⟨qb, 0, none⟩ (.slice oaL nL capL) = w6 at *
        obtain ⟨_, t1, _, t2⟩ := HRA.out.1.q
        clear q0 r0 p0 p1 f0 f1 hqb
        go_wp2_with fail
        clear t1 t2
        obtain ⟨r1, r2, r3, r4⟩ := RA.setN HRA.out.1 (next + 1)
        have HR7 := Lib.hid r1
        have HT7 := Lib.hid (And.intro r2 r3)
        clear r1 r2 r3
        generalize w6.setCell ⟨qb, 1, none⟩ (.int .i64 (next + 1)) = w7 at *
        go_wp2_with fail
        go_ret2
        exact ⟨congrArg (fun q => Ending.returned (.tuple #[.int .i64 q, .int .i64 0])) HWN.out, HR7.out.rt, HRA.out.2.1.trans HT7.out.1, HRA.out.2.2.trans HT7.out.2⟩
    · simp only [Act.put, List.setIfInBounds_toArray, List.set_cons_zero, List.set_cons_succ]
      refine oneL 1 (by kernel_rfl) rfl rfl (wp_runs (some 26) (v := .slice (some ⟨w.heap.size + 1, 0, none⟩) 0 0) (w' := ((w.alloc (.cells #[.int .i64 next, .int .i64 1, .int .i64 0, .int .i64 0, .int .i64 0, .slice none 0 0] 82)).alloc (.cells #[] 82)).drew) rfl (by go_simp) ⟨fun _ => seeS p0 ((below_alloc w (.cells #[.int .i64 next, .int .i64 1, .int .i64 0, .int .i64 0, .int .i64 0, .slice none 0 0] 82)).trans ((below_alloc (w.alloc (.cells #[.int .i64 next, .int .i64 1, .int .i64 0, .int .i64 0, .int .i64 0, .slice none 0 0] 82)) (.cells #[] 82)).mono (by simp))).drew, ?_⟩)
      simp only [Act.put, List.setIfInBounds_toArray, List.set_cons_zero, List.set_cons_succ]
      refine oneL 6 (by kernel_rfl) rfl rfl (wp_append_both (some 31) rfl rfl _ _ 59 rfl w.heap.size 82 i0 (.agg #[.int .i64 0, .int .i64 0, .int .i64 0, .int .i64 0, .int .i64 0, .slice none 0 0]) 6 64 Try.underlying59 hi hz0 hz1 hz2 rfl (by decide) _ (.slice (some ⟨w.heap.size + 1, 0, none⟩) 0 0) (0) ([]) rfl (own_empty_at (W := (w.alloc (.cells #[.int .i64 next, .int .i64 1, .int .i64 0, .int .i64 0, .int .i64 0, .slice none 0 0] 82)).drew) (by simp) _ _ _ (by omega)) oq (L.length) (cap) (zs.flatMap encI) rfl HNN.out HL1.out (HW1.out _ ((below_alloc w (.cells #[.int .i64 next, .int .i64 1, .int .i64 0, .int .i64 0, .int .i64 0, .slice none 0 0] 82)).trans ((below_alloc (w.alloc (.cells #[.int .i64 next, .int .i64 1, .int .i64 0, .int .i64 0, .int .i64 0, .slice none 0 0] 82)) (.cells #[] 82)).mono (by simp))).drew) (flat_oneI _) (by unfold maxLen; omega) (by omega) (by simp; omega) ?_)
      intro oa1 cap1 w1 h1 h2 h3
      have HR1 := Lib.hid h1
      have HX1 : Hid (w1.heap[w.heap.size]? = some (.cells #[.int .i64 next, .int .i64 1, .int .i64 0, .int .i64 0, .int .i64 0, .slice none 0 0] 82)) := Lib.hid ((h3.block _ (by simp; omega) (by simp [Value.ownBlock])).trans ((Below.heap_alloc (w.alloc (.cells #[.int .i64 next, .int .i64 1, .int .i64 0, .int .i64 0, .int .i64 0, .slice none 0 0] 82)) (.cells #[] 82) _ (by simp)).trans (heap_alloc_new w _)))
      have HB1 := Lib.hid (((below_alloc w (.cells #[.int .i64 next, .int .i64 1, .int .i64 0, .int .i64 0, .int .i64 0, .slice none 0 0] 82)).trans ((below_alloc (w.alloc (.cells #[.int .i64 next, .int .i64 1, .int .i64 0, .int .i64 0, .int .i64 0, .slice none 0 0] 82)) (.cells #[] 82)).mono (by simp))).drew.trans h2)
      clear h1 h2 h3
      refine ⟨fun _ => seeS p0 HB1.out, ?_⟩
      simp only [Act.put, List.setIfInBounds_toArray, List.set_cons_zero, List.set_cons_succ]
      refine oneL 14 (by kernel_rfl) rfl rfl (wp_append_both (some 39) rfl rfl _ _ 59 rfl w.heap.size 82 i0 (.agg #[.int .i64 0, .int .i64 0, .int .i64 0, .int .i64 0, .int .i64 0, .slice none 0 0]) 6 64 Try.underlying59 hi hz0 hz1 hz2 rfl (by decide) _ (.slice oa1 (0 + (L.length)) cap1) (0 + (L.length)) ([] ++ (zs.flatMap encI)) rfl HR1.out (some ⟨w.heap.size, 0, none⟩) (1) (1) ((#[.int .i64 next, .int .i64 1, .int .i64 0, .int .i64 0, .int .i64 0, .slice none 0 0] : Array Value).toList) rfl (fun e => by cases e) rfl (fun ad e => by cases e; exact World.news_of_block HX1.out) (encI_one ⟨next, 1, 0, 0, 0, none, 0, 0⟩) (by unfold maxLen; omega) (by omega) HB1.out.size ?_)
      intro oaL capL wL h1 h2 h3
      have HRL : Hid (RowK 82 encI 6 w.heap.size wL (.slice oaL (0 + (L.length) + 1) capL) (zs ++ [⟨next, 1, 0, 0, 0, none, 0, 0⟩])) := Lib.hid (own_row h1 HLN.out)
      have HBL := Lib.hid (HB1.out.trans h2)
      clear h1 h2 h3
      refine ⟨fun _ => seeS p0 HBL.out, ?_⟩
      simp only [Act.put, List.setIfInBounds_toArray, List.set_cons_zero, List.set_cons_succ]
      have q0 := cell_step HBL.out p0
      have r0 : wL.frozen? ⟨qb, 0, none⟩ = false := (HBL.out.frozen hqb).trans f0
      refine oneL 15 (by kernel_rfl) rfl rfl (wp_runs (some 40) (v := .pointer (some ⟨qb, 0, none⟩)) (w' := wL) rfl (by go_simp) ⟨fun _ => seeS p0 HBL.out, ?_⟩)
      simp only [Act.put, List.setIfInBounds_toArray, List.set_cons_zero, List.set_cons_succ]
      refine oneL 16 (by kernel_rfl) rfl rfl (wp_runs (some 41) (v := .pointer (some ⟨qb, 0, none⟩)) (w' := wL) rfl (by go_simp) ⟨fun _ => seeS p0 HBL.out, ?_⟩)
      simp only [Act.put, List.setIfInBounds_toArray, List.set_cons_zero, List.set_cons_succ]
      generalize 0 + (L.length) + 1 = nL at HRL ⊢
      refine oneL 17 (by kernel_rfl) rfl rfl (wp_skips none (w' := wL.setCell ⟨qb, 0, none⟩ (.slice oaL nL capL)) rfl (by go_simp) ⟨fun h => absurd rfl h, ?_⟩)
      simp only [Act.put]
      refine doneL (by kernel_rfl) ?_
      try simp only [Exit.then]
      have HRA := Lib.hid (HNEW.out _ _ _ _ HBL.out HRL.out)
      generalize wL.setCell ⟨qb, 0, none⟩ (.slice oaL nL capL) = w6 at *
      obtain ⟨_, t1, _, t2⟩ := HRA.out.1.q
      clear q0 r0 p0 p1 f0 f1 hqb
      go_wp2_with fail
      clear t1 t2
      obtain ⟨r1, r2, r3, r4⟩ := RA.setN HRA.out.1 (next + 1)
      have HR7 := Lib.hid r1
      have HT7 := Lib.hid (And.intro r2 r3)
      clear r1 r2 r3
      generalize w6.setCell ⟨qb, 1, none⟩ (.int .i64 (next + 1)) = w7 at *
      go_wp2_with fail
      go_ret2
      exact ⟨congrArg (fun q => Ending.returned (.tuple #[.int .i64 q, .int .i64 0])) HWN.out, HR7.out.rt, HRA.out.2.1.trans HT7.out.1, HRA.out.2.2.trans HT7.out.2⟩
  · go_enter Try.func16, Try.ntmps16
    go_wp2_with fail
    clear a1 a2
    have HS0 := Lib.hid (seeS p0 (Below.refl w.heap.size w).drew)
    refine regionL 17 18 (fun w' => w'.cell? ⟨qb, 0, none⟩ = some ((.slice oq L.length cap)) ∧ Below w.heap.size w w') (by kernel_rfl) rfl ?_
    refine takeL 0 (some 25) (v := ?_) rfl (by kernel_rfl) (by kernel_rfl) (by kernel_rfl) (by kernel_rfl) (fun _ _ _ h => h) rfl rfl HS0.out ?_ ?_
    rotate_left
    · intro wq hq
      have g0 := hq.1
      have g1 := cell_step hq.2 p1
      go_simp
      with_reducible rfl
    simp only [Act.put, List.setIfInBounds_toArray, List.set_cons_zero, List.set_cons_succ]
    refine takeL 2 (some 27) (v := ?_) rfl (by kernel_rfl) (by kernel_rfl) (by kernel_rfl) (by kernel_rfl) (fun _ _ _ h => h) rfl rfl HS0.out ?_ ?_
    rotate_left
    · intro wq hq
      have g0 := hq.1
      have g1 := cell_step hq.2 p1
      go_simp
      with_reducible rfl
    simp only [Act.put, List.setIfInBounds_toArray, List.set_cons_zero, List.set_cons_succ]
    refine takeL 3 (some 28) (v := ?_) rfl (by kernel_rfl) (by kernel_rfl) (by kernel_rfl) (by kernel_rfl) (fun _ _ _ h => h) rfl rfl HS0.out ?_ ?_
    rotate_left
    · intro wq hq
      have g0 := hq.1
      have g1 := cell_step hq.2 p1
      go_simp
      with_reducible rfl
    simp only [Act.put, List.setIfInBounds_toArray, List.set_cons_zero, List.set_cons_succ]
    refine takeL 4 (some 29) (v := ?_) rfl (by kernel_rfl) (by kernel_rfl) (by kernel_rfl) (by kernel_rfl) (fun _ _ _ h => h) rfl rfl HS0.out ?_ ?_
    rotate_left
    · intro wq hq
      have g0 := hq.1
      have g1 := cell_step hq.2 p1
      go_simp
      with_reducible rfl
    simp only [Act.put, List.setIfInBounds_toArray, List.set_cons_zero, List.set_cons_succ]
    refine takeL 5 (some 30) (v := ?_) rfl (by kernel_rfl) (by kernel_rfl) (by kernel_rfl) (by kernel_rfl) (fun _ _ _ h => h) rfl rfl HS0.out ?_ ?_
    rotate_left
    · intro wq hq
      have g0 := hq.1
      have g1 := cell_step hq.2 p1
      go_simp
      with_reducible rfl
    simp only [Act.put, List.setIfInBounds_toArray, List.set_cons_zero, List.set_cons_succ]
    refine takeL 7 (some 32) (v := ?_) rfl (by kernel_rfl) (by kernel_rfl) (by kernel_rfl) (by kernel_rfl) (fun _ _ _ h => h) rfl rfl HS0.out ?_ ?_
    rotate_left
    · intro wq hq
      have g0 := hq.1
      have g1 := cell_step hq.2 p1
      go_simp
      with_reducible rfl
    simp only [Act.put, List.setIfInBounds_toArray, List.set_cons_zero, List.set_cons_succ]
    refine takeL 8 (some 33) (v := ?_) rfl (by kernel_rfl) (by kernel_rfl) (by kernel_rfl) (by kernel_rfl) (fun _ _ _ h => h) rfl rfl HS0.out ?_ ?_
    rotate_left
    · intro wq hq
      have g0 := hq.1
      have g1 := cell_step hq.2 p1
      go_simp
      with_reducible rfl
    simp only [Act.put, List.setIfInBounds_toArray, List.set_cons_zero, List.set_cons_succ]
    refine takeL 9 (some 34) (v := ?_) rfl (by kernel_rfl) (by kernel_rfl) (by kernel_rfl) (by kernel_rfl) (fun _ _ _ h => h) rfl rfl HS0.out ?_ ?_
    rotate_left
    · intro wq hq
      have g0 := hq.1
      have g1 := cell_step hq.2 p1
      go_simp
      with_reducible rfl
    simp only [Act.put, List.setIfInBounds_toArray, List.set_cons_zero, List.set_cons_succ]
    refine takeL 10 (some 35) (v := ?_) rfl (by kernel_rfl) (by kernel_rfl) (by kernel_rfl) (by kernel_rfl) (fun _ _ _ h => h) rfl rfl HS0.out ?_ ?_
    rotate_left
    · intro wq hq
      have g0 := hq.1
      have g1 := cell_step hq.2 p1
      go_simp
      with_reducible rfl
    simp only [Act.put, List.setIfInBounds_toArray, List.set_cons_zero, List.set_cons_succ]
    refine takeL 11 (some 36) (v := ?_) rfl (by kernel_rfl) (by kernel_rfl) (by kernel_rfl) (by kernel_rfl) (fun _ _ _ h => h) rfl rfl HS0.out ?_ ?_
    rotate_left
    · intro wq hq
      have g0 := hq.1
      have g1 := cell_step hq.2 p1
      go_simp
      with_reducible rfl
    simp only [Act.put, List.setIfInBounds_toArray, List.set_cons_zero, List.set_cons_succ]
    refine takeL 12 (some 37) (v := ?_) rfl (by kernel_rfl) (by kernel_rfl) (by kernel_rfl) (by kernel_rfl) (fun _ _ _ h => h) rfl rfl HS0.out ?_ ?_
    rotate_left
    · intro wq hq
      have g0 := hq.1
      have g1 := cell_step hq.2 p1
      go_simp
      with_reducible rfl
    simp only [Act.put, List.setIfInBounds_toArray, List.set_cons_zero, List.set_cons_succ]
    refine twoL 1 13 (by kernel_rfl) rfl rfl rfl rfl (wp_runs (some 26) (v := .slice (some ⟨w.heap.size, 0, none⟩) 0 0) (w' := (w.alloc (.cells #[] 82)).drew) rfl (by go_simp) ⟨fun _ => seeS p0 (below_alloc w _).drew, ?_⟩) (wp_runs (some 38) (v := .slice (some ⟨w.heap.size, 0, none⟩) 1 1) (w' := (w.alloc (.cells #[.int .i64 next, .int .i64 2, .int .i64 0, .int .i64 0, .int .i64 0, .slice none 0 0] 82)).drew) rfl (by go_simp) ⟨fun _ => seeS p0 (below_alloc w _).drew, ?_⟩)
    · simp only [Act.put, List.setIfInBounds_toArray, List.set_cons_zero, List.set_cons_succ]
      refine twoL 6 13 (by kernel_rfl) rfl rfl rfl rfl (wp_append_both (some 31) rfl rfl _ _ 59 rfl w.heap.size 82 i0 (.agg #[.int .i64 0, .int .i64 0, .int .i64 0, .int .i64 0, .int .i64 0, .slice none 0 0]) 6 64 Try.underlying59 hi hz0 hz1 hz2 rfl (by decide) _ (.slice (some ⟨w.heap.size, 0, none⟩) 0 0) (0) ([]) rfl (own_empty_at (W := w.drew) rfl _ _ _ (Nat.le_refl _)) oq (L.length) (cap) (zs.flatMap encI) rfl HNN.out HL1.out (HW1.out _ (below_alloc w _).drew) (flat_oneI _) (by unfold maxLen; omega) (by omega) (below_alloc w _).drew.size ?_) (wp_runs (some 38) (v := .slice (some ⟨w.heap.size + 1, 0, none⟩) 1 1) (w' := ((w.alloc (.cells #[] 82)).alloc (.cells #[.int .i64 next, .int .i64 2, .int .i64 0, .int .i64 0, .int .i64 0, .slice none 0 0] 82)).drew) rfl (by go_simp) ⟨fun _ => seeS p0 ((below_alloc w (.cells #[] 82)).trans ((below_alloc (w.alloc (.cells #[] 82)) (.cells #[.int .i64 next, .int .i64 2, .int .i64 0, .int .i64 0, .int .i64 0, .slice none 0 0] 82)).mono (by simp))).drew, ?_⟩)
      · intro oa1 cap1 w1 h1 h2 h3
        have HR1 := Lib.hid h1
        have HB1 := Lib.hid ((below_alloc w _).drew.trans h2)
        clear h1 h2 h3
        refine ⟨fun _ => seeS p0 HB1.out, ?_⟩
        simp only [Act.put, List.setIfInBounds_toArray, List.set_cons_zero, List.set_cons_succ]
        refine oneL 13 (by kernel_rfl) rfl rfl (wp_runs (some 38) (v := .slice (some ⟨w1.heap.size, 0, none⟩) 1 1) (w' := w1.alloc (.cells #[.int .i64 next, .int .i64 2, .int .i64 0, .int .i64 0, .int .i64 0, .slice none 0 0] 82)) rfl (by go_simp) ⟨fun _ => seeS p0 (HB1.out.trans ((below_alloc w1 _).mono HB1.out.size)), ?_⟩)
        simp only [Act.put, List.setIfInBounds_toArray, List.set_cons_zero, List.set_cons_succ]
        refine oneL 14 (by kernel_rfl) rfl rfl (wp_append_both (some 39) rfl rfl _ _ 59 rfl w.heap.size 82 i0 (.agg #[.int .i64 0, .int .i64 0, .int .i64 0, .int .i64 0, .int .i64 0, .slice none 0 0]) 6 64 Try.underlying59 hi hz0 hz1 hz2 rfl (by decide) _ (.slice oa1 (0 + (L.length)) cap1) (0 + (L.length)) ([] ++ (zs.flatMap encI)) rfl (own_grow HR1.out (below_alloc w1 _)) (some ⟨w1.heap.size, 0, none⟩) (1) (1) ((#[.int .i64 next, .int .i64 2, .int .i64 0, .int .i64 0, .int .i64 0, .slice none 0 0] : Array Value).toList) rfl (fun e => by cases e) rfl (fun ad e => by cases e; exact World.news_of_block (heap_alloc_new w1 _)) (encI_one ⟨next, 2, 0, 0, 0, none, 0, 0⟩) (by unfold maxLen; omega) (by omega) (by have := HB1.out.size; simp; omega) ?_)
        intro oaL capL wL h1 h2 h3
        have HRL : Hid (RowK 82 encI 6 w.heap.size wL (.slice oaL (0 + (L.length) + 1) capL) (zs ++ [⟨next, 2, 0, 0, 0, none, 0, 0⟩])) := Lib.hid (own_row h1 HLN.out)
        have HBL := Lib.hid ((HB1.out.trans ((below_alloc w1 _).mono HB1.out.size)).trans h2)
        clear h1 h2 h3
        refine ⟨fun _ => seeS p0 HBL.out, ?_⟩
        simp only [Act.put, List.setIfInBounds_toArray, List.set_cons_zero, List.set_cons_succ]
        have q0 := cell_step HBL.out p0
        have r0 : wL.frozen? ⟨qb, 0, none⟩ = false := (HBL.out.frozen hqb).trans f0
        refine oneL 15 (by kernel_rfl) rfl rfl (wp_runs (some 40) (v := .pointer (some ⟨qb, 0, none⟩)) (w' := wL) rfl (by go_simp) ⟨fun _ => seeS p0 HBL.out, ?_⟩)
        simp only [Act.put, List.setIfInBounds_toArray, List.set_cons_zero, List.set_cons_succ]
        refine oneL 16 (by kernel_rfl) rfl rfl (wp_runs (some 41) (v := .pointer (some ⟨qb, 0, none⟩)) (w' := wL) rfl (by go_simp) ⟨fun _ => seeS p0 HBL.out, ?_⟩)
        simp only [Act.put, List.setIfInBounds_toArray, List.set_cons_zero, List.set_cons_succ]
        generalize 0 + (L.length) + 1 = nL at HRL ⊢
        refine oneL 17 (by kernel_rfl) rfl rfl (wp_skips none (w' := wL.setCell ⟨qb, 0, none⟩ (.slice oaL nL capL)) rfl (by go_simp) ⟨fun h => absurd rfl h, ?_⟩)
        simp only [Act.put]
        refine doneL (by kernel_rfl) ?_
        try simp only [Exit.then]
        have HRA := Lib.hid (HNEW.out _ _ _ _ HBL.out HRL.out)
        generalize wL.setCell ⟨qb, 0, none⟩ (.slice oaL nL capL) = w6 at *
        obtain ⟨_, t1, _, t2⟩ := HRA.out.1.q
        clear q0 r0 p0 p1 f0 f1 hqb
        go_wp2_with fail
        clear t1 t2
        obtain ⟨r1, r2, r3, r4⟩ := RA.setN HRA.out.1 (next + 1)
        have HR7 := Lib.hid r1
        have HT7 := Lib.hid (And.intro r2 r3)
        clear r1 r2 r3
        generalize w6.setCell ⟨qb, 1, none⟩ (.int .i64 (next + 1)) = w7 at *
        go_wp2_with fail
        go_ret2
        exact ⟨congrArg (fun q => Ending.returned (.tuple #[.int .i64 q, .int .i64 0])) HWN.out, HR7.out.rt, HRA.out.2.1.trans HT7.out.1, HRA.out.2.2.trans HT7.out.2⟩
      · simp only [Act.put, List.setIfInBounds_toArray, List.set_cons_zero, List.set_cons_succ]
        refine oneL 6 (by kernel_rfl) rfl rfl (wp_append_both (some 31) rfl rfl _ _ 59 rfl w.heap.size 82 i0 (.agg #[.int .i64 0, .int .i64 0, .int .i64 0, .int .i64 0, .int .i64 0, .slice none 0 0]) 6 64 Try.underlying59 hi hz0 hz1 hz2 rfl (by decide) _ (.slice (some ⟨w.heap.size, 0, none⟩) 0 0) (0) ([]) rfl (own_grow (own_empty_at (W := w.drew) rfl _ _ _ (Nat.le_refl _)) (below_alloc _ _)) oq (L.length) (cap) (zs.flatMap encI) rfl HNN.out HL1.out (HW1.out _ ((below_alloc w (.cells #[] 82)).trans ((below_alloc (w.alloc (.cells #[] 82)) (.cells #[.int .i64 next, .int .i64 2, .int .i64 0, .int .i64 0, .int .i64 0, .slice none 0 0] 82)).mono (by simp))).drew) (flat_oneI _) (by unfold maxLen; omega) (by omega) (by simp; omega) ?_)
        intro oa1 cap1 w1 h1 h2 h3
        have HR1 := Lib.hid h1
        have HX1 : Hid (w1.heap[w.heap.size + 1]? = some (.cells #[.int .i64 next, .int .i64 2, .int .i64 0, .int .i64 0, .int .i64 0, .slice none 0 0] 82)) := Lib.hid ((h3.block _ (by simp) (by simp [Value.ownBlock])).trans (by have := heap_alloc_new (w.alloc (.cells #[] 82)) (.cells #[.int .i64 next, .int .i64 2, .int .i64 0, .int .i64 0, .int .i64 0, .slice none 0 0] 82); rw [show (w.alloc (.cells #[] 82)).heap.size = w.heap.size + 1 by simp] at this; exact this))
        have HB1 := Lib.hid (((below_alloc w (.cells #[] 82)).trans ((below_alloc (w.alloc (.cells #[] 82)) (.cells #[.int .i64 next, .int .i64 2, .int .i64 0, .int .i64 0, .int .i64 0, .slice none 0 0] 82)).mono (by simp))).drew.trans h2)
        clear h1 h2 h3
        refine ⟨fun _ => seeS p0 HB1.out, ?_⟩
        simp only [Act.put, List.setIfInBounds_toArray, List.set_cons_zero, List.set_cons_succ]
        refine oneL 14 (by kernel_rfl) rfl rfl (wp_append_both (some 39) rfl rfl _ _ 59 rfl w.heap.size 82 i0 (.agg #[.int .i64 0, .int .i64 0, .int .i64 0, .int .i64 0, .int .i64 0, .slice none 0 0]) 6 64 Try.underlying59 hi hz0 hz1 hz2 rfl (by decide) _ (.slice oa1 (0 + (L.length)) cap1) (0 + (L.length)) ([] ++ (zs.flatMap encI)) rfl HR1.out (some ⟨w.heap.size + 1, 0, none⟩) (1) (1) ((#[.int .i64 next, .int .i64 2, .int .i64 0, .int .i64 0, .int .i64 0, .slice none 0 0] : Array Value).toList) rfl (fun e => by cases e) rfl (fun ad e => by cases e; exact World.news_of_block HX1.out) (encI_one ⟨next, 2, 0, 0, 0, none, 0, 0⟩) (by unfold maxLen; omega) (by omega) HB1.out.size ?_)
        intro oaL capL wL h1 h2 h3
        have HRL : Hid (RowK 82 encI 6 w.heap.size wL (.slice oaL (0 + (L.length) + 1) capL) (zs ++ [⟨next, 2, 0, 0, 0, none, 0, 0⟩])) := Lib.hid (own_row h1 HLN.out)
        have HBL := Lib.hid (HB1.out.trans h2)
        clear h1 h2 h3
        refine ⟨fun _ => seeS p0 HBL.out, ?_⟩
        simp only [Act.put, List.setIfInBounds_toArray, List.set_cons_zero, List.set_cons_succ]
        have q0 := cell_step HBL.out p0
        have r0 : wL.frozen? ⟨qb, 0, none⟩ = false := (HBL.out.frozen hqb).trans f0
        refine oneL 15 (by kernel_rfl) rfl rfl (wp_runs (some 40) (v := .pointer (some ⟨qb, 0, none⟩)) (w' := wL) rfl (by go_simp) ⟨fun _ => seeS p0 HBL.out, ?_⟩)
        simp only [Act.put, List.setIfInBounds_toArray, List.set_cons_zero, List.set_cons_succ]
        refine oneL 16 (by kernel_rfl) rfl rfl (wp_runs (some 41) (v := .pointer (some ⟨qb, 0, none⟩)) (w' := wL) rfl (by go_simp) ⟨fun _ => seeS p0 HBL.out, ?_⟩)
        simp only [Act.put, List.setIfInBounds_toArray, List.set_cons_zero, List.set_cons_succ]
        generalize 0 + (L.length) + 1 = nL at HRL ⊢
        refine oneL 17 (by kernel_rfl) rfl rfl (wp_skips none (w' := wL.setCell ⟨qb, 0, none⟩ (.slice oaL nL capL)) rfl (by go_simp) ⟨fun h => absurd rfl h, ?_⟩)
        simp only [Act.put]
        refine doneL (by kernel_rfl) ?_
        try simp only [Exit.then]
        have HRA := Lib.hid (HNEW.out _ _ _ _ HBL.out HRL.out)
        generalize wL.setCell ⟨qb, 0, none⟩ (.slice oaL nL capL) = w6 at *
        obtain ⟨_, t1, _, t2⟩ := HRA.out.1.q
        clear q0 r0 p0 p1 f0 f1 hqb
        go_wp2_with fail
        clear t1 t2
        obtain ⟨r1, r2, r3, r4⟩ := RA.setN HRA.out.1 (next + 1)
        have HR7 := Lib.hid r1
        have HT7 := Lib.hid (And.intro r2 r3)
        clear r1 r2 r3
        generalize w6.setCell ⟨qb, 1, none⟩ (.int .i64 (next + 1)) = w7 at *
        go_wp2_with fail
        go_ret2
        exact ⟨congrArg (fun q => Ending.returned (.tuple #[.int .i64 q, .int .i64 0])) HWN.out, HR7.out.rt, HRA.out.2.1.trans HT7.out.1, HRA.out.2.2.trans HT7.out.2⟩
    · simp only [Act.put, List.setIfInBounds_toArray, List.set_cons_zero, List.set_cons_succ]
      refine oneL 1 (by kernel_rfl) rfl rfl (wp_runs (some 26) (v := .slice (some ⟨w.heap.size + 1, 0, none⟩) 0 0) (w' := ((w.alloc (.cells #[.int .i64 next, .int .i64 2, .int .i64 0, .int .i64 0, .int .i64 0, .slice none 0 0] 82)).alloc (.cells #[] 82)).drew) rfl (by go_simp) ⟨fun _ => seeS p0 ((below_alloc w (.cells #[.int .i64 next, .int .i64 2, .int .i64 0, .int .i64 0, .int .i64 0, .slice none 0 0] 82)).trans ((below_alloc (w.alloc (.cells #[.int .i64 next, .int .i64 2, .int .i64 0, .int .i64 0, .int .i64 0, .slice none 0 0] 82)) (.cells #[] 82)).mono (by simp))).drew, ?_⟩)
      simp only [Act.put, List.setIfInBounds_toArray, List.set_cons_zero, List.set_cons_succ]
      refine oneL 6 (by kernel_rfl) rfl rfl (wp_append_both (some 31) rfl rfl _ _ 59 rfl w.heap.size 82 i0 (.agg #[.int .i64 0, .int .i64 0, .int .i64 0, .int .i64 0, .int .i64 0, .slice none 0 0]) 6 64 Try.underlying59 hi hz0 hz1 hz2 rfl (by decide) _ (.slice (some ⟨w.heap.size + 1, 0, none⟩) 0 0) (0) ([]) rfl (own_empty_at (W := (w.alloc (.cells #[.int .i64 next, .int .i64 2, .int .i64 0, .int .i64 0, .int .i64 0, .slice none 0 0] 82)).drew) (by simp) _ _ _ (by omega)) oq (L.length) (cap) (zs.flatMap encI) rfl HNN.out HL1.out (HW1.out _ ((below_alloc w (.cells #[.int .i64 next, .int .i64 2, .int .i64 0, .int .i64 0, .int .i64 0, .slice none 0 0] 82)).trans ((below_alloc (w.alloc (.cells #[.int .i64 next, .int .i64 2, .int .i64 0, .int .i64 0, .int .i64 0, .slice none 0 0] 82)) (.cells #[] 82)).mono (by simp))).drew) (flat_oneI _) (by unfold maxLen; omega) (by omega) (by simp; omega) ?_)
      intro oa1 cap1 w1 h1 h2 h3
      have HR1 := Lib.hid h1
      have HX1 : Hid (w1.heap[w.heap.size]? = some (.cells #[.int .i64 next, .int .i64 2, .int .i64 0, .int .i64 0, .int .i64 0, .slice none 0 0] 82)) := Lib.hid ((h3.block _ (by simp; omega) (by simp [Value.ownBlock])).trans ((Below.heap_alloc (w.alloc (.cells #[.int .i64 next, .int .i64 2, .int .i64 0, .int .i64 0, .int .i64 0, .slice none 0 0] 82)) (.cells #[] 82) _ (by simp)).trans (heap_alloc_new w _)))
      have HB1 := Lib.hid (((below_alloc w (.cells #[.int .i64 next, .int .i64 2, .int .i64 0, .int .i64 0, .int .i64 0, .slice none 0 0] 82)).trans ((below_alloc (w.alloc (.cells #[.int .i64 next, .int .i64 2, .int .i64 0, .int .i64 0, .int .i64 0, .slice none 0 0] 82)) (.cells #[] 82)).mono (by simp))).drew.trans h2)
      clear h1 h2 h3
      refine ⟨fun _ => seeS p0 HB1.out, ?_⟩
      simp only [Act.put, List.setIfInBounds_toArray, List.set_cons_zero, List.set_cons_succ]
      refine oneL 14 (by kernel_rfl) rfl rfl (wp_append_both (some 39) rfl rfl _ _ 59 rfl w.heap.size 82 i0 (.agg #[.int .i64 0, .int .i64 0, .int .i64 0, .int .i64 0, .int .i64 0, .slice none 0 0]) 6 64 Try.underlying59 hi hz0 hz1 hz2 rfl (by decide) _ (.slice oa1 (0 + (L.length)) cap1) (0 + (L.length)) ([] ++ (zs.flatMap encI)) rfl HR1.out (some ⟨w.heap.size, 0, none⟩) (1) (1) ((#[.int .i64 next, .int .i64 2, .int .i64 0, .int .i64 0, .int .i64 0, .slice none 0 0] : Array Value).toList) rfl (fun e => by cases e) rfl (fun ad e => by cases e; exact World.news_of_block HX1.out) (encI_one ⟨next, 2, 0, 0, 0, none, 0, 0⟩) (by unfold maxLen; omega) (by omega) HB1.out.size ?_)
      intro oaL capL wL h1 h2 h3
      have HRL : Hid (RowK 82 encI 6 w.heap.size wL (.slice oaL (0 + (L.length) + 1) capL) (zs ++ [⟨next, 2, 0, 0, 0, none, 0, 0⟩])) := Lib.hid (own_row h1 HLN.out)
      have HBL := Lib.hid (HB1.out.trans h2)
      clear h1 h2 h3
      refine ⟨fun _ => seeS p0 HBL.out, ?_⟩
      simp only [Act.put, List.setIfInBounds_toArray, List.set_cons_zero, List.set_cons_succ]
      have q0 := cell_step HBL.out p0
      have r0 : wL.frozen? ⟨qb, 0, none⟩ = false := (HBL.out.frozen hqb).trans f0
      refine oneL 15 (by kernel_rfl) rfl rfl (wp_runs (some 40) (v := .pointer (some ⟨qb, 0, none⟩)) (w' := wL) rfl (by go_simp) ⟨fun _ => seeS p0 HBL.out, ?_⟩)
      simp only [Act.put, List.setIfInBounds_toArray, List.set_cons_zero, List.set_cons_succ]
      refine oneL 16 (by kernel_rfl) rfl rfl (wp_runs (some 41) (v := .pointer (some ⟨qb, 0, none⟩)) (w' := wL) rfl (by go_simp) ⟨fun _ => seeS p0 HBL.out, ?_⟩)
      simp only [Act.put, List.setIfInBounds_toArray, List.set_cons_zero, List.set_cons_succ]
      generalize 0 + (L.length) + 1 = nL at HRL ⊢
      refine oneL 17 (by kernel_rfl) rfl rfl (wp_skips none (w' := wL.setCell ⟨qb, 0, none⟩ (.slice oaL nL capL)) rfl (by go_simp) ⟨fun h => absurd rfl h, ?_⟩)
      simp only [Act.put]
      refine doneL (by kernel_rfl) ?_
      try simp only [Exit.then]
      have HRA := Lib.hid (HNEW.out _ _ _ _ HBL.out HRL.out)
      generalize wL.setCell ⟨qb, 0, none⟩ (.slice oaL nL capL) = w6 at *
      obtain ⟨_, t1, _, t2⟩ := HRA.out.1.q
      clear q0 r0 p0 p1 f0 f1 hqb
      go_wp2_with fail
      clear t1 t2
      obtain ⟨r1, r2, r3, r4⟩ := RA.setN HRA.out.1 (next + 1)
      have HR7 := Lib.hid r1
      have HT7 := Lib.hid (And.intro r2 r3)
      clear r1 r2 r3
      generalize w6.setCell ⟨qb, 1, none⟩ (.int .i64 (next + 1)) = w7 at *
      go_wp2_with fail
      go_ret2
      exact ⟨congrArg (fun q => Ending.returned (.tuple #[.int .i64 q, .int .i64 0])) HWN.out, HR7.out.rt, HRA.out.2.1.trans HT7.out.1, HRA.out.2.2.trans HT7.out.2⟩
theorem rspace_any (e : Int) (w : World) : Calls Try.prog 53 #[.int .i64 e] w fun r w' => r = .returned (.int .i64 (spaceE e)) ∧ w = w' := by
  have HS : Hid (spaceE e = if e = 3 then 67 else e) := Lib.hid rfl
  by_cases h : e = 3
  · have h1 : (e == 3) = true := beq_iff_eq.2 h
    rw [if_pos h] at HS
    clear h
    go_enter Try.func53, Try.ntmps53
    go_wp2_with fail
    go_ret
    exact ⟨ret_int HS.out.symm, rfl⟩
  · have h1 : (e == 3) = false := beq_eq_false_iff_ne.2 h
    rw [if_neg h] at HS
    clear h
    go_enter Try.func53, Try.ntmps53
    go_wp2_with fail
    go_ret
    exact ⟨ret_int HS.out.symm, rfl⟩
set_option maxHeartbeats 800000 in
theorem rfile_bad (i c : Int) (hc : fileE L i = c) (h0 : c ≠ 0) (hr : Rises L) (hl : L.length ≤ 1000) (w : World) (h : RA B w qb L next oq cq zs) :
    Calls Try.prog 51 #[.pointer (some ⟨qb, 0, none⟩), .int .i64 i] w fun e w' => (∃ v : Int, e = .returned (.tuple #[.int .i64 v, .int .i64 c])) ∧ w = w' := by
  cases hf : find L i with
  | none =>
    have hcc : c = 60 := by rw [← hc]; unfold fileE; rw [hf]
    subst hcc
    have HC := Lib.hid (rfind_not hl hf B qb cq next oq zs w h)
    clear hc h0 hr hl hf h
    go_enter Try.func51, Try.ntmps51
    go_wp2_with fail
    refine HC.out.mono ?_
    rintro e w2 ⟨rfl, rfl⟩
    go_wp2_with fail
    go_ret2
    exact ⟨⟨_, rfl⟩, rfl⟩
  | some x =>
    obtain ⟨k, hk, _, _, hfi⟩ := rfind_yes hr hl hf
    have hk1 : x.k = 1 ∧ c = 63 := by
      unfold fileE at hc
      rw [hf] at hc
      by_cases e : x.k = 1
      · exact ⟨e, by rw [← hc]; exact if_pos e⟩
      · exact absurd (by rw [← hc]; exact if_neg e) h0
    obtain ⟨hkk, rfl⟩ := hk1
    have HC := Lib.hid (hfi B qb cq next oq zs w h)
    obtain ⟨q0, _, _, _⟩ := h.q
    obtain ⟨g, z, hrc, _⟩ := h.at hk
    obtain rfl := hrc.oq
    have c1 := hrc.c1
    rw [hkk] at c1
    have hkl : k < L.length := (List.getElem?_eq_some_iff.1 hk).1
    have z1 : (k : Int) < (L.length : Int) := by omega
    have z2 : (k : Int) < 1000 := by omega
    have z0 : ¬ (k : Int) < 0 := by omega
    clear hc h0 hr hl hf h hk hfi hrc hkl hkk
    go_enter Try.func51, Try.ntmps51
    go_wp2_with fail
    refine HC.out.mono ?_
    rintro e w2 ⟨rfl, rfl⟩
    go_wp2_with fail
    go_ret2
    exact ⟨⟨_, rfl⟩, rfl⟩
set_option maxHeartbeats 800000 in
theorem rfile_ok (i : Int) (hc : fileE L i = 0) (hr : Rises L) (hl : L.length ≤ 1000) : ∃ (x : Ino) (k : Nat), find L i = some x ∧ x.k ≠ 1 ∧ x.i = i ∧ L[k]? = some x ∧ (∀ y : Ino, y.i = i → upd L y = L.set k y) ∧ ∀ (B qb cq : Nat) (next : Int) (oq : Option Addr) (zs : List IV) (w : World), RA B w qb L next oq cq zs →
    Calls Try.prog 51 #[.pointer (some ⟨qb, 0, none⟩), .int .i64 i] w fun e w' => e = .returned (.tuple #[.int .i64 (k : Int), .int .i64 0]) ∧ w = w' := by
  cases hf : find L i with
  | none => unfold fileE at hc; rw [hf] at hc; cases hc
  | some x =>
    have hkk : x.k ≠ 1 := by
      intro e
      unfold fileE at hc
      rw [hf] at hc
      have h6 : (if x.k = 1 then (63 : Int) else 0) = 0 := hc
      rw [if_pos e] at h6
      cases h6
    obtain ⟨k, hk, hu, _, hfi⟩ := rfind_yes hr hl hf
    refine ⟨x, k, rfl, hkk, (find_mem hf).2, hk, hu, fun B qb cq next oq zs w h => ?_⟩
    have HC := Lib.hid (hfi B qb cq next oq zs w h)
    obtain ⟨q0, _, _, _⟩ := h.q
    obtain ⟨g, z, hrc, _⟩ := h.at hk
    obtain rfl := hrc.oq
    have c1 := hrc.c1
    have hkl : k < L.length := (List.getElem?_eq_some_iff.1 hk).1
    have z1 : (k : Int) < (L.length : Int) := by omega
    have z2 : (k : Int) < 1000 := by omega
    have z0 : ¬ (k : Int) < 0 := by omega
    have z3 : (x.k == 1) = false := beq_eq_false_iff_ne.2 hkk
    clear hc hr hl hf h hk hfi hrc hkl hkk hu
    go_enter Try.func51, Try.ntmps51
    go_wp2_with fail
    refine HC.out.mono ?_
    rintro e w2 ⟨rfl, rfl⟩
    go_wp2_with fail
    go_ret2
    exact ⟨rfl, rfl⟩
theorem rnew_any (w : World) : Calls Try.prog 14 #[] w fun e w' => e = .returned (.pointer (some ⟨w.heap.size + 1, 0, none⟩)) ∧ RT w.heap.size w' (w.heap.size + 1) [root] 2 ∧ Below w.heap.size w w' := by
  go_enter Try.func14, Try.ntmps14
  go_wp2_with fail
  go_ret
  have hb1 := below_alloc w (.cells #[.int .i64 1, .int .i64 1, .int .i64 1, .int .i64 0, .int .i64 0, .slice none 0 0] 82)
  have hn := heap_alloc_new w (.cells #[.int .i64 1, .int .i64 1, .int .i64 1, .int .i64 0, .int .i64 0, .slice none 0 0] 82)
  have hsz : (w.alloc (.cells #[.int .i64 1, .int .i64 1, .int .i64 1, .int .i64 0, .int .i64 0, .slice none 0 0] 82)).heap.size = w.heap.size + 1 := by simp
  generalize w.alloc (.cells #[.int .i64 1, .int .i64 1, .int .i64 1, .int .i64 0, .int .i64 0, .slice none 0 0] 82) = w1 at *
  have hb2 := below_alloc w1 (.cells #[.slice (some ⟨w.heap.size, 0, none⟩) 1 1, .int .i64 2] 84)
  have hn2 := heap_alloc_new w1 (.cells #[.slice (some ⟨w.heap.size, 0, none⟩) 1 1, .int .i64 2] 84)
  rw [hsz] at hn2
  refine ⟨by rw [← hsz]; rfl, ⟨by omega, some ⟨w.heap.size, 0, none⟩, 1, [⟨1, 1, 1, 0, 0, none, 0, 0⟩], hn2, ⟨by simp [encI], .inr ⟨w.heap.size, 1, #[.int .i64 1, .int .i64 1, .int .i64 1, .int .i64 0, .int .i64 0, .slice none 0 0], rfl, Nat.le_refl _, (hb2.block _ (by omega)).trans hn, by simp, by unfold maxLen; omega, by simp, by simp [encI]⟩⟩, ⟨rfl, fun i x y hx hy => ?_⟩, fun i y hy a ha => ?_⟩, hb1.trans (hb2.mono (by omega))⟩
  · cases i with
    | zero =>
      simp only [List.getElem?_cons_zero, Option.some.injEq] at hx hy
      subst hx; subst hy
      exact ⟨rfl, rfl, rfl, rfl, rfl, rfl, fun j z hz => by simp [root] at hz, fun _ => ⟨rfl, rfl⟩⟩
    | succ i => simp at hx
  · cases i with
    | zero =>
      simp only [List.getElem?_cons_zero, Option.some.injEq] at hy
      subst hy; cases ha
    | succ i => simp at hy
end Go.Proofs.Ytappgelpigoknaa.InoW

/- The document's table: Write. -/
namespace Go.Proofs.Ytappgelpigoknaa.InoW
set_option maxRecDepth 100000
set_option linter.unusedVariables false
open Go.RowKit InoP ExtW
variable {B qb cq : Nat} {L : List Ino} {next : Int} {oq : Option Addr} {zs : List IV}
theorem RfB.grow {w w' : World} {g : Nat} (h : RfB w g) (k : Below w.heap.size w w') : RfB w' g := by
  obtain ⟨cs, T, fr, h1, h2⟩ := h
  exact ⟨cs, T, fr, (k.block g (lt_of_block h1)).trans h1, h2⟩
theorem RA.grow {w w' : World} (h : RA B w qb L next oq cq zs) (k : Below w.heap.size w w') : RA B w' qb L next oq cq zs :=
  ⟨h.lt, (k.block qb (lt_of_block h.head)).trans h.head, h.row.grow k, h.read.grow k, fun i z hz a ha => (h.ty i z hz a ha).grow k⟩
/-- where an inode of the document's stands, by the row's block -/
theorem RA.atg {w : World} {g : Nat} (h : RA B w qb L next (some ⟨g, 0, none⟩) cq zs) {k : Nat} {x : Ino} (hx : L[k]? = some x) : ∃ z, RC w (some ⟨g, 0, none⟩) zs k x g z ∧ B ≤ g := by
  obtain ⟨g', z, hc, hB⟩ := h.at hx
  have e := hc.oq
  injection e with e
  injection e with e
  subst e
  exact ⟨z, hc, hB⟩
/-- new parts of an inode -/
theorem read_parts {w w' : World} {x : Ino} {z : IV} {p' : List Pt} {oa2 : Option Addr} {c2 C : Nat} (h : IRead w x z) (hr : Row C w' (.slice oa2 p'.length c2) p') : IRead w' { x with p := p' } { z with oa := oa2, n := p'.length, c := c2 } :=
  ⟨h.i, h.k, h.l, h.o, h.s, rfl, hr.pts, (row_base hr).2.2⟩
/-- parts and a size, stored one behind the other -/
theorem two_sets {w w3 w4 : World} {g c k : Nat} {x1 x2 : Ino} {zs3 : List IV} {z4 : IV} (H : RA B w qb L next (some ⟨g, 0, none⟩) cq zs) (hBw : B ≤ w.heap.size) (hb3 : Below w.heap.size w w3) (hBg : B ≤ g) (h4 : RA B w4 qb (L.set k x1) next (some ⟨g, 0, none⟩) c zs3) (ho : Only g w3 w4) (hrf : RfB w3 g)
    (hk : (L.set k x1)[k]? = some x1) (hrc : RC w4 (some ⟨g, 0, none⟩) zs3 k x1 g z4) (M : Int) (h1 : ({ x1 with s := M } : Ino).i = x1.i) (h0 : ({ z4 with s := M } : IV).oa = z4.oa) (hx : x2 = { x1 with s := M }) :
    Lft B w (w4.setCell ⟨g, k * 6 + 4, none⟩ (.int .i64 M)).drew qb (L.set k x2) next := by
  subst hx
  obtain ⟨r1, r2⟩ := RA.set h4 hk hrc 4 (.int .i64 M) (by omega) (x' := { x1 with s := M }) (z' := { z4 with s := M }) rfl { hrc.rd with s := rfl } (fun a ha => h4.ty k z4 hrc.hz a ha)
  rw [List.set_set] at r1
  have hd : Below (w4.setCell ⟨g, k * 6 + 4, none⟩ (.int .i64 M)).heap.size (w4.setCell ⟨g, k * 6 + 4, none⟩ (.int .i64 M)) (w4.setCell ⟨g, k * 6 + 4, none⟩ (.int .i64 M)).drew := (Below.refl _ _).drew
  have hw4 : B ≤ w3.heap.size := Nat.le_trans hBw hb3.size
  refine ⟨(r1.grow hd).rt, ((Tch.below hb3).trans (Tch.only ho hrf)).trans ((Tch.only r2 hrc.rf).trans (Tch.below hd)), ?_⟩
  have e1 : Below B w w4 := (hb3.mono hBw).trans (ho.below hBg hw4)
  have e2 : Below B w4 (w4.setCell ⟨g, k * 6 + 4, none⟩ (.int .i64 M)) := r2.below hBg (Nat.le_trans hw4 ho.size)
  exact (e1.trans e2).trans (hd.mono (Nat.le_trans (Nat.le_trans hw4 ho.size) r2.size))
set_option maxHeartbeats 3200000 in
theorem rwrite_any (i off n a : Int) (hg : TGood L next) (w : World) (h : RT B w qb L next) (hBw : B ≤ w.heap.size) :
    Calls Try.prog 40 #[.pointer (some ⟨qb, 0, none⟩), .int .i64 i, .int .i64 off, .int .i64 n, .int .i64 a] w fun e w' => e = .returned (.int .i64 (writeE L i off n a)) ∧ Lft B w w' qb (writeL L i off n a) next := by
  obtain ⟨oq, cq, zs, hra⟩ := h.ra
  have H := Lib.hid hra
  have hl : L.length ≤ 1000 := by have := hg.len; omega
  have HG := Lib.hid hg
  have HBW := Lib.hid hBw
  have HWP := Lib.hid (write_pre (L := L) i off n a)
  by_cases he : fileE L i = 0
  rotate_left
  · obtain ⟨c, hc⟩ : ∃ c, fileE L i = c := ⟨_, rfl⟩
    have h0 : c ≠ 0 := by rw [← hc]; exact he
    have HE : Hid (writeE L i off n a = c ∧ writeL L i off n a = L) := Lib.hid (by
      have e : writeE L i off n a = c := by rw [HWP.out, if_neg he, hc]
      exact ⟨e, write_no (by rw [e]; exact h0)⟩)
    have HC := Lib.hid (rfile_bad i c hc h0 hg.rises hl w hra)
    have hcn : (c != 0) = true := bne_iff_ne.2 h0
    clear h hra hl hg hBw he hc h0
    go_enter Try.func40, Try.ntmps40
    go_wp2_with fail
    refine HC.out.mono ?_
    rintro e w2 ⟨⟨v, rfl⟩, rfl⟩
    go_wp2_with fail
    go_ret
    exact ⟨ret_int HE.out.1.symm, by rw [HE.out.2]; exact ⟨H.out.rt, Tch.refl _, Below.refl _ _⟩⟩
  obtain ⟨x, k, hf, hkk, hxi, hk, hu, hfi⟩ := rfile_ok i he hg.rises hl
  have HC := Lib.hid (hfi B qb cq next oq zs w hra)
  by_cases hm : mayW off n = true
  rotate_left
  · have HE : Hid (writeE L i off n a = 67 ∧ writeL L i off n a = L) := Lib.hid (by
      have e : writeE L i off n a = 67 := by rw [HWP.out, if_pos he, if_neg hm]
      exact ⟨e, write_no (by rw [e]; decide)⟩)
    have hcs : off < 0 ∨ (decide (off < 0) = false ∧ 8192 < off) ∨ (decide (off < 0) = false ∧ decide (8192 < off) = false ∧ n < 1) ∨ (decide (off < 0) = false ∧ decide (8192 < off) = false ∧ decide (n < 1) = false ∧ 1024 < n) ∨
        (decide (off < 0) = false ∧ decide (8192 < off) = false ∧ decide (n < 1) = false ∧ decide (1024 < n) = false ∧ IntKind.i64.wrap (off + n) = off + n ∧ 8192 < off + n) := by
      by_cases h1 : off < 0
      · exact .inl h1
      by_cases h2 : 8192 < off
      · exact .inr (.inl ⟨decide_eq_false h1, h2⟩)
      by_cases h3 : n < 1
      · exact .inr (.inr (.inl ⟨decide_eq_false h1, decide_eq_false h2, h3⟩))
      by_cases h4 : 1024 < n
      · exact .inr (.inr (.inr (.inl ⟨decide_eq_false h1, decide_eq_false h2, decide_eq_false h3, h4⟩)))
      refine .inr (.inr (.inr (.inr ⟨decide_eq_false h1, decide_eq_false h2, decide_eq_false h3, decide_eq_false h4, IntWalk.i64_in _ (by omega), ?_⟩)))
      have : ¬ (0 ≤ off ∧ 1 ≤ n ∧ n ≤ 1024 ∧ off ≤ 8192 - n) := fun c => hm (decide_eq_true c)
      omega
    clear h hra hl hg hBw he hf hkk hxi hk hu hfi hm
    rcases hcs with b1 | ⟨b1, b2⟩ | ⟨b1, b2, b3⟩ | ⟨b1, b2, b3, b4⟩ | ⟨b1, b2, b3, b4, b5, b6⟩
    all_goals
      go_enter Try.func40, Try.ntmps40
      go_wp2_with fail
      refine HC.out.mono ?_
      rintro e w2 ⟨rfl, rfl⟩
      go_wp2_with fail
      go_ret
      exact ⟨ret_int HE.out.1.symm, by rw [HE.out.2]; exact ⟨H.out.rt, Tch.refl _, Below.refl _ _⟩⟩
  have hmm := of_decide_eq_true hm
  have b1 : decide (off < 0) = false := decide_eq_false (by omega)
  have b2 : decide (8192 < off) = false := decide_eq_false (by omega)
  have b3 : decide (n < 1) = false := decide_eq_false (by omega)
  have b4 : decide (1024 < n) = false := decide_eq_false (by omega)
  have b5 : IntKind.i64.wrap (off + n) = off + n := IntWalk.i64_in _ (by omega)
  have b6 : decide (8192 < off + n) = false := decide_eq_false (by omega)
  have HB5 := Lib.hid b5
  have HXG := hg.all x (find_mem hf).1
  have hpl : x.p.length ≤ 1000 := by have := HXG.p.1; omega
  obtain ⟨q0, _, _, _⟩ := hra.q
  obtain ⟨g, z, hrc, hBg⟩ := hra.at hk
  have HRC := Lib.hid hrc
  have HBG := Lib.hid hBg
  obtain rfl := hrc.oq
  have c5 := hrc.c5
  have hkl : k < L.length := (List.getElem?_eq_some_iff.1 hk).1
  have z1 : (k : Int) < (L.length : Int) := by omega
  have z2 : (k : Int) < 1000 := by omega
  have z0 : ¬ (k : Int) < 0 := by omega
  have HF := Lib.hid hf
  have HXI := Lib.hid hxi
  have HK := Lib.hid hk
  have HU := Lib.hid hu
  have HPUT := Lib.hid (fun c W (hb : Below w.heap.size w W) => rput_any z.oa c x.p ⟨off, n, a, 0⟩ (by omega) W (hrc.rd.pts.grow hb))
  obtain ⟨er, her⟩ : ∃ er, putE x.p ⟨off, n, a, 0⟩ = er := ⟨_, rfl⟩
  have HER := Lib.hid her
  have HWE : Hid (writeE L i off n a = spaceE er) := Lib.hid (by
    rw [HWP.out, if_pos he, if_pos hm, hf]
    show spaceE (putE x.p ⟨off, n, a, 0⟩) = _
    rw [her])
  have HBF : Hid (∀ W, W = w → Try.prog.built 40 [(0, .int .i64 off), (1, .int .i64 n), (2, .int .i64 a)] = some #[.int .i64 off, .int .i64 n, .int .i64 a, .int .i64 0]) := Lib.hid (fun _ _ => by kernel_rfl)
  clear h hra hl hg hBw he hfi hm hmm HXG hrc hBg hkl hf hxi hk hu hpl hkk
  by_cases h0 : er = 0
  rotate_left
  · have hen : (er != 0) = true := bne_iff_ne.2 h0
    have HWL : Hid (writeL L i off n a = L) := Lib.hid (write_no (by rw [HWE.out]; exact fun e => h0 (space_ok.1 e)))
    clear h0 her
    go_enter Try.func40, Try.ntmps40
    go_wp2_with fail
    refine HC.out.mono ?_
    rintro e w2 ⟨rfl, rfl⟩
    go_wp2_with fail
    refine (HPUT.out _ _ (Below.refl _ _)).mono ?_
    rintro e w3 ⟨v, rfl, hrow, hb3⟩
    have HB3 := Lib.hid hb3
    rw [HER.out]
    clear hrow hb3
    go_wp2_with fail
    refine (rspace_any er w3).mono ?_
    rintro e w4 ⟨rfl, rfl⟩
    go_wp2_with fail
    go_ret
    exact ⟨ret_int HWE.out.symm, by rw [HWL.out]; exact ⟨H.out.rt.grow HB3.out, Tch.below HB3.out, HB3.out.mono HBW.out⟩⟩
  · subst h0
    have HWL : Hid (writeL L i off n a = L.set k (writeX x off n a)) := Lib.hid (by
      unfold writeL
      rw [HF.out]
      show (if writeE L i off n a = 0 then upd L (writeX x off n a) else L) = _
      rw [if_pos (by rw [HWE.out]; rfl)]
      exact HU.out _ HXI.out)
    obtain ⟨M, hM⟩ : ∃ M, max x.s (off + n) = M := ⟨_, rfl⟩
    have HM := Lib.hid hM
    clear her
    go_enter Try.func40, Try.ntmps40
    go_wp2_with fail
    refine HC.out.mono ?_
    rintro e w2 ⟨rfl, rfl⟩
    go_wp2_with fail
    refine (HPUT.out _ _ (Below.refl _ _)).mono ?_
    rintro e w3 ⟨v, rfl, hrow, hb3⟩
    have HB3 := Lib.hid hb3
    rw [HER.out]
    obtain ⟨oa2, cap2, rfl, _, hcm, _⟩ := hrow.form
    have HROW := Lib.hid hrow
    have H3 := Lib.hid (H.out.grow hb3)
    obtain ⟨z3, hrc3, _⟩ := H3.out.atg HK.out
    have HRC3 := Lib.hid hrc3
    have f5 := hrc3.fr (k * 6 + 5)
    have c5' := hrc3.c5
    have q0' : w3.cell? ⟨qb, 0, none⟩ = some (.slice (some ⟨g, 0, none⟩) L.length cq) := H3.out.q.1
    have HS5 := Lib.hid (RA.set H3.out HK.out hrc3 5 (.slice oa2 (putL x.p ⟨off, n, a, 0⟩).length cap2) (by omega) (z' := { z3 with oa := oa2, n := (putL x.p ⟨off, n, a, 0⟩).length, c := cap2 }) rfl (read_parts hrc3.rd hrow) (PartB.row hrow))
    clear hrow hb3 hcm hrc3 q0 c5
    go_wp2_with fail
    generalize w3.setCell ⟨g, k * 6 + 5, none⟩ (.slice oa2 (putL x.p ⟨off, n, a, 0⟩).length cap2) = w4 at *
    have HLK : Hid ((L.set k { x with p := putL x.p ⟨off, n, a, 0⟩ })[k]? = some { x with p := putL x.p ⟨off, n, a, 0⟩ }) := Lib.hid (by rw [List.getElem?_set_self (List.getElem?_eq_some_iff.1 HK.out).1])
    obtain ⟨z4, hrc4, _⟩ := HS5.out.1.atg HLK.out
    have HRC4 := Lib.hid hrc4
    have f4 := hrc4.fr (k * 6 + 4)
    have c4' := hrc4.c4
    have q4 := HS5.out.1.q.1
    rw [List.length_set] at q4
    simp only at c4'
    clear hrc4 f5 c5' q0'
    go_still_tail 19, (by kernel_rfl)
    go_wp2_with fail
    go_ret
    refine ⟨ret_int (by rw [HWE.out]; rfl), ?_⟩
    rw [HWL.out]
    exact two_sets H.out HBW.out HB3.out HBG.out HS5.out.1 HS5.out.2 HRC3.out.rf HLK.out HRC4.out M rfl rfl (by rw [← HM.out]; rfl)
end Go.Proofs.Ytappgelpigoknaa.InoW

/- The document's table: Truncate, Move. -/
namespace Go.Proofs.Ytappgelpigoknaa.InoW
set_option maxRecDepth 100000
set_option linter.unusedVariables false
open Go.RowKit InoP ExtW
variable {B qb cq : Nat} {L : List Ino} {next : Int} {oq : Option Addr} {zs : List IV}
theorem wp_entersX {P : Program} {o : Oper} {a : Act} {w : World} {K : Act → World → Prop} {Q : Exit → Act → World → Prop} (d : Option Tmp) {f : FuncId} {args : Array Value} (hd : o.dst = d)
    (hr : (execOp a.eval o).run P w = .ok (.enter f args) w) (R : Value → World → Prop) (hc : Calls P f args w fun e w' => ∃ v, e = .returned v ∧ R v w') (h : ∀ v w', R v w' → K (a.put d v) w') : o.wp P a w K Q := by
  subst hd
  unfold Oper.wp
  rw [hr, Oper.upon_enter]
  refine hc.mono ?_
  rintro e w' ⟨v, rfl, hw⟩
  exact h v w' hw
theorem Below.undrew {C : Nat} {w w' : World} (h : Below C w w'.drew) : Below C w w' := ⟨h.os, h.tape, h.output, h.size, h.block⟩
theorem Lft.undrew {w w' : World} (h : Lft B w w'.drew qb L next) : Lft B w w' qb L next := by
  have hd : Below w'.drew.heap.size w'.drew w' := ⟨rfl, rfl, rfl, Nat.le_refl _, fun _ _ => rfl⟩
  exact ⟨h.rt.grow hd, h.tch.trans (Tch.below hd), Below.undrew h.below⟩
set_option maxHeartbeats 3200000 in
theorem rtrunc_any (i s : Int) (hs : -9223372036854775808 ≤ s ∧ s ≤ 9223372036854775807) (hg : TGood L next) (w : World) (h : RT B w qb L next) (hBw : B ≤ w.heap.size) :
    Calls Try.prog 41 #[.pointer (some ⟨qb, 0, none⟩), .int .i64 i, .int .i64 s] w fun e w' => e = .returned (.int .i64 (truncE L i s)) ∧ Lft B w w' qb (truncL L i s) next := by
  obtain ⟨oq, cq, zs, hra⟩ := h.ra
  have H := Lib.hid hra
  have hl : L.length ≤ 1000 := by have := hg.len; omega
  have HG := Lib.hid hg
  have HBW := Lib.hid hBw
  have HTP := Lib.hid (trunc_pre (L := L) i s)
  by_cases he : fileE L i = 0
  rotate_left
  · obtain ⟨c, hc⟩ : ∃ c, fileE L i = c := ⟨_, rfl⟩
    have h0 : c ≠ 0 := by rw [← hc]; exact he
    have HE : Hid (truncE L i s = c ∧ truncL L i s = L) := Lib.hid (by
      have e : truncE L i s = c := by rw [HTP.out, if_neg he, hc]
      exact ⟨e, trunc_no (by rw [e]; exact h0)⟩)
    have HC := Lib.hid (rfile_bad i c hc h0 hg.rises hl w hra)
    have hcn : (c != 0) = true := bne_iff_ne.2 h0
    clear h hra hl hg hBw he hc h0 hs
    go_enter Try.func41, Try.ntmps41
    go_wp2_with fail
    refine HC.out.mono ?_
    rintro e w2 ⟨⟨v, rfl⟩, rfl⟩
    go_wp2_with fail
    go_ret
    exact ⟨ret_int HE.out.1.symm, by rw [HE.out.2]; exact ⟨H.out.rt, Tch.refl _, Below.refl _ _⟩⟩
  obtain ⟨x, k, hf, hkk, hxi, hk, hu, hfi⟩ := rfile_ok i he hg.rises hl
  have HC := Lib.hid (hfi B qb cq next oq zs w hra)
  by_cases hm : s < 0 ∨ 8192 < s
  · have HE : Hid (truncE L i s = 67 ∧ truncL L i s = L) := Lib.hid (by
      have e : truncE L i s = 67 := by rw [HTP.out, if_pos he, if_pos hm]
      exact ⟨e, trunc_no (by rw [e]; decide)⟩)
    have hcs : s < 0 ∨ (decide (s < 0) = false ∧ 8192 < s) := by
      by_cases h1 : s < 0
      · exact .inl h1
      · exact .inr ⟨decide_eq_false h1, by omega⟩
    clear h hra hl hg hBw he hf hkk hxi hk hu hfi hm hs
    rcases hcs with b1 | ⟨b1, b2⟩
    all_goals
      go_enter Try.func41, Try.ntmps41
      go_wp2_with fail
      refine HC.out.mono ?_
      rintro e w2 ⟨rfl, rfl⟩
      go_wp2_with fail
      go_ret
      exact ⟨ret_int HE.out.1.symm, by rw [HE.out.2]; exact ⟨H.out.rt, Tch.refl _, Below.refl _ _⟩⟩
  have b1 : decide (s < 0) = false := decide_eq_false (by omega)
  have b2 : decide (8192 < s) = false := decide_eq_false (by omega)
  have HXG := hg.all x (find_mem hf).1
  have hpl : x.p.length ≤ 1000 := by have := HXG.p.1; omega
  have HCS : Hid (cutS x.p s = cutL x.p s) := Lib.hid (by unfold cutS; rw [if_pos HXG.p])
  obtain ⟨q0, _, _, _⟩ := hra.q
  obtain ⟨g, z, hrc, hBg⟩ := hra.at hk
  have HRC := Lib.hid hrc
  have HBG := Lib.hid hBg
  obtain rfl := hrc.oq
  have c5 := hrc.c5
  have hkl : k < L.length := (List.getElem?_eq_some_iff.1 hk).1
  have z1 : (k : Int) < (L.length : Int) := by omega
  have z2 : (k : Int) < 1000 := by omega
  have z0 : ¬ (k : Int) < 0 := by omega
  have HF := Lib.hid hf
  have HXI := Lib.hid hxi
  have HK := Lib.hid hk
  have HU := Lib.hid hu
  have HCUT := Lib.hid (fun c W (hb : Below w.heap.size w W) => rcut_any z.oa c x.p s hs (by omega) W (hrc.rd.pts.grow hb))
  have HTE : Hid (truncE L i s = 0) := Lib.hid (by rw [HTP.out, if_pos he, if_neg hm])
  have HTL : Hid (truncL L i s = L.set k (truncX x s)) := Lib.hid (by
    unfold truncL
    rw [HF.out]
    show (if truncE L i s = 0 then upd L (truncX x s) else L) = _
    rw [if_pos HTE.out]
    exact HU.out _ HXI.out)
  clear h hra hl hg hBw he hfi hm HXG hrc hBg hkl hf hxi hk hu hpl hkk hs
  go_enter Try.func41, Try.ntmps41
  go_wp2_with fail
  refine HC.out.mono ?_
  rintro e w2 ⟨rfl, rfl⟩
  go_wp2_with fail
  have HS0 : Hid (Below w.heap.size w w.drew) := Lib.hid (Below.refl _ _).drew
  refine regionL 17 18 (fun W => Below w.heap.size w W) (by kernel_rfl) rfl ?_
  refine takeL 0 (some 24) (v := ?_) rfl (by kernel_rfl) (by kernel_rfl) (by kernel_rfl) (by kernel_rfl) (fun _ _ _ h => h) rfl rfl HS0.out ?_ ?_
  rotate_left
  · intro wq hq
    have g0 := cell_step hq q0
    have g5 := cell_step hq c5
    go_simp
    with_reducible rfl
  simp only [Act.put, List.setIfInBounds_toArray, List.set_cons_zero, List.set_cons_succ]
  refine takeL 1 (some 25) (v := ?_) rfl (by kernel_rfl) (by kernel_rfl) (by kernel_rfl) (by kernel_rfl) (fun _ _ _ h => h) rfl rfl HS0.out ?_ ?_
  rotate_left
  · intro wq hq
    have g0 := cell_step hq q0
    have g5 := cell_step hq c5
    go_simp
    with_reducible rfl
  simp only [Act.put, List.setIfInBounds_toArray, List.set_cons_zero, List.set_cons_succ]
  refine takeL 2 (some 26) (v := ?_) rfl (by kernel_rfl) (by kernel_rfl) (by kernel_rfl) (by kernel_rfl) (fun _ _ _ h => h) rfl rfl HS0.out ?_ ?_
  rotate_left
  · intro wq hq
    have g0 := cell_step hq q0
    have g5 := cell_step hq c5
    go_simp
    with_reducible rfl
  simp only [Act.put, List.setIfInBounds_toArray, List.set_cons_zero, List.set_cons_succ]
  refine takeL 3 (some 27) (v := ?_) rfl (by kernel_rfl) (by kernel_rfl) (by kernel_rfl) (by kernel_rfl) (fun _ _ _ h => h) rfl rfl HS0.out ?_ ?_
  rotate_left
  · intro wq hq
    have g0 := cell_step hq q0
    have g5 := cell_step hq c5
    go_simp
    with_reducible rfl
  simp only [Act.put, List.setIfInBounds_toArray, List.set_cons_zero, List.set_cons_succ]
  refine takeL 4 (some 28) (v := ?_) rfl (by kernel_rfl) (by kernel_rfl) (by kernel_rfl) (by kernel_rfl) (fun _ _ _ h => h) rfl rfl HS0.out ?_ ?_
  rotate_left
  · intro wq hq
    have g0 := cell_step hq q0
    have g5 := cell_step hq c5
    go_simp
    with_reducible rfl
  simp only [Act.put, List.setIfInBounds_toArray, List.set_cons_zero, List.set_cons_succ]
  refine takeL 5 (some 29) (v := ?_) rfl (by kernel_rfl) (by kernel_rfl) (by kernel_rfl) (by kernel_rfl) (fun _ _ _ h => h) rfl rfl HS0.out ?_ ?_
  rotate_left
  · intro wq hq
    have g0 := cell_step hq q0
    have g5 := cell_step hq c5
    go_simp
    with_reducible rfl
  simp only [Act.put, List.setIfInBounds_toArray, List.set_cons_zero, List.set_cons_succ]
  refine takeL 6 (some 30) (v := ?_) rfl (by kernel_rfl) (by kernel_rfl) (by kernel_rfl) (by kernel_rfl) (fun _ _ _ h => h) rfl rfl HS0.out ?_ ?_
  rotate_left
  · intro wq hq
    have g0 := cell_step hq q0
    have g5 := cell_step hq c5
    go_simp
    with_reducible rfl
  simp only [Act.put, List.setIfInBounds_toArray, List.set_cons_zero, List.set_cons_succ]
  refine takeL 7 (some 31) (v := ?_) rfl (by kernel_rfl) (by kernel_rfl) (by kernel_rfl) (by kernel_rfl) (fun _ _ _ h => h) rfl rfl HS0.out ?_ ?_
  rotate_left
  · intro wq hq
    have g0 := cell_step hq q0
    have g5 := cell_step hq c5
    go_simp
    with_reducible rfl
  simp only [Act.put, List.setIfInBounds_toArray, List.set_cons_zero, List.set_cons_succ]
  refine takeL 8 (some 32) (v := ?_) rfl (by kernel_rfl) (by kernel_rfl) (by kernel_rfl) (by kernel_rfl) (fun _ _ _ h => h) rfl rfl HS0.out ?_ ?_
  rotate_left
  · intro wq hq
    have g0 := cell_step hq q0
    have g5 := cell_step hq c5
    go_simp
    with_reducible rfl
  simp only [Act.put, List.setIfInBounds_toArray, List.set_cons_zero, List.set_cons_succ]
  refine takeL 9 (some 33) (v := ?_) rfl (by kernel_rfl) (by kernel_rfl) (by kernel_rfl) (by kernel_rfl) (fun _ _ _ h => h) rfl rfl HS0.out ?_ ?_
  rotate_left
  · intro wq hq
    have g0 := cell_step hq q0
    have g5 := cell_step hq c5
    go_simp
    with_reducible rfl
  simp only [Act.put, List.setIfInBounds_toArray, List.set_cons_zero, List.set_cons_succ]
  refine takeL 10 (some 34) (v := ?_) rfl (by kernel_rfl) (by kernel_rfl) (by kernel_rfl) (by kernel_rfl) (fun _ _ _ h => h) rfl rfl HS0.out ?_ ?_
  rotate_left
  · intro wq hq
    have g0 := cell_step hq q0
    have g5 := cell_step hq c5
    go_simp
    with_reducible rfl
  simp only [Act.put, List.setIfInBounds_toArray, List.set_cons_zero, List.set_cons_succ]
  refine takeL 11 (some 35) (v := ?_) rfl (by kernel_rfl) (by kernel_rfl) (by kernel_rfl) (by kernel_rfl) (fun _ _ _ h => h) rfl rfl HS0.out ?_ ?_
  rotate_left
  · intro wq hq
    have g0 := cell_step hq q0
    have g5 := cell_step hq c5
    go_simp
    with_reducible rfl
  simp only [Act.put, List.setIfInBounds_toArray, List.set_cons_zero, List.set_cons_succ]
  refine takeL 12 (some 36) (v := ?_) rfl (by kernel_rfl) (by kernel_rfl) (by kernel_rfl) (by kernel_rfl) (fun _ _ _ h => h) rfl rfl HS0.out ?_ ?_
  rotate_left
  · intro wq hq
    have g0 := cell_step hq q0
    have g5 := cell_step hq c5
    go_simp
    with_reducible rfl
  simp only [Act.put, List.setIfInBounds_toArray, List.set_cons_zero, List.set_cons_succ]
  refine takeL 13 (some 37) (v := ?_) rfl (by kernel_rfl) (by kernel_rfl) (by kernel_rfl) (by kernel_rfl) (fun _ _ _ h => h) rfl rfl HS0.out ?_ ?_
  rotate_left
  · intro wq hq
    have g0 := cell_step hq q0
    have g5 := cell_step hq c5
    go_simp
    with_reducible rfl
  simp only [Act.put, List.setIfInBounds_toArray, List.set_cons_zero, List.set_cons_succ]
  refine oneL 14 (by kernel_rfl) rfl rfl ?_
  refine wp_entersX (some 38) (f := 54) (args := #[.slice z.oa x.p.length z.c, .int .i64 s]) rfl ?_ (fun v W => Row w.drew.heap.size W v (cutS x.p s) ∧ Below w.heap.size w W) ?_ ?_
  · go_simp
  · exact (HCUT.out z.c w.drew HS0.out).mono fun e w' ⟨v, h1, h2, h3⟩ => ⟨v, h1, h2, bstep HS0.out h3⟩
  rintro v w3 ⟨hrow, hb3⟩
  rw [HCS.out] at hrow
  obtain ⟨oa2, cap2, rfl, _, hcm, _⟩ := hrow.form
  have HB3 := Lib.hid hb3
  have HROW := Lib.hid hrow
  have H3 := Lib.hid (H.out.grow hb3)
  obtain ⟨z3, hrc3, _⟩ := H3.out.atg HK.out
  have HRC3 := Lib.hid hrc3
  have f5 := hrc3.fr (k * 6 + 5)
  have c5' := hrc3.c5
  have HS5 := Lib.hid (RA.set H3.out HK.out hrc3 5 (.slice oa2 (cutL x.p s).length cap2) (by omega) (z' := { z3 with oa := oa2, n := (cutL x.p s).length, c := cap2 }) rfl (read_parts hrc3.rd hrow) (PartB.row hrow))
  clear hrow hb3 hcm hrc3
  refine ⟨fun _ => HB3.out, ?_⟩
  simp only [Act.put, List.setIfInBounds_toArray, List.set_cons_zero, List.set_cons_succ]
  refine oneL 15 (by kernel_rfl) rfl rfl (wp_runs (some 39) (v := .pointer (some ⟨g, k * 6, none⟩)) (w' := w3) rfl (by go_simp) ⟨fun _ => HB3.out, ?_⟩)
  simp only [Act.put, List.setIfInBounds_toArray, List.set_cons_zero, List.set_cons_succ]
  refine oneL 16 (by kernel_rfl) rfl rfl (wp_runs (some 40) (v := .pointer (some ⟨g, k * 6 + 5, none⟩)) (w' := w3) rfl (by go_simp) ⟨fun _ => HB3.out, ?_⟩)
  simp only [Act.put, List.setIfInBounds_toArray, List.set_cons_zero, List.set_cons_succ]
  refine oneL 17 (by kernel_rfl) rfl rfl (wp_skips none (w' := w3.setCell ⟨g, k * 6 + 5, none⟩ (.slice oa2 (cutL x.p s).length cap2)) rfl (by go_simp) ⟨fun h => absurd rfl h, ?_⟩)
  simp only [Act.put]
  refine doneL (by kernel_rfl) ?_
  try simp only [Exit.then]
  generalize w3.setCell ⟨g, k * 6 + 5, none⟩ (.slice oa2 (cutL x.p s).length cap2) = w4 at *
  have HLK : Hid ((L.set k { x with p := cutL x.p s })[k]? = some { x with p := cutL x.p s }) := Lib.hid (by rw [List.getElem?_set_self (List.getElem?_eq_some_iff.1 HK.out).1])
  obtain ⟨z4, hrc4, _⟩ := HS5.out.1.atg HLK.out
  have HRC4 := Lib.hid hrc4
  have f4 := hrc4.fr (k * 6 + 4)
  have c4' := hrc4.c4
  have q4 := HS5.out.1.q.1
  rw [List.length_set] at q4
  simp only at c4'
  clear hrc4 f5 c5' q0 c5
  go_wp2_with fail
  go_ret
  refine ⟨ret_int HTE.out.symm, ?_⟩
  rw [HTL.out]
  exact Lft.undrew (two_sets H.out HBW.out HB3.out HBG.out HS5.out.1 HS5.out.2 HRC3.out.rf HLK.out HRC4.out s rfl rfl rfl)
set_option maxHeartbeats 3200000 in
theorem rmove_t (i tt : Int) (ms : List Mq) (hlen : ms.length ≤ 1000000) (om : Option Addr) (cm : Nat) (hg : TGood L next) (w : World) (h : RT B w qb L next) (hBw : B ≤ w.heap.size) (hm : KAt encQ 4 w.heap.size om ms w) :
    Calls Try.prog 42 #[.pointer (some ⟨qb, 0, none⟩), .int .i64 i, .slice om ms.length cm, .int .i64 tt] w fun e w' => e = .returned (.int .i64 (tmovE L i ms tt)) ∧ Lft B w w' qb (tmovL L i ms tt) next := by
  obtain ⟨oq, cq, zs, hra⟩ := h.ra
  have H := Lib.hid hra
  have hl : L.length ≤ 1000 := by have := hg.len; omega
  have HG := Lib.hid hg
  have HBW := Lib.hid hBw
  have HMA := Lib.hid hm
  have HTP := Lib.hid (tmov_pre L i ms tt)
  by_cases he : fileE L i = 0
  rotate_left
  · obtain ⟨c, hc⟩ : ∃ c, fileE L i = c := ⟨_, rfl⟩
    have h0 : c ≠ 0 := by rw [← hc]; exact he
    have HE : Hid (tmovE L i ms tt = c ∧ tmovL L i ms tt = L) := Lib.hid (by
      have e : tmovE L i ms tt = c := by rw [HTP.out, if_neg he, hc]
      exact ⟨e, tmov_no (by rw [e]; exact h0)⟩)
    have HC := Lib.hid (rfile_bad i c hc h0 hg.rises hl w hra)
    have hcn : (c != 0) = true := bne_iff_ne.2 h0
    clear h hra hl hg hBw he hc h0 hm
    go_enter Try.func42, Try.ntmps42
    go_wp2_with fail
    refine HC.out.mono ?_
    rintro e w2 ⟨⟨v, rfl⟩, rfl⟩
    go_wp2_with fail
    go_ret
    exact ⟨ret_int HE.out.1.symm, by rw [HE.out.2]; exact ⟨H.out.rt, Tch.refl _, Below.refl _ _⟩⟩
  obtain ⟨x, k, hf, hkk, hxi, hk, hu, hfi⟩ := rfile_ok i he hg.rises hl
  have HC := Lib.hid (hfi B qb cq next oq zs w hra)
  have HXG := Lib.hid (hg.all x (find_mem hf).1)
  obtain ⟨q0, _, _, _⟩ := hra.q
  obtain ⟨g, z, hrc, hBg⟩ := hra.at hk
  have HRC := Lib.hid hrc
  have HBG := Lib.hid hBg
  obtain rfl := hrc.oq
  have c5 := hrc.c5
  have hkl : k < L.length := (List.getElem?_eq_some_iff.1 hk).1
  have z1 : (k : Int) < (L.length : Int) := by omega
  have z2 : (k : Int) < 1000 := by omega
  have z0 : ¬ (k : Int) < 0 := by omega
  have HF := Lib.hid hf
  have HXI := Lib.hid hxi
  have HK := Lib.hid hk
  have HU := Lib.hid hu
  have HTE : Hid (tmovE L i ms tt = spaceE (mvsP x.p ms tt).2) := Lib.hid (by rw [HTP.out, if_pos he, hf])
  have HTY0 : Hid (∀ a, z.oa = some a → PartB w a.block) := Lib.hid (fun a ha => H.out.ty k z hrc.hz a ha)
  have HNL0 : Hid (z.oa = none → x.p.length = 0 ∧ z.c = 0) := Lib.hid (fun e => by have := hrc.rd.nil e; rw [hrc.rd.n] at this; exact this)
  have HPT0 : Hid (PtsAt w.heap.size z.oa x.p w) := Lib.hid hrc.rd.pts
  clear h hra hl hg hBw he hfi hrc hBg hkl hf hxi hk hu hkk hm
  go_enter Try.func42, Try.ntmps42
  go_wp2_with fail
  refine HC.out.mono ?_
  rintro e w2 ⟨rfl, rfl⟩
  go_wp2_with fail
  clear q0 c5 z1
  go_loopw [11, 12] (fun v j wr => ∃ (m : Nat) (P : List Pt) (o5 : Option Addr) (c5 : Nat), m ≤ ms.length ∧ v = .slice o5 P.length c5 ∧ j = .int .i64 (m : Int) ∧ mvsP x.p ms tt = mvsP P (ms.drop m) tt ∧ P.length ≤ maxLen ∧ PtsAt wr.heap.size o5 P wr ∧ (∀ a, o5 = some a → PartB wr a.block) ∧ (o5 = none → P.length = 0 ∧ c5 = 0) ∧ Below w.heap.size w wr) (fun _ j _ => ((ms.length : Int) - intOf j).toNat)
  case atStart => exact ⟨0, x.p, z.oa, z.c, by omega, rfl, rfl, by simp, by have := HXG.out.p.1; unfold maxLen; omega, HPT0.out, HTY0.out, HNL0.out, Below.refl _ _⟩
  case round =>
    obtain ⟨m, P, o5, c5, hm, rfl, rfl, hmv, hpl, hpt, hty, hnl, hbel⟩ := hrel
    have HMV := Lib.hid hmv
    have HPL := Lib.hid hpl
    have HPT := Lib.hid hpt
    have HTY := Lib.hid hty
    have HNL := Lib.hid hnl
    have HB := Lib.hid hbel
    clear hmv hpl hpt hty hnl hbel
    by_cases hlt : m < ms.length
    · have hlt1 : (m : Int) < (ms.length : Int) := by omega
      have hm0 : ¬ (m : Int) < 0 := by omega
      obtain ⟨q, hq⟩ : ∃ q, ms[m]? = some q := ⟨_, List.getElem?_eq_getElem hlt⟩
      obtain ⟨a, rfl, _, d0, d1, d2, d3⟩ := q_at (HMA.out.below HB.out) hq
      have HDR : Hid (ms.drop m = q :: ms.drop (m + 1)) := Lib.hid (by
        obtain ⟨hk', rfl⟩ := List.getElem?_eq_some_iff.1 hq
        exact List.drop_eq_getElem_cons hk')
      obtain ⟨qa, qf, qn, qt⟩ := q
      simp only at d0 d1 d2 d3
      obtain ⟨E, hE⟩ : ∃ E, moveE P qa qf qn qt tt = E := ⟨_, rfl⟩
      have HE := Lib.hid hE
      clear hq hE
      have HCM := Lib.hid (rmove_any o5 c5 P qa qf qn qt tt (by have := HPL.out; unfold maxLen at this; omega) wr HPT.out)
      by_cases hE0 : E = 0
      · subst hE0
        have HMV2 : Hid (mvsP x.p ms tt = mvsP (moveL P qa qf qn qt tt) (ms.drop (m + 1)) tt) := Lib.hid (by rw [HMV.out, HDR.out, mvsP, if_pos HE.out])
        go_wp2_with fail
        refine HCM.out.mono ?_
        rintro e w3 ⟨v, rfl, hrow, hb3⟩
        rw [HE.out]
        obtain ⟨oa2, cap2, rfl, hlc, hcm, _⟩ := hrow.form
        have HB3 := Lib.hid hb3
        have HROW := Lib.hid hrow
        have HLC : Hid ((moveL P qa qf qn qt tt).length ≤ maxLen) := Lib.hid (Nat.le_trans hlc hcm)
        clear hrow hb3 hlc hcm
        go_wp2_with fail
        exact ⟨⟨m + 1, moveL P qa qf qn qt tt, oa2, cap2, by omega, rfl, by simp, HMV2.out, HLC.out, HROW.out.pts, PartB.row HROW.out, (row_base HROW.out).2.2, bstep HB.out HB3.out⟩, by simp [intOf]; omega⟩
      · have hen : (E != 0) = true := bne_iff_ne.2 hE0
        have HFIN : Hid (tmovE L i ms tt = spaceE E ∧ tmovL L i ms tt = L) := Lib.hid (by
          have e : tmovE L i ms tt = spaceE E := by
            rw [HTE.out, HMV.out, HDR.out, mvsP, if_neg (by rw [HE.out]; exact hE0)]
            show spaceE (moveE P qa qf qn qt tt) = _
            rw [HE.out]
          exact ⟨e, tmov_no (by rw [e]; exact fun e => hE0 (space_ok.1 e))⟩)
        go_wp2_with fail
        refine HCM.out.mono ?_
        rintro e w3 ⟨v, rfl, hrow, hb3⟩
        rw [HE.out]
        have HB3 := Lib.hid hb3
        clear hrow hb3
        go_wp2_with fail
        refine (rspace_any E w3).mono ?_
        rintro e w4 ⟨rfl, rfl⟩
        go_wp2_with fail
        go_ret
        have hb := bstep HB.out HB3.out
        exact ⟨ret_int HFIN.out.1.symm, by rw [HFIN.out.2]; exact ⟨H.out.rt.grow hb, Tch.below hb, hb.mono HBW.out⟩⟩
    · obtain rfl : m = ms.length := by omega
      have hlt1 : ¬ (ms.length : Int) < (ms.length : Int) := by omega
      have HPE : Hid ((mvsP x.p ms tt) = (P, 0)) := Lib.hid (by rw [HMV.out, List.drop_length]; rfl)
      have H3 := Lib.hid (H.out.grow HB.out)
      obtain ⟨z3, hrc3, _⟩ := H3.out.atg HK.out
      have HRC3 := Lib.hid hrc3
      have f5 := hrc3.fr (k * 6 + 5)
      have c5' := hrc3.c5
      have q3 := H3.out.q.1
      have hkl : (k : Int) < (L.length : Int) := by have := (List.getElem?_eq_some_iff.1 HK.out).1; omega
      have HRD : Hid (IRead wr { x with p := P } { z3 with oa := o5, n := P.length, c := c5 }) := Lib.hid ⟨hrc3.rd.i, hrc3.rd.k, hrc3.rd.l, hrc3.rd.o, hrc3.rd.s, rfl, HPT.out, HNL.out⟩
      have HS5 := Lib.hid (RA.set H3.out HK.out hrc3 5 (.slice o5 P.length c5) (by omega) (z' := { z3 with oa := o5, n := P.length, c := c5 }) rfl HRD.out HTY.out)
      have HZ : Hid (tmovE L i ms tt = 0 ∧ tmovL L i ms tt = L.set k { x with p := P }) := Lib.hid (by
        have e : tmovE L i ms tt = 0 := by rw [HTE.out, HPE.out]; rfl
        refine ⟨e, ?_⟩
        unfold tmovL
        rw [HF.out]
        show (if tmovE L i ms tt = 0 then upd L { x with p := (mvsP x.p ms tt).1 } else L) = _
        rw [if_pos e, HPE.out]
        exact HU.out _ HXI.out)
      clear hrc3 hlt hm
      go_wp2_with fail
      go_ret
      refine ⟨ret_int HZ.out.1.symm, ?_⟩
      rw [HZ.out.2]
      exact ⟨HS5.out.1.rt, (Tch.below HB.out).trans (Tch.only HS5.out.2 HRC3.out.rf), (HB.out.mono HBW.out).trans (HS5.out.2.below HBG.out (Nat.le_trans HBW.out HB.out.size))⟩
end Go.Proofs.Ytappgelpigoknaa.InoW

/- The table: Open. -/
namespace Go.Proofs.Ytappgelpigoknaa.InoW
set_option maxRecDepth 100000
set_option linter.unusedVariables false
open Go.RowKit InoP ExtW
variable {tb b : Nat} {L : List Ino} {next : Int}
set_option maxHeartbeats 1600000 in
theorem topen_any (i d : Int) (hi : iOk i) (w : World) (h : TIs w tb b L next) :
    Calls Try.prog 26 #[.pointer (some ⟨tb, 0, none⟩), .int .i64 i, .int .i64 d] w fun e w' => e = .returned (.int .i64 (openE L i d)) ∧ TIs w' tb b (openL L i d) next ∧ Only b w w' := by
  have H := Lib.hid h
  rcases h.all i with ⟨hf, hget⟩ | ⟨x, yi, yk, yl, yo, ys, oa, n, c, hf, hg, hr, hget⟩
  · have HE : Hid (openE L i d = 60 ∧ openL L i d = L) := Lib.hid (by unfold openE openL; rw [hf]; exact ⟨rfl, rfl⟩)
    have HC := Lib.hid (hget w (Below.refl _ _) hi)
    clear h hi hf hget
    go_enter Try.func26, Try.ntmps26
    go_wp2_with (go_at_call 30; refine HC.out.mono ?_; rintro e w2 ⟨rfl, hb2⟩; have HB2 := Lib.hid hb2; clear hb2)
    go_ret
    have hb := bstep HB2.out (below_alloc w2 (.cells #[.int .i64 0, .int .i64 0, .int .i64 0, .int .i64 0, .int .i64 0, .slice none 0 0] 62))
    exact ⟨ret_int HE.out.1.symm, by rw [HE.out.2]; exact H.out.grow hb, Only.of_below hb⟩
  · have HC := Lib.hid (hget w (Below.refl _ _))
    have HF := Lib.hid hf
    have HG := Lib.hid hg
    have HR := Lib.hid hr
    have hl := hg.o
    have hyl := hr.o
    have hyk := hr.k
    simp only at hyl hyk
    have HL := Lib.hid hl
    have HYL := Lib.hid hyl
    have HYK := Lib.hid hyk
    clear h hi hf hg hr hget hl hyl hyk
    by_cases hok : d = 1 ∨ d = -1
    · by_cases hk1 : x.k = 1
      · have HE : Hid (openE L i d = 63 ∧ openL L i d = L) := Lib.hid (by
          have e : openE L i d = 63 := by unfold openE; rw [HF.out]; exact (if_pos hok).trans (if_pos hk1)
          exact ⟨e, by unfold openL; rw [HF.out]; exact if_neg (by rw [e]; decide)⟩)
        have q1 : (yk == 1) = true := beq_iff_eq.2 (by rw [HYK.out]; exact hk1)
        clear hk1
        rcases hok with rfl | rfl
        all_goals
          go_enter Try.func26, Try.ntmps26
          go_wp2_with (go_at_call 30; refine HC.out.mono ?_; rintro e w2 ⟨rfl, hb2⟩; have HB2 := Lib.hid hb2; clear hb2)
          go_ret
          have hb := bstep HB2.out (below_alloc w2 (.cells #[.int .i64 yi, .int .i64 yk, .int .i64 yl, .int .i64 yo, .int .i64 ys, .slice oa n c] 62))
          exact ⟨ret_int HE.out.1.symm, by rw [HE.out.2]; exact H.out.grow hb, Only.of_below hb⟩
      have q1 : (yk == 1) = false := beq_eq_false_iff_ne.2 (by rw [HYK.out]; exact hk1)
      have HK1 := Lib.hid hk1
      by_cases hlk : x.o + d < 0 ∨ 128 < x.o + d
      · have HE : Hid (openE L i d = 3 ∧ openL L i d = L) := Lib.hid (by
          have e : openE L i d = 3 := by unfold openE; rw [HF.out]; exact (if_pos hok).trans ((if_neg hk1).trans (if_pos hlk))
          exact ⟨e, by unfold openL; rw [HF.out]; exact if_neg (by rw [e]; decide)⟩)
        have hw : IntKind.i64.wrap (yo + d) = yo + d := IntWalk.i64_in _ (by have := HL.out; have := HYL.out; omega)
        have hcs : (d = 1 ∧ decide (yo + 1 < 0) = false ∧ 128 < yo + 1) ∨ (d = -1 ∧ yo + -1 < 0) := by
          have := HL.out; have := HYL.out
          rcases hok with e | e
          · left; subst e; exact ⟨rfl, decide_eq_false (by omega), by omega⟩
          · right; subst e; exact ⟨rfl, by omega⟩
        clear hok hlk hk1
        rcases hcs with ⟨rfl, h2, h3⟩ | ⟨rfl, h2⟩
        all_goals
          go_enter Try.func26, Try.ntmps26
          go_wp2_with (go_at_call 30; refine HC.out.mono ?_; rintro e w2 ⟨rfl, hb2⟩; have HB2 := Lib.hid hb2; clear hb2)
          go_ret
          have hb := bstep HB2.out (below_alloc w2 (.cells #[.int .i64 yi, .int .i64 yk, .int .i64 yl, .int .i64 yo, .int .i64 ys, .slice oa n c] 62))
          exact ⟨ret_int HE.out.1.symm, by rw [HE.out.2]; exact H.out.grow hb, Only.of_below hb⟩
      · have HX : Hid (IGood { x with o := x.o + d } ∧ x.i = i) := Lib.hid ⟨{ HG.out with o := by show 0 ≤ x.o + d ∧ x.o + d ≤ 128; omega, dir := fun e => absurd e HK1.out }, (find_mem HF.out).2⟩
        have HE : Hid (openE L i d = 0 ∧ openL L i d = keepL L { x with o := x.o + d } (decide (d < 0))) := Lib.hid (by
          have e : openE L i d = 0 := by unfold openE; rw [HF.out]; exact (if_pos hok).trans ((if_neg hk1).trans (if_neg hlk))
          exact ⟨e, by unfold openL; rw [HF.out]; exact if_pos e⟩)
        have hw : IntKind.i64.wrap (yo + d) = yo + d := IntWalk.i64_in _ (by have := HL.out; have := HYL.out; omega)
        have hcs : (d = 1 ∧ decide (yo + 1 < 0) = false ∧ decide (128 < yo + 1) = false) ∨ (d = -1 ∧ decide (yo + -1 < 0) = false ∧ decide (128 < yo + -1) = false) := by
          have := HL.out; have := HYL.out
          rcases hok with e | e
          · left; subst e; exact ⟨rfl, decide_eq_false (by omega), decide_eq_false (by omega)⟩
          · right; subst e; exact ⟨rfl, decide_eq_false (by omega), decide_eq_false (by omega)⟩
        clear hok hlk hk1
        rcases hcs with ⟨rfl, h2, h3⟩ | ⟨rfl, h2, h3⟩
        · go_enter Try.func26, Try.ntmps26
          go_wp2_with (first
            | (go_at_call 30; refine HC.out.mono ?_; rintro e w2 ⟨rfl, hb2⟩; have HB2 := Lib.hid hb2; clear hb2)
            | (go_at_call 31; go_loud (refine (keep_is { x with o := x.o + 1 } x false yi yk yl (yo + 1) ys oa n c (by rw [← HF.out, ← HX.out.2]) HX.out.1 _ (H.out.grow (bstep HB2.out (below_alloc w2 _))) ((HR.out.setO _).grow (bstep HB2.out (below_alloc w2 _)))).mono ?_; rintro e w3 ⟨rfl, h3, ho3⟩; have H3 := Lib.hid h3; have HO3 := Lib.hid ho3; clear h3 ho3)))
          go_ret
          exact ⟨ret_int HE.out.1.symm, by rw [HE.out.2]; exact H3.out, (Only.of_below (bstep HB2.out (below_alloc w2 _))).trans HO3.out⟩
        · go_enter Try.func26, Try.ntmps26
          go_wp2_with (first
            | (go_at_call 30; refine HC.out.mono ?_; rintro e w2 ⟨rfl, hb2⟩; have HB2 := Lib.hid hb2; clear hb2)
            | (go_at_call 31; go_loud (refine (keep_is { x with o := x.o + -1 } x true yi yk yl (yo + -1) ys oa n c (by rw [← HF.out, ← HX.out.2]) HX.out.1 _ (H.out.grow (bstep HB2.out (below_alloc w2 _))) ((HR.out.setO _).grow (bstep HB2.out (below_alloc w2 _)))).mono ?_; rintro e w3 ⟨rfl, h3, ho3⟩; have H3 := Lib.hid h3; have HO3 := Lib.hid ho3; clear h3 ho3)))
          go_ret
          exact ⟨ret_int HE.out.1.symm, by rw [HE.out.2]; exact H3.out, (Only.of_below (bstep HB2.out (below_alloc w2 _))).trans HO3.out⟩
    · have HE : Hid (openE L i d = 1 ∧ openL L i d = L) := Lib.hid (by
        have e : openE L i d = 1 := by unfold openE; rw [HF.out]; exact if_neg hok
        exact ⟨e, by unfold openL; rw [HF.out]; exact if_neg (by rw [e]; decide)⟩)
      have h1 : (d != 1) = true := bne_iff_ne.2 (fun e => hok (.inl e))
      have h2 : (d != -1) = true := bne_iff_ne.2 (fun e => hok (.inr e))
      clear hok
      go_enter Try.func26, Try.ntmps26
      go_wp2_with (go_at_call 30; refine HC.out.mono ?_; rintro e w2 ⟨rfl, hb2⟩; have HB2 := Lib.hid hb2; clear hb2)
      go_ret
      have hb := bstep HB2.out (below_alloc w2 (.cells #[.int .i64 yi, .int .i64 yk, .int .i64 yl, .int .i64 yo, .int .i64 ys, .slice oa n c] 62))
      exact ⟨ret_int HE.out.1.symm, by rw [HE.out.2]; exact H.out.grow hb, Only.of_below hb⟩
end Go.Proofs.Ytappgelpigoknaa.InoW
