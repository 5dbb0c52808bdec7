/- Both names side by side, and a step beside them: what each call does. -/
import Derived.Test.YtffigodlfmnbpaaDirRef2
namespace Go.Proofs.Ytffigodlfmnbpaa.DirW
open Go.RowKit DirP
/-- a step: kind, directory, inode, name -/
structure Stp where
  k : Int
  d : Int
  i : Int
  s : ByteArray
def stCells (s : Stp) : Array Value := #[.int .i64 s.k, .int .i64 s.d, .int .i64 s.i, .string s.s]
def encSt (s : Stp) : List Value := [.int .i64 s.k, .int .i64 s.d, .int .i64 s.i, .string s.s]
structure PB (W w : World) (nb b c qb x : Nat) (s : Stp) (L L2 : List En) : Prop where
  h : DIs w nb b c L
  q : QIs w qb W.heap.size L2
  below : Below W.heap.size W w
  box : w.heap[x]? = some (.cells (stCells s) 30 (0, 0))
  bn : W.heap.size ≤ nb
  bb : W.heap.size ≤ b
  bc : W.heap.size ≤ c
  bq : W.heap.size ≤ qb
variable {W w : World} {nb b c qb x : Nat} {s : Stp} {L L2 : List En}
theorem ne_obj {w : World} {a b : Nat} {o o' : Obj} (h : w.heap[a]? = some o) (h' : w.heap[b]? = some o') (hne : o ≠ o') : a ≠ b := by
  rintro rfl
  rw [h] at h'
  exact hne (Option.some.inj h')
theorem DIs.mapB {w : World} {nb b c : Nat} {L : List En} (h : DIs w nb b c L) : ∃ es cl, w.heap[b]? = some (.map es cl) := by
  obtain ⟨n, es, cl, hm, _⟩ := h.map
  exact ⟨es, cl, hm⟩
theorem DIs.mapC {w : World} {nb b c : Nat} {L : List En} (h : DIs w nb b c L) : ∃ es cl, w.heap[c]? = some (.map es cl) := by
  obtain ⟨n, g, ⟨es, cl, hm, _⟩, _⟩ := h.cnts
  exact ⟨es, cl, hm⟩
theorem typeNe {cs cs' : Array Value} {t t' : TypeId} {m m' : Nat × Nat} (h : t ≠ t') : (Obj.cells cs t m) ≠ .cells cs' t' m' := fun e => by injection e with _ e _; exact h e
theorem PB.grow {w' : World} (p : PB W w nb b c qb x s L L2) (k : Below w.heap.size w w') : PB W w' nb b c qb x s L L2 :=
  ⟨p.h.grow k, p.q.grow k, bstep p.below k, (k.block x (lt_of_block p.box)).trans p.box, p.bn, p.bb, p.bc, p.bq⟩
theorem PB.drew (p : PB W w nb b c qb x s L L2) : PB W w.drew nb b c qb x s L L2 := p.grow (Below.refl _ _).drew
theorem PB.cs (p : PB W w nb b c qb x s L L2) : w.cell? ⟨x, 0, none⟩ = some (.int .i64 s.k) ∧ w.cell? ⟨x, 1, none⟩ = some (.int .i64 s.d) ∧ w.cell? ⟨x, 2, none⟩ = some (.int .i64 s.i) ∧ w.cell? ⟨x, 3, none⟩ = some (.string s.s) :=
  ⟨(new_cells p.box 0 (by simp [stCells])).1, (new_cells p.box 1 (by simp [stCells])).1, (new_cells p.box 2 (by simp [stCells])).1, (new_cells p.box 3 (by simp [stCells])).1⟩
theorem PB.xb (p : PB W w nb b c qb x s L L2) : x ≠ b ∧ x ≠ c := by
  obtain ⟨es, cl, hm⟩ := p.h.mapB
  obtain ⟨es', cl', hm'⟩ := p.h.mapC
  exact ⟨ne_obj p.box hm (by simp), ne_obj p.box hm' (by simp)⟩
theorem PB.xq (p : PB W w nb b c qb x s L L2) : x ≠ qb := by
  obtain ⟨v, hq⟩ := p.q.head
  exact ne_obj p.box hq (typeNe (by decide))
theorem PB.qs (p : PB W w nb b c qb x s L L2) : nb ≠ qb ∧ b ≠ qb ∧ c ≠ qb := by
  obtain ⟨v, hq⟩ := p.q.head
  obtain ⟨es, cl, hm⟩ := p.h.mapB
  obtain ⟨es', cl', hm'⟩ := p.h.mapC
  exact ⟨ne_obj p.h.head hq (typeNe (by decide)), ne_obj hm hq (by simp), ne_obj hm' hq (by simp)⟩
/-- the maps have turned -/
theorem PB.onB {w' : World} {L' : List En} (p : PB W w nb b c qb x s L L2) (h' : DIs w' nb b c L') (k : Only2 b c w w') : PB W w' nb b c qb x s L' L2 :=
  ⟨h', p.q.only2 k p.h.mapB p.h.mapC, p.below.trans (k.below p.bb p.bc p.below.size), k.heap p.box p.xb.1 p.xb.2, p.bn, p.bb, p.bc, p.bq⟩
/-- the document's have -/
theorem PB.onQ {w' : World} {L2' : List En} (p : PB W w nb b c qb x s L L2) (q' : QIs w' qb W.heap.size L2') (k : Only qb w w') : PB W w' nb b c qb x s L L2' :=
  ⟨p.h.only k p.qs.1 p.qs.2.1 p.qs.2.2, q', p.below.trans (k.below p.bq p.below.size), Only.heap k p.box p.xq, p.bn, p.bb, p.bc, p.bq⟩
theorem pb_add (d : Int) (t : ByteArray) (i : Int) (ht : t.size ≤ 1000) (hok : deOk (d, t)) (p : PB W w nb b c qb x s L L2) :
    Calls Try.prog 10 #[.pointer (some ⟨nb, 0, none⟩), .int .i64 d, .string t, .int .i64 i] w fun e w' => e = .returned (.int .i64 (addE L d t i)) ∧ PB W w' nb b c qb x s (addL L d t i) L2 :=
  (add_any nb b c L d t i (by omega) hok w p.h).mono fun _ _ ⟨he, h1, h2, _⟩ => ⟨he, p.onB h1 h2⟩
theorem pb_radd (d : Int) (t : ByteArray) (i : Int) (ht : t.size ≤ 1000) (hl : L2.length ≤ 200) (p : PB W w nb b c qb x s L L2) :
    Calls Try.prog 15 #[.pointer (some ⟨qb, 0, none⟩), .int .i64 d, .string t, .int .i64 i] w fun e w' => e = .returned (.int .i64 (addE L2 d t i)) ∧ PB W w' nb b c qb x s L (addL L2 d t i) :=
  (radd_any qb _ L2 (by omega) d t i (by omega) w p.q p.below.size).mono fun _ _ ⟨he, h1, h2⟩ => ⟨he, p.onQ h1 h2⟩
theorem pb_drop (d : Int) (t : ByteArray) (hok : deOk (d, t)) (p : PB W w nb b c qb x s L L2) :
    Calls Try.prog 11 #[.pointer (some ⟨nb, 0, none⟩), .int .i64 d, .string t] w fun e w' => e = .returned (.int .i64 (dropE L d t)) ∧ PB W w' nb b c qb x s (del L (d, t)) L2 :=
  (drop_any nb b c L d t hok w p.h).mono fun _ _ ⟨he, h1, h2, _⟩ => ⟨he, p.onB h1 h2⟩
theorem pb_rdrop (d : Int) (t : ByteArray) (hl : L2.length ≤ 200) (p : PB W w nb b c qb x s L L2) :
    Calls Try.prog 16 #[.pointer (some ⟨qb, 0, none⟩), .int .i64 d, .string t] w fun e w' => e = .returned (.int .i64 (dropE L2 d t)) ∧ PB W w' nb b c qb x s L (del L2 (d, t)) :=
  (rdrop_any qb _ L2 (by omega) d t w p.q p.below.size).mono fun _ _ ⟨he, h1, h2⟩ => ⟨he, p.onQ h1 h2⟩
theorem pb_find (d : Int) (t : ByteArray) (hok : deOk (d, t)) (p : PB W w nb b c qb x s L L2) :
    Calls Try.prog 12 #[.pointer (some ⟨nb, 0, none⟩), .int .i64 d, .string t] w fun e w' => e = .returned (.tuple #[.int .i64 (fiI L d t), .bool (fiB L d t)]) ∧ w = w' := find_any nb b c L d t hok w p.h
theorem pb_rfind (d : Int) (t : ByteArray) (hl : L2.length ≤ 200) (p : PB W w nb b c qb x s L L2) :
    Calls Try.prog 17 #[.pointer (some ⟨qb, 0, none⟩), .int .i64 d, .string t] w fun e w' => e = .returned (.tuple #[.int .i64 (fiI L2 d t), .bool (fiB L2 d t)]) ∧ w = w' := rfind_any qb _ L2 (by omega) d t w p.q
section
variable {w5 : World}
theorem seeS2 {p q r : Addr} {u v z : Value} (p0 : w5.cell? p = some u) (r0 : w5.cell? r = some z) (q0 : w5.cell? q = some v) (h : Below w5.heap.size w5 w) : (w.cell? p = some u ∧ w.cell? r = some z ∧ w.cell? q = some v) ∧ Below w5.heap.size w5 w :=
  ⟨⟨cell_step h p0, cell_step h r0, cell_step h q0⟩, h⟩
theorem names_le {L : List En} (hl : L.length ≤ 200) (d : Int) : (namesL L d).length ≤ 200 := by
  rw [names_len]; unfold cnt; exact Nat.le_trans List.countP_le_length hl
theorem bl_list (d : Int) (hl : L.length ≤ 200) (p : PB W w5 nb b c qb x s L L) (k : Below w5.heap.size w5 w) :
    Calls Try.prog 19 #[.pointer (some ⟨nb, 0, none⟩), .int .i64 d] w fun e w' => ∃ oa cap, e = .returned (.slice oa (namesL L d).length cap) ∧ KAt encS 1 w'.heap.size oa (namesL L d) w' ∧ Below w5.heap.size w5 w' :=
  (list_any nb b c L (by omega) d w (p.grow k).h).mono fun _ _ ⟨v, he, hr, h1⟩ => by
    obtain ⟨oa, cap, rfl, _⟩ := hr.form
    exact ⟨oa, cap, he, hr.pts st_len (by omega), bstep k h1⟩
theorem bl_rlist (d : Int) (hl : L.length ≤ 200) {o1 : Option Addr} {l1 : List ByteArray} (h1 : KAt encS 1 w.heap.size o1 l1 w) (p : PB W w5 nb b c qb x s L L) (k : Below w5.heap.size w5 w) :
    Calls Try.prog 20 #[.pointer (some ⟨qb, 0, none⟩), .int .i64 d] w fun e w' => ∃ oa cap, e = .returned (.slice oa (namesL L d).length cap) ∧ KAt encS 1 w'.heap.size o1 l1 w' ∧ KAt encS 1 w'.heap.size oa (namesL L d) w' ∧ Below w5.heap.size w5 w' :=
  (rlist_any qb _ L (by omega) d w (p.grow k).q).mono fun _ _ ⟨v, he, hr, hb⟩ => by
    obtain ⟨oa, cap, rfl, _⟩ := hr.form
    exact ⟨oa, cap, he, h1.grow hb, hr.pts st_len (by omega), bstep k hb⟩
theorem bl_rlen (d : Int) (hl : L.length ≤ 200) (p : PB W w5 nb b c qb x s L L) (k : Below w5.heap.size w5 w) :
    Calls Try.prog 20 #[.pointer (some ⟨qb, 0, none⟩), .int .i64 d] w fun e w' => ∃ oa cap, e = .returned (.slice oa (cnt L d) cap) ∧ Below w5.heap.size w5 w' :=
  (rlist_any qb _ L (by omega) d w (p.grow k).q).mono fun _ _ ⟨v, he, hr, hb⟩ => by
    obtain ⟨oa, cap, rfl, _⟩ := hr.form
    rw [names_len] at he
    exact ⟨oa, cap, he, bstep k hb⟩
theorem bl_texts (oa ob : Option Addr) (ca cb : Nat) (l : List ByteArray) (hl : l.length ≤ 200) (h1 : KAt encS 1 w.heap.size oa l w) (h2 : KAt encS 1 w.heap.size ob l w) (k : Below w5.heap.size w5 w) :
    Calls Try.prog 18 #[.slice oa l.length ca, .slice ob l.length cb] w fun e w' => e = .returned (.bool true) ∧ Below w5.heap.size w5 w' :=
  (texts_any _ oa ob ca cb l (by omega) w (Nat.le_refl _) h1 h2).mono fun _ _ ⟨he, hb⟩ => ⟨he, bstep k hb⟩
theorem bl_count (d : Int) (hd : inOk d) (p : PB W w5 nb b c qb x s L L) (k : Below w5.heap.size w5 w) :
    Calls Try.prog 13 #[.pointer (some ⟨nb, 0, none⟩), .int .i64 d] w fun e w' => e = .returned (.int .i64 (cnt L d : Nat)) ∧ w = w' := count_any nb b c L d hd w (p.grow k).h
def ofL (L : List En) (i : Int) : List En := L.filter fun a => decide (a.i = i)
theorem ofL_le {L : List En} (hl : L.length ≤ 200) (i : Int) : (ofL L i).length ≤ 200 := Nat.le_trans (List.length_filter_le _ _) hl
theorem bl_of (i : Int) (hl : L.length ≤ 200) (p : PB W w5 nb b c qb x s L L) (k : Below w5.heap.size w5 w) :
    Calls Try.prog 14 #[.pointer (some ⟨nb, 0, none⟩), .int .i64 i] w fun e w' => ∃ oa cap, e = .returned (.slice oa (ofL L i).length cap) ∧ KAt encE 3 w'.heap.size oa (ofL L i) w' ∧ Below w5.heap.size w5 w' :=
  (of_any nb b c L (by omega) i w (p.grow k).h).mono fun _ _ ⟨v, he, hr, h1⟩ => by
    obtain ⟨oa, cap, rfl, _⟩ := hr.form
    exact ⟨oa, cap, he, hr.pts en_len (by omega), bstep k h1⟩
theorem bl_own (oa : Option Addr) (cap : Nat) (l : List En) (hl : l.length ≤ 200) (hk : KAt encE 3 w.heap.size oa l w) (k : Below w5.heap.size w5 w) :
    Calls Try.prog 22 #[.slice oa l.length cap] w fun e w' => ∃ oa2 cap2, e = .returned (.slice oa2 l.length cap2) ∧ KAt encE 3 w'.heap.size oa2 l w' ∧ Below w5.heap.size w5 w' :=
  (own_any _ oa cap l (by omega) w (Nat.le_refl _) hk).mono fun _ _ ⟨v, he, hr, h1⟩ => by
    obtain ⟨oa, cap, rfl, _⟩ := hr.form
    exact ⟨oa, cap, he, hr.pts en_len (by omega), bstep k h1⟩
theorem bl_rof (i : Int) (hl : L.length ≤ 200) {o1 : Option Addr} {l1 : List En} (h1 : KAt encE 3 w.heap.size o1 l1 w) (p : PB W w5 nb b c qb x s L L) (k : Below w5.heap.size w5 w) :
    Calls Try.prog 23 #[.pointer (some ⟨qb, 0, none⟩), .int .i64 i] w fun e w' => ∃ oa cap, e = .returned (.slice oa (ofL L i).length cap) ∧ KAt encE 3 w'.heap.size o1 l1 w' ∧ KAt encE 3 w'.heap.size oa (ofL L i) w' ∧ Below w5.heap.size w5 w' :=
  (rof_any qb _ L (by omega) i w (p.grow k).q).mono fun _ _ ⟨v, he, hr, hb⟩ => by
    obtain ⟨oa, cap, rfl, _⟩ := hr.form
    exact ⟨oa, cap, he, h1.grow hb, hr.pts en_len (by omega), bstep k hb⟩
theorem bl_all (hl : L.length ≤ 200) (p : PB W w5 nb b c qb x s L L) (k : Below w5.heap.size w5 w) :
    Calls Try.prog 24 #[.pointer (some ⟨nb, 0, none⟩)] w fun e w' => ∃ oa cap, e = .returned (.slice oa L.length cap) ∧ KAt encE 3 w'.heap.size oa L w' ∧ Below w5.heap.size w5 w' :=
  (all_any nb b c L (by omega) w (p.grow k).h).mono fun _ _ ⟨v, he, hr, h1⟩ => by
    obtain ⟨oa, cap, rfl, _⟩ := hr.form
    exact ⟨oa, cap, he, hr.pts en_len (by omega), bstep k h1⟩
theorem bl_same (oa ob : Option Addr) (ca cb : Nat) (l : List En) (hl : l.length ≤ 200) (h1 : KAt encE 3 w.heap.size oa l w) (h2 : KAt encE 3 w.heap.size ob l w) (k : Below w5.heap.size w5 w) :
    Calls Try.prog 21 #[.slice oa l.length ca, .slice ob l.length cb] w fun e w' => e = .returned (.bool true) ∧ Below w5.heap.size w5 w' :=
  (same_any _ oa ob ca cb l (by omega) w (Nat.le_refl _) h1 h2).mono fun _ _ ⟨he, h1⟩ => ⟨he, bstep k h1⟩
theorem bl_same0 (oa ob : Option Addr) (ca cb : Nat) (hl : L.length ≤ 200) (h1 : KAt encE 3 w.heap.size oa L w) (h2 : KAt encE 3 w5.heap.size ob L w5) (k : Below w5.heap.size w5 w) :
    Calls Try.prog 21 #[.slice oa L.length ca, .slice ob L.length cb] w fun e w' => e = .returned (.bool true) ∧ Below w5.heap.size w5 w' := bl_same oa ob ca cb L hl h1 (h2.grow k) k
end
theorem addL_len (L : List En) (d : Int) (t : ByteArray) (i : Int) : (addL L d t i).length ≤ L.length + 1 := by
  unfold addL
  split
  · exact Nat.le_of_eq (ins_len L _)
  · exact Nat.le_succ _
end Go.Proofs.Ytffigodlfmnbpaa.DirW
