/- Both handles side by side, and a step beside them: what each call does. -/
import Derived.Test.YtjfdbcmmmoipcaaHanRef3
namespace Go.Proofs.Ytjfdbcmmmoipcaa.HanW
open Go.RowKit HanP
/-- a step: kind, client, number, inode, tick -/
structure Stp where
  k : Int
  c : Int
  n : Int
  i : Int
  t : Int
def stCells (s : Stp) : Array Value := #[.int .i64 s.k, .int .i64 s.c, .int .i64 s.n, .int .i64 s.i, .int .i64 s.t]
def encSt (s : Stp) : List Value := [.int .i64 s.k, .int .i64 s.c, .int .i64 s.n, .int .i64 s.i, .int .i64 s.t]
structure PB (W w : World) (hb b qb x : Nat) (s : Stp) (L : List Ha) (ls : List Int) (L2 : List Ha) (ls2 : List Int) : Prop where
  h : HIs w hb b L ls
  q : QIs w qb W.heap.size L2 ls2
  below : Below W.heap.size W w
  box : w.heap[x]? = some (.cells (stCells s) 27 (0, 0))
  bh : W.heap.size ≤ hb
  bb : W.heap.size ≤ b
  bq : W.heap.size ≤ qb
variable {W w : World} {hb b qb x : Nat} {s : Stp} {L : List Ha} {ls : List Int} {L2 : List Ha} {ls2 : List Int}
theorem ne_obj {w : World} {a b : Nat} {o o' : Obj} (h : w.heap[a]? = some o) (h' : w.heap[b]? = some o') (hne : o ≠ o') : a ≠ b := by
  rintro rfl
  rw [h] at h'
  exact hne (Option.some.inj h')
theorem HIs.mapObj {w : World} {hb b : Nat} {L : List Ha} {ls : List Int} (h : HIs w hb b L ls) : ∃ es cl, w.heap[b]? = some (.map es cl) := by
  obtain ⟨n, es, cl, hm, _⟩ := h.map
  exact ⟨es, cl, hm⟩
theorem typeNe {cs cs' : Array Value} {t t' : TypeId} {m m' : Nat × Nat} (h : t ≠ t') : (Obj.cells cs t m) ≠ .cells cs' t' m' := fun e => by injection e with _ e _; exact h e
theorem QIs.head {w : World} {qb B : Nat} {L : List Ha} {ls : List Int} (h : QIs w qb B L ls) : ∃ v, w.heap[qb]? = some (.cells (qCells v ls) 48 (0, 0)) := by obtain ⟨v, h⟩ := h; exact ⟨v, h.head⟩
theorem PB.grow {w' : World} (p : PB W w hb b qb x s L ls L2 ls2) (k : Below w.heap.size w w') : PB W w' hb b qb x s L ls L2 ls2 :=
  ⟨p.h.grow k, p.q.grow k, bstep p.below k, (k.block x (lt_of_block p.box)).trans p.box, p.bh, p.bb, p.bq⟩
theorem PB.drew (p : PB W w hb b qb x s L ls L2 ls2) : PB W w.drew hb b qb x s L ls L2 ls2 := p.grow (Below.refl _ _).drew
theorem PB.cs (p : PB W w hb b qb x s L ls L2 ls2) : w.cell? ⟨x, 0, none⟩ = some (.int .i64 s.k) ∧ w.cell? ⟨x, 1, none⟩ = some (.int .i64 s.c) ∧ w.cell? ⟨x, 2, none⟩ = some (.int .i64 s.n) ∧ w.cell? ⟨x, 3, none⟩ = some (.int .i64 s.i) ∧ w.cell? ⟨x, 4, none⟩ = some (.int .i64 s.t) :=
  ⟨(new_cells p.box 0 (by simp [stCells])).1, (new_cells p.box 1 (by simp [stCells])).1, (new_cells p.box 2 (by simp [stCells])).1, (new_cells p.box 3 (by simp [stCells])).1, (new_cells p.box 4 (by simp [stCells])).1⟩
theorem PB.xb (p : PB W w hb b qb x s L ls L2 ls2) : x ≠ b := by
  obtain ⟨es, cl, hm⟩ := p.h.mapObj
  exact ne_obj p.box hm (by simp)
theorem PB.xq (p : PB W w hb b qb x s L ls L2 ls2) : x ≠ qb := by
  obtain ⟨v, hq⟩ := p.q.head
  exact ne_obj p.box hq (typeNe (by decide))
theorem PB.xh (p : PB W w hb b qb x s L ls L2 ls2) : x ≠ hb := ne_obj p.box p.h.head (typeNe (by decide))
theorem PB.qb_ (p : PB W w hb b qb x s L ls L2 ls2) : qb ≠ b := by
  obtain ⟨es, cl, hm⟩ := p.h.mapObj
  obtain ⟨v, hq⟩ := p.q.head
  exact ne_obj hq hm (by simp)
theorem PB.qh (p : PB W w hb b qb x s L ls L2 ls2) : qb ≠ hb := by
  obtain ⟨v, hq⟩ := p.q.head
  exact ne_obj hq p.h.head (typeNe (by decide))
/-- the map has turned -/
theorem PB.onB {w' : World} {L' : List Ha} (p : PB W w hb b qb x s L ls L2 ls2) (h' : HIs w' hb b L' ls) (k : Only b w w') : PB W w' hb b qb x s L' ls L2 ls2 := by
  obtain ⟨es, cl, hm⟩ := p.h.mapObj
  exact ⟨h', p.q.only k p.qb_ (fun cs m e => by rw [hm] at e; cases e), p.below.trans (k.below p.bb p.below.size), Only.heap k p.box p.xb, p.bh, p.bb, p.bq⟩
/-- the leases have -/
theorem PB.onH {w' : World} {ls' : List Int} (p : PB W w hb b qb x s L ls L2 ls2) (h' : HIs w' hb b L ls') (k : Only hb w w') : PB W w' hb b qb x s L ls' L2 ls2 :=
  ⟨h', p.q.only k p.qh (fun cs m e => by rw [p.h.head] at e; injection e with e; injection e with _ e _; exact absurd e (by decide)), p.below.trans (k.below p.bh p.below.size), Only.heap k p.box p.xh, p.bh, p.bb, p.bq⟩
/-- the document's have -/
theorem PB.onQ {w' : World} {L2' : List Ha} {ls2' : List Int} (p : PB W w hb b qb x s L ls L2 ls2) (q' : QIs w' qb W.heap.size L2' ls2') (k : Only qb w w') : PB W w' hb b qb x s L ls L2' ls2' :=
  ⟨p.h.only k p.qh.symm p.qb_.symm, q', p.below.trans (k.below p.bq p.below.size), Only.heap k p.box p.xq, p.bh, p.bb, p.bq⟩
theorem pb_open (c n i : Int) (hok : haOk (c, n)) (p : PB W w hb b qb x s L ls L2 ls2) :
    Calls Try.prog 10 #[.pointer (some ⟨hb, 0, none⟩), .int .i64 c, .int .i64 n, .int .i64 i] w fun e w' => e = .returned (.int .i64 (openE L c n i)) ∧ PB W w' hb b qb x s (openL L c n i) ls L2 ls2 :=
  (open_any hb b L ls c n i hok w p.h).mono fun _ _ ⟨he, h1, h2⟩ => ⟨he, p.onB h1 h2⟩
theorem pb_ropen (c n i : Int) (p : PB W w hb b qb x s L ls L2 ls2) :
    Calls Try.prog 17 #[.pointer (some ⟨qb, 0, none⟩), .int .i64 c, .int .i64 n, .int .i64 i] w fun e w' => e = .returned (.int .i64 (openE L2 c n i)) ∧ PB W w' hb b qb x s L ls (openL L2 c n i) ls2 :=
  (ropen_any qb _ L2 ls2 c n i w p.q p.below.size).mono fun _ _ ⟨he, h1, h2⟩ => ⟨he, p.onQ h1 h2⟩
theorem pb_close (c n : Int) (hok : haOk (c, n)) (p : PB W w hb b qb x s L ls L2 ls2) :
    Calls Try.prog 15 #[.pointer (some ⟨hb, 0, none⟩), .int .i64 c, .int .i64 n] w fun e w' => e = .returned (.tuple #[.int .i64 (ofI L c n), .int .i64 (closeE L c n)]) ∧ PB W w' hb b qb x s (del L (c, n)) ls L2 ls2 :=
  (close_any hb b L ls c n hok w p.h).mono fun _ _ ⟨he, h1, h2, _⟩ => ⟨he, p.onB h1 h2⟩
theorem pb_rclose (c n : Int) (p : PB W w hb b qb x s L ls L2 ls2) :
    Calls Try.prog 18 #[.pointer (some ⟨qb, 0, none⟩), .int .i64 c, .int .i64 n] w fun e w' => e = .returned (.tuple #[.int .i64 (ofI L2 c n), .int .i64 (closeE L2 c n)]) ∧ PB W w' hb b qb x s L ls (del L2 (c, n)) ls2 :=
  (rclose_any qb _ L2 ls2 c n w p.q p.below.size).mono fun _ _ ⟨he, h1, h2⟩ => ⟨he, p.onQ h1 h2⟩
theorem pb_renew (c t : Int) (p : PB W w hb b qb x s L ls L2 ls2) :
    Calls Try.prog 9 #[.pointer (some ⟨hb, 0, none⟩), .int .i64 c, .int .i64 t] w fun e w' => e = .returned (.int .i64 (renewE c t)) ∧ PB W w' hb b qb x s L (renewL ls c t) L2 ls2 :=
  (renew_any hb b L ls c t w p.h).mono fun _ _ ⟨he, h1, h2, _⟩ => ⟨he, p.onH h1 h2⟩
theorem pb_rrenew (c t : Int) (p : PB W w hb b qb x s L ls L2 ls2) :
    Calls Try.prog 19 #[.pointer (some ⟨qb, 0, none⟩), .int .i64 c, .int .i64 t] w fun e w' => e = .returned (.int .i64 (renewE c t)) ∧ PB W w' hb b qb x s L ls L2 (renewL ls2 c t) :=
  (rrenew_any qb _ L2 ls2 c t w p.q).mono fun _ _ ⟨he, h1, h2⟩ => ⟨he, p.onQ h1 h2⟩
theorem pb_of (c n : Int) (hok : haOk (c, n)) (p : PB W w hb b qb x s L ls L2 ls2) :
    Calls Try.prog 13 #[.pointer (some ⟨hb, 0, none⟩), .int .i64 c, .int .i64 n] w fun e w' => e = .returned (.tuple #[.int .i64 (ofI L c n), .bool (ofB L c n)]) ∧ w = w' := of_any hb b L ls c n hok w p.h
theorem pb_rof (c n : Int) (p : PB W w hb b qb x s L ls L2 ls2) :
    Calls Try.prog 23 #[.pointer (some ⟨qb, 0, none⟩), .int .i64 c, .int .i64 n] w fun e w' => e = .returned (.tuple #[.int .i64 (ofI L2 c n), .bool (ofB L2 c n)]) ∧ w = w' := rof_any qb _ L2 ls2 c n w p.q
theorem pb_count (c : Int) (p : PB W w hb b qb x s L ls L2 ls2) :
    Calls Try.prog 16 #[.pointer (some ⟨hb, 0, none⟩), .int .i64 c] w fun e w' => e = .returned (.int .i64 (count L c : Nat)) ∧ PB W w' hb b qb x s L ls L2 ls2 :=
  (count_any hb b L ls c w p.h).mono fun _ _ ⟨he, h1⟩ => ⟨he, p.grow h1⟩
theorem pb_rcount (c : Int) (p : PB W w hb b qb x s L ls L2 ls2) :
    Calls Try.prog 24 #[.pointer (some ⟨qb, 0, none⟩), .int .i64 c] w fun e w' => e = .returned (.int .i64 (count L2 c : Nat)) ∧ w = w' := rcount_any qb _ L2 ls2 c w p.q
theorem pb_lease (c : Int) (p : PB W w hb b qb x s L ls L2 ls2) :
    Calls Try.prog 8 #[.pointer (some ⟨hb, 0, none⟩), .int .i64 c] w fun e w' => e = .returned (.int .i64 (leaseI ls c)) ∧ w = w' := lease_any hb b L ls c w p.h
theorem pb_rlease (c : Int) (p : PB W w hb b qb x s L ls L2 ls2) :
    Calls Try.prog 25 #[.pointer (some ⟨qb, 0, none⟩), .int .i64 c] w fun e w' => e = .returned (.int .i64 (leaseI ls2 c)) ∧ w = w' := rlease_any qb _ L2 ls2 c w p.q
/-- a row that a call gave, and the handles beside it -/
structure Rw (enc : Ha → List Value) (B : Nat) (w : World) (oa : Option Addr) (cap : Nat) (l : List Ha) : Prop where
  pts : KAt enc 3 w.heap.size oa l w
  bd : l.length ≤ 1000
theorem Rw.grow {w' : World} {B : Nat} {oa : Option Addr} {cap : Nat} {l : List Ha} (h : Rw encHa B w oa cap l) (k : Below w.heap.size w w') : Rw encHa B w' oa cap l := ⟨h.pts.grow k, h.bd⟩
theorem pb_all (p : PB W w hb b qb x s L ls L2 ls2) :
    Calls Try.prog 11 #[.pointer (some ⟨hb, 0, none⟩)] w fun e w' => ∃ oa cap, e = .returned (.slice oa L.length cap) ∧ KAt encHa 3 w'.heap.size oa L w' ∧ L.length ≤ 128 ∧ PB W w' hb b qb x s L ls L2 ls2 :=
  (all_any hb b L ls w p.h).mono fun _ _ ⟨v, he, hr, h1⟩ => by
    obtain ⟨oa, cap, rfl, _⟩ := hr.form
    exact ⟨oa, cap, he, hr.pts ha_len (by omega), p.h.good.len, p.grow h1⟩
theorem filter_len {L : List Ha} {ls : List Int} (h : HGood L ls) (f : Ha → Bool) : (L.filter f).length ≤ 128 := Nat.le_trans (List.length_filter_le _ _) h.len
theorem pb_expire (t : Int) (p : PB W w hb b qb x s L ls L2 ls2) :
    Calls Try.prog 12 #[.pointer (some ⟨hb, 0, none⟩), .int .i64 t] w fun e w' => ∃ oa cap, e = .returned (.slice oa (L.filter (goneB ls t)).length cap) ∧ KAt encHa 3 w'.heap.size oa (L.filter (goneB ls t)) w' ∧ (L.filter (goneB ls t)).length ≤ 128 ∧ PB W w' hb b qb x s (L.filter fun a => !goneB ls t a) ls L2 ls2 :=
  (expire_any hb b L ls t w p.h).mono fun _ _ ⟨v, he, hr, h1, h2⟩ => by
    obtain ⟨oa, cap, rfl, _⟩ := hr.form
    exact ⟨oa, cap, he, hr.pts ha_len (by omega), filter_len p.h.good _, p.onB h1 h2⟩
/-- a copy for the document's: kept while its handles turn -/
theorem pb_own (l : List Ha) (oa : Option Addr) (cap : Nat) (hl : l.length ≤ 128) (hk : KAt encHa 3 w.heap.size oa l w) (p : PB W w hb b qb x s L ls L2 ls2) :
    Calls Try.prog 21 #[.slice oa l.length cap] w fun e w' => ∃ v, e = .returned v ∧ RowK 67 encHa 3 W.heap.size w' v l ∧ PB W w' hb b qb x s L ls L2 ls2 :=
  (own_any _ oa cap l (by omega) w (Nat.le_refl _) hk).mono fun _ _ ⟨v, he, hr, h1⟩ => ⟨v, he, hr.mono p.below.size, p.grow h1⟩
theorem pb_rexpire (t : Int) (l : List Ha) (v0 : Value) (hr0 : RowK 67 encHa 3 W.heap.size w v0 l) (p : PB W w hb b qb x s L ls L2 ls2) :
    Calls Try.prog 22 #[.pointer (some ⟨qb, 0, none⟩), .int .i64 t] w fun e w' => ∃ oa cap, e = .returned (.slice oa (L2.filter (goneB ls2 t)).length cap) ∧ KAt encHa 3 w'.heap.size oa (L2.filter (goneB ls2 t)) w' ∧ RowK 67 encHa 3 W.heap.size w' v0 l ∧ PB W w' hb b qb x s L ls (L2.filter fun a => !goneB ls2 t a) ls2 :=
  (rexpire_any qb _ L2 ls2 t w p.q p.below.size).mono fun _ _ ⟨v, he, hr, h1, h2⟩ => by
    obtain ⟨oa, cap, rfl, _⟩ := hr.form
    refine ⟨oa, cap, he, hr.pts ha_len (by omega), h2.keepRow hr0 (fun e => ?_), p.onQ h1 h2⟩
    obtain ⟨v2, hq⟩ := p.q.head
    rcases hr0.2 with ⟨e2, _⟩ | ⟨g, cap', cur, e2, _, hg, _⟩
    · rw [e2] at e; simp [Value.ownBlock] at e
    · rw [e2] at e
      simp only [Value.ownBlock] at e
      injection e with e
      rw [e, hq] at hg
      injection hg with hg
      injection hg with _ h6 _
      exact absurd h6 (by decide)
theorem pb_same (l : List Ha) (oa ob : Option Addr) (ca cb : Nat) (hl : l.length ≤ 128) (h1 : KAt encHa 3 w.heap.size oa l w) (h2 : KAt encHa 3 w.heap.size ob l w) (p : PB W w hb b qb x s L ls L2 ls2) :
    Calls Try.prog 20 #[.slice oa l.length ca, .slice ob l.length cb] w fun e w' => e = .returned (.bool true) ∧ PB W w' hb b qb x s L ls L2 ls2 :=
  (same_any _ oa ob ca cb l (by omega) w (Nat.le_refl _) h1 h2).mono fun _ _ ⟨he, h1⟩ => ⟨he, p.grow h1⟩
end Go.Proofs.Ytjfdbcmmmoipcaa.HanW
