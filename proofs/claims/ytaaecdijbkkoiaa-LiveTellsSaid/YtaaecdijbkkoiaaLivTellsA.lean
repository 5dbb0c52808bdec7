/- Several texts in one. -/
import Derived.Test.YtaaecdijbkkoiaaInoList
import Derived.Test.YtaaecdijbkkoiaaOpen
import Derived.Test.YtaaecdijbkkoiaaLivLoad
import Derived.Test.YtaaecdijbkkoiaaInoRGAny
import Derived.Test.YtaaecdijbkkoiaaLivSegs
import Derived.Test.YtaaecdijbkkoiaaInoRGood
import Derived.Test.YtaaecdijbkkoiaaInoAll
import Derived.Test.YtaaecdijbkkoiaaInoOwn
import Derived.Test.YtaaecdijbkkoiaaHeld
import Derived.Test.YtaaecdijbkkoiaaDraw
import Derived.Test.YtaaecdijbkkoiaaAppDraw
import Derived.StillTailTactics
import Derived.Test.YtaaecdijbkkoiaaLivWakes
import Derived.OwnWalk
/- A list of inodes that came in. -/
namespace Go.Proofs.Ytaaecdijbkkoiaa.InoW
set_option maxRecDepth 100000
open Go.RowKit Go.ChangeShapes Go.WideShapes Go.Deep InoP ExtW
section
variable {H : Type} {enc : TypeId × Value → H} {P : Program} {w : World} {base : Nat} {spare : Nat → Bool} {held : Bool}
/-- a slice of structs whose fields are one cell each, that lies in a cell -/
theorem rows_in {t e : TypeId} {fs : Array Field} {u : Value} {fuel : Nat} {y : DataW H × List MemPlace} (ht : P.underlying t = some (.slice e)) (he : P.underlying e = some (.struct fs))
    (hone : oneCellFields P fs = true) (hC : P.cellsOf e = fs.size) (h : DataW.trod enc P w base spare held fuel t [u] = some y) :
    ∃ (oa : Option Addr) (len cap : Nat), u = .slice oa len cap ∧ len ≤ cap ∧ cap ≤ maxLen ∧ (oa = none → len = 0 ∧ cap = 0) ∧
      ∀ i, i < len → ∃ a n, oa = some a ∧ ∀ (j : Nat) (f : Field), fs[j]? = some f → ∃ (u : Value) (y : DataW H × List MemPlace), w.cell? (a.add (i * fs.size + j)) = some u ∧ DataW.trod enc P w base spare held n f.type [u] = some y := by
  rcases open_slice ht h with ⟨hcs, _⟩ | ⟨a, len, cap, m, n, D, Pl, hcs, _, hl, hm, hmm, _, hi⟩
  · obtain rfl : u = .slice none 0 0 := by simpa using hcs
    exact ⟨none, 0, 0, rfl, Nat.le_refl _, Nat.zero_le _, fun _ => ⟨rfl, rfl⟩, fun i hi => absurd hi (Nat.not_lt_zero _)⟩
  · obtain rfl : u = .slice (some a) len cap := by simpa using hcs
    refine ⟨some a, len, cap, rfl, hl, hm, (fun h => by cases h), fun i hil => ?_⟩
    have him : i < m := by rw [hmm]; split <;> omega
    obtain ⟨cs', hc, ht'⟩ := hi i him
    rw [hC] at hc
    obtain ⟨ys, n', hn', hy, hlen, hyl, hfd⟩ := DataW.trod_struct he ht'
    obtain ⟨_, hcl, hat⟩ := World.cells?_some hc
    refine ⟨a, n', rfl, fun j f hj => ?_⟩
    obtain ⟨ho, hk⟩ := hone_of hone j f hj
    have hjl : j < fs.size := (Array.getElem?_eq_some_iff.1 hj).1
    have hcell := hat j hjl
    have h1 := hfd j f hj
    rw [ho, hk] at h1
    have hd : (cs'.drop j).take 1 = [cs'[j]'(by omega)] := by
      rw [List.drop_eq_getElem_cons (by omega)]; rfl
    rw [hd, List.getElem?_eq_getElem (by omega)] at h1
    refine ⟨_, _, ?_, h1⟩
    rw [← Go.Deep.add_add, hcell, List.getElem?_eq_getElem (by omega)]
end
section
variable {H : Type} {enc : TypeId × Value → H} {w : World} {base b0 : Nat} {spare : Nat → Bool} {held : Bool} {r : Reach}
theorem parts_in {u : Value} {fuel : Nat} {y : DataW H × List MemPlace} (h : DataW.trod enc Try.prog w base spare held fuel 31 [u] = some y) :
    ∃ (oa : Option Addr) (cap : Nat) (l : List Pt), u = .slice oa l.length cap ∧ PtsAt w.heap.size oa l w ∧ l.length ≤ maxLen ∧ (oa = none → l.length = 0 ∧ cap = 0) := by
  obtain ⟨oa, len, cap, rfl, hl, hm, hn, hi⟩ := rows_in Try.underlying31 Try.underlying35 (by kernel_rfl) (by kernel_rfl) h
  have key : ∀ i, ∃ x : Pt, i < len → ∃ a, oa = some a ∧ a.block < w.heap.size ∧ w.cell? (a.add (i * 4)) = some (.int .i64 x.o) ∧ w.cell? ⟨(a.add (i * 4)).block, (a.add (i * 4)).off + 1, none⟩ = some (.int .i64 x.n) ∧
      w.cell? ⟨(a.add (i * 4)).block, (a.add (i * 4)).off + 2, none⟩ = some (.int .i64 x.a) ∧ w.cell? ⟨(a.add (i * 4)).block, (a.add (i * 4)).off + 3, none⟩ = some (.int .i64 x.f) := by
    intro i
    by_cases hil : i < len
    · obtain ⟨a, n, ha, hf⟩ := hi i hil
      obtain ⟨u0, y0, c0, t0⟩ := hf 0 _ rfl
      obtain ⟨u1, y1, c1, t1⟩ := hf 1 _ rfl
      obtain ⟨u2, y2, c2, t2⟩ := hf 2 _ rfl
      obtain ⟨u3, y3, c3, t3⟩ := hf 3 _ rfl
      obtain ⟨z0, e0, _, _⟩ := DataW.trod_int Try.underlying3 t0
      obtain ⟨z1, e1, _, _⟩ := DataW.trod_int Try.underlying3 t1
      obtain ⟨z2, e2, _, _⟩ := DataW.trod_int Try.underlying3 t2
      obtain ⟨z3, e3, _, _⟩ := DataW.trod_int Try.underlying3 t3
      obtain rfl : u0 = .int .i64 z0 := by simpa using e0
      obtain rfl : u1 = .int .i64 z1 := by simpa using e1
      obtain rfl : u2 = .int .i64 z2 := by simpa using e2
      obtain rfl : u3 = .int .i64 z3 := by simpa using e3
      refine ⟨⟨z0, z1, z2, z3⟩, fun _ => ⟨a, ha, ?_, ?_, ?_, ?_, ?_⟩⟩
      · have := World.block_lt_of_cell? _ _ c0
        rwa [add_block] at this
      · exact c0
      · rw [← add_field a (i * 4) 0]; exact c1
      · rw [← add_field a (i * 4) 1]; exact c2
      · rw [← add_field a (i * 4) 2]; exact c3
    · exact ⟨⟨0, 0, 0, 0⟩, fun h => absurd h hil⟩
  refine ⟨oa, cap, (List.range len).map (fun i => (key i).choose), by simp, ?_, by simp; omega, fun e => by have := hn e; simpa using this⟩
  intro i x hx
  have hil : i < len := by have := (List.getElem?_eq_some_iff.1 hx).1; simpa using this
  obtain rfl : (key i).choose = x := by simpa [hil] using hx
  exact (key i).choose_spec hil
theorem open_inos {v : Value} {d : DataW H} {p : List MemPlace} (hv : Value.okWide Try.prog w r b0 22 v) (h : DataW.Trod enc Try.prog w base spare held 22 v d p) :
    ∃ (oa : Option Addr) (cap : Nat) (xs : List Ino) (ys : List IV), v = .slice oa xs.length cap ∧ IList w oa xs ys ∧ xs.length ≤ maxLen ∧ ∀ x ∈ xs, x.p.length ≤ maxLen := by
  obtain ⟨oa, len, cap, rfl, hl, hm, hn, hi⟩ := open_rows Try.underlying22 Try.underlying68 (by kernel_rfl) (by kernel_rfl) hv h
  have key : ∀ i, ∃ q : Ino × IV, IRead w q.1 q.2 ∧ q.1.p.length ≤ maxLen ∧ (i < len → ∃ a, oa = some a ∧ a.block < w.heap.size ∧ ∀ j u, (encI q.2)[j]? = some u → w.cell? (fieldOf (a.add (i * 6)) j) = some u) := by
    intro i
    by_cases hil : i < len
    · obtain ⟨a, n, ha, hf⟩ := hi i hil
      obtain ⟨u0, y0, c0, t0⟩ := hf 0 _ rfl
      obtain ⟨u1, y1, c1, t1⟩ := hf 1 _ rfl
      obtain ⟨u2, y2, c2, t2⟩ := hf 2 _ rfl
      obtain ⟨u3, y3, c3, t3⟩ := hf 3 _ rfl
      obtain ⟨u4, y4, c4, t4⟩ := hf 4 _ rfl
      obtain ⟨u5, y5, c5, t5⟩ := hf 5 _ rfl
      obtain ⟨z0, e0, _, _⟩ := DataW.trod_int Try.underlying3 t0
      obtain ⟨z1, e1, _, _⟩ := DataW.trod_int Try.underlying3 t1
      obtain ⟨z2, e2, _, _⟩ := DataW.trod_int Try.underlying3 t2
      obtain ⟨z3, e3, _, _⟩ := DataW.trod_int Try.underlying3 t3
      obtain ⟨z4, e4, _, _⟩ := DataW.trod_int Try.underlying3 t4
      obtain ⟨oz, cz, l, rfl, hp, hlz, hnz⟩ := parts_in t5
      obtain rfl : u0 = .int .i64 z0 := by simpa using e0
      obtain rfl : u1 = .int .i64 z1 := by simpa using e1
      obtain rfl : u2 = .int .i64 z2 := by simpa using e2
      obtain rfl : u3 = .int .i64 z3 := by simpa using e3
      obtain rfl : u4 = .int .i64 z4 := by simpa using e4
      refine ⟨(⟨z0, z1, z2, z3, z4, l⟩, ⟨z0, z1, z2, z3, z4, oz, l.length, cz⟩), ⟨rfl, rfl, rfl, rfl, rfl, rfl, hp, hnz⟩, hlz, fun _ => ⟨a, ha, ?_, fun j u hj => ?_⟩⟩
      · have := World.block_lt_of_cell? _ _ c0
        rwa [add_block] at this
      · rw [← fieldOf_add]
        have hj6 : j < 6 := by have := (List.getElem?_eq_some_iff.1 hj).1; rw [encI_len] at this; exact this
        have : j = 0 ∨ j = 1 ∨ j = 2 ∨ j = 3 ∨ j = 4 ∨ j = 5 := by omega
        rcases this with rfl | rfl | rfl | rfl | rfl | rfl <;> (simp [encI] at hj; rw [← hj]; assumption)
    · exact ⟨(⟨0, 0, 0, 0, 0, []⟩, ⟨0, 0, 0, 0, 0, none, 0, 0⟩), ⟨rfl, rfl, rfl, rfl, rfl, rfl, fun i x h => by simp at h, fun _ => ⟨rfl, rfl⟩⟩, by simp, fun h => absurd h hil⟩
  refine ⟨oa, cap, (List.range len).map (fun i => (key i).choose.1), (List.range len).map (fun i => (key i).choose.2), by simp, ⟨fun i y hy => ?_, by simp, fun i x y hx hy => ?_⟩, by simp; omega, fun x hx => ?_⟩
  · have hil : i < len := by have := (List.getElem?_eq_some_iff.1 hy).1; simpa using this
    obtain rfl : (key i).choose.2 = y := by simpa [hil] using hy
    exact (key i).choose_spec.2.2 hil
  · have hil : i < len := by have := (List.getElem?_eq_some_iff.1 hx).1; simpa using this
    obtain rfl : (key i).choose.1 = x := by simpa [hil] using hx
    obtain rfl : (key i).choose.2 = y := by simpa [hil] using hy
    exact (key i).choose_spec.1
  · obtain ⟨i, _, rfl⟩ := List.mem_map.1 hx
    exact (key i).choose_spec.2.1
end
end Go.Proofs.Ytaaecdijbkkoiaa.InoW

/- Loaded, of any list. -/
namespace Go.Proofs.Ytaaecdijbkkoiaa.LivW
set_option maxRecDepth 100000
open Go.RowKit LivP InoP InoW ExtW
set_option maxHeartbeats 1600000 in
theorem large_any2 (oa : Option Addr) (cap : Nat) (xs : List Ino) (ys : List IV) (w : World) (h : IList w oa xs ys) (hp : ∀ x ∈ xs, x.p.length ≤ 9223372036854775807) :
    Calls Try.prog 24 #[.slice oa xs.length cap] w fun e w' => e = .returned (.bool (largeB xs)) ∧ Below w.heap.size w w' := by
  by_cases hb : 100 < xs.length
  · have hb2 : (100 : Int) < (xs.length : Int) := by omega
    have HE : Hid (largeB xs = true) := Lib.hid (by unfold largeB; rw [decide_eq_true hb]; rfl)
    clear h hp
    go_enter Try.func24, Try.ntmps24
    go_wp2_with fail
    go_ret
    exact ⟨by rw [HE.out]; rfl, Below.refl _ _⟩
  · exact large_any oa cap xs ys w h (by omega) hp
set_option maxHeartbeats 3200000 in
theorem loaded_any (nx : Int) (oa : Option Addr) (cap : Nat) (xs : List Ino) (ys : List IV) (hpl : ∀ x ∈ xs, x.p.length ≤ maxLen) (W : World) (h : IList W oa xs ys) :
    Calls Try.prog 7 #[.slice oa xs.length cap, .int .i64 nx] W fun e w' => (e = .returned (.tuple #[.pointer none, .pointer none, .bool false]) ∧ Below W.heap.size W w') ∨
      (LGood xs nx ∧ ∃ tb mb qb oq cq zs, e = .returned (.tuple #[.pointer (some ⟨tb, 0, none⟩), .pointer (some ⟨qb, 0, none⟩), .bool true]) ∧ TIs w' tb mb xs nx ∧ IList w' oq xs zs ∧ w'.heap[qb]? = some (.cells #[.slice oq xs.length cq, .int .i64 nx] 30 (0, 0)) ∧ Below W.heap.size W w') := by
  by_cases hg : LGood xs nx
  · exact (loaded_yes nx oa cap xs ys hg W h).mono fun _ _ q => .inr ⟨hg, q⟩
  have hL := large_any2 oa cap xs ys W h (fun x hx => by have := hpl x hx; unfold maxLen at this; omega)
  have H := Lib.hid h
  cases hlb : largeB xs with
  | true =>
    rw [hlb] at hL
    have HC := Lib.hid hL
    clear hL h hlb
    go_enter Try.func7, Try.ntmps7
    go_wp2_with (go_at_call 24; refine HC.out.mono ?_; rintro e w1 ⟨rfl, hb1⟩; have HB1 := Lib.hid hb1; clear hb1)
    go_ret3
    exact .inl ⟨rfl, HB1.out⟩
  | false =>
    rw [hlb] at hL
    obtain ⟨s1, s2⟩ := large_small hlb
    have HS1 : Hid (xs.length ≤ 100000) := Lib.hid (by omega)
    have HS2 : Hid (∀ x ∈ xs, x.p.length ≤ 100000) := Lib.hid (fun x hx => by have := s2 x hx; omega)
    have HC := Lib.hid hL
    clear hL h hlb s1 s2
    go_enter Try.func7, Try.ntmps7
    go_wp2_with (first
      | (go_at_call 24; refine HC.out.mono ?_; rintro e w1 ⟨rfl, hb1⟩; have HB1 := Lib.hid hb1; have H1 := Lib.hid (H.out.grow hb1); clear hb1)
      | (go_at_call 25; refine (rgood_any2 nx _ _ xs _ HS1.out HS2.out _ HR2.out.list).mono ?_; rintro e w3 ⟨b, rfl, hgb, hb3⟩; obtain rfl : b = false := (by cases b with | false => rfl | true => exact absurd (hgb rfl) hg); have HB3 := Lib.hid hb3; clear hb3 hgb)
      | (go_at_call 26; refine (own_any oa cap xs ys HS2.out HS1.out _ H1.out).mono ?_; rintro e w2 ⟨oa2, cap2, zs2, rfl, hr2, hb2⟩; have HR2 := Lib.hid hr2; have HB2 := Lib.hid hb2; clear hr2 hb2))
    go_ret3
    have b1 := HB1.out
    have b2 := b1.trans (HB2.out.mono b1.size)
    exact .inl ⟨rfl, b2.trans (HB3.out.mono b2.size)⟩
end Go.Proofs.Ytaaecdijbkkoiaa.LivW

/- All bytes are counted once: plain laws. -/
namespace Go.Proofs.Ytaaecdijbkkoiaa.LivP
open ExtW (Pt)
def sumU (L : List U) : Int := (L.map U.n).sum
def sumN (l : List Pt) : Int := (l.map (·.n)).sum
def sumX (xs : List InoP.Ino) : Int := (xs.map fun x => sumN x.p).sum
theorem sumU_app (A B : List U) : sumU (A ++ B) = sumU A + sumU B := by unfold sumU; rw [List.map_append, List.sum_append]
theorem sumU_cons (u : U) (A : List U) : sumU (u :: A) = u.n + sumU A := by unfold sumU; simp
theorem sumU_ins (L : List U) (u : U) : sumU (Sl.ins U.a il L u) = sumU L + u.n := by
  have h := congrArg sumU (Sl.low_high (key := U.a) (kl := il) L u.a)
  unfold Sl.ins
  rw [sumU_app] at h
  rw [sumU_app, sumU_cons]; omega
theorem map_none (L : List U) (a m : Int) (h : ∀ u ∈ L, u.a ≠ a) : (L.map fun u => if u.a = a then (⟨a, m⟩ : U) else u) = L := by
  induction L with
  | nil => rfl
  | cons u L ih => rw [List.map_cons, if_neg (h u (by simp)), ih (fun v hv => h v (by simp [hv]))]
theorem sumU_map (a v n : Int) : ∀ (L : List U), Rises L → lk L a = some v → sumU (L.map fun u => if u.a = a then (⟨a, v + n⟩ : U) else u) = sumU L + n := by
  intro L
  induction L with
  | nil => intro _ h; cases h
  | cons u L ih =>
    intro hr hk
    obtain ⟨h1, h2⟩ := List.pairwise_cons.1 hr
    unfold lk Sl.look at hk
    rw [List.find?_cons] at hk
    by_cases hu : u.a = a
    · rw [show decide (u.a = a) = true from decide_eq_true hu] at hk
      obtain rfl : u.n = v := by simpa using hk
      rw [List.map_cons, if_pos hu, map_none L a _ (fun w hw => by have := h1 w hw; unfold il at this; omega), sumU_cons, sumU_cons]
      simp only; omega
    · rw [show decide (u.a = a) = false from decide_eq_false hu] at hk
      rw [List.map_cons, if_neg hu, sumU_cons, sumU_cons, ih h2 hk]; omega
theorem addU_sum {L : List U} (h : Rises L) (a n : Int) : sumU (addU L a n) = sumU L + n := by
  unfold addU
  cases hk : lk L a with
  | some v => exact sumU_map a v n L h hk
  | none => exact sumU_ins L ⟨a, n⟩
theorem partsU_rises (l : List Pt) : ∀ {L : List U}, Rises L → Rises (partsU L l) := by
  induction l with
  | nil => exact fun h => h
  | cons x l ih => exact fun h => ih (addU_rises h x.a x.n)
theorem partsU_sum (l : List Pt) : ∀ {L : List U}, Rises L → sumU (partsU L l) = sumU L + sumN l := by
  induction l with
  | nil => intro L _; unfold sumN; simp [partsU]
  | cons x l ih =>
    intro L h
    have := ih (addU_rises h x.a x.n)
    have e : partsU L (x :: l) = partsU (addU L x.a x.n) l := rfl
    rw [e, this, addU_sum h]
    unfold sumN
    rw [List.map_cons, List.sum_cons]; omega
theorem all_sum_from (xs : List InoP.Ino) : ∀ {L : List U}, Rises L → sumU (xs.foldl (fun L x => partsU L x.p) L) = sumU L + sumX xs := by
  induction xs with
  | nil => intro L _; unfold sumX; simp
  | cons x xs ih =>
    intro L h
    rw [List.foldl_cons, ih (partsU_rises x.p h), partsU_sum x.p h]
    unfold sumX
    rw [List.map_cons, List.sum_cons]; omega
theorem all_sum (xs : List InoP.Ino) : sumU (allU xs) = sumX xs := by
  have := all_sum_from xs (L := []) List.Pairwise.nil
  unfold allU
  rw [this]; unfold sumU; simp
theorem seg_sum_from (size : Int) (A : List U) : ∀ {L : List U}, Rises L → sumU (A.foldl (fun M u => addU M (Int.tdiv u.a size) u.n) L) = sumU L + sumU A := by
  induction A with
  | nil => intro L _; unfold sumU; simp
  | cons u A ih =>
    intro L h
    rw [List.foldl_cons, ih (addU_rises h _ _), addU_sum h, sumU_cons]; omega
theorem seg_sum {size : Int} (hs : ¬ size < 1) (A : List U) : sumU (segL size A) = sumU A := by
  unfold segL segF
  rw [if_neg hs, seg_sum_from size A (L := []) List.Pairwise.nil]
  unfold sumU; simp
/-- each counts at least one byte -/
def Pos (L : List U) : Prop := ∀ u ∈ L, 1 ≤ u.n
theorem addU_pos {L : List U} (h : Pos L) {a n : Int} (hn : 1 ≤ n) : Pos (addU L a n) := by
  unfold addU
  intro u hu
  cases hk : lk L a with
  | some v =>
    have hv : 1 ≤ v := by
      unfold lk Sl.look at hk
      cases hf : L.find? (fun x => decide (x.a = a)) with
      | none => rw [hf] at hk; cases hk
      | some w =>
        rw [hf] at hk
        obtain rfl : w.n = v := by simpa using hk
        exact h w (List.mem_of_find?_eq_some hf)
    rw [hk] at hu
    simp only [List.mem_map] at hu
    obtain ⟨x, hx, e⟩ := hu
    have := h x hx
    split at e
    · rw [← e]; simp only; omega
    · rw [← e]; exact this
  | none =>
    rw [hk] at hu
    rcases (Sl.mem_ins L ⟨a, n⟩ u).1 hu with rfl | hu
    · exact hn
    · exact h u hu
theorem partsU_pos (l : List Pt) (hl : ∀ x ∈ l, ExtW.One x) : ∀ {L : List U}, Pos L → Pos (partsU L l) := by
  induction l with
  | nil => exact fun h => h
  | cons x l ih => exact fun h => ih (fun y hy => hl y (by simp [hy])) (addU_pos h (by have := (hl x (by simp)).small; omega))
theorem all_pos (xs : List InoP.Ino) (hx : ∀ x ∈ xs, InoP.IGood x) : Pos (allU xs) := by
  have : ∀ (xs : List InoP.Ino), (∀ x ∈ xs, InoP.IGood x) → ∀ {L : List U}, Pos L → Pos (xs.foldl (fun L x => partsU L x.p) L) := by
    intro xs
    induction xs with
    | nil => exact fun _ _ h => h
    | cons x xs ih => exact fun hx _ h => ih (fun y hy => hx y (by simp [hy])) (partsU_pos x.p (ExtW.chain_ones (hx x (by simp)).p.2) h)
  exact this xs hx (fun u hu => by simp at hu)
theorem rises_adj {L : List U} (h : Rises L) {i : Nat} {u v : U} (hu : L[i]? = some u) (hv : L[i + 1]? = some v) : u.a < v.a := by
  obtain ⟨h1, rfl⟩ := List.getElem?_eq_some_iff.1 hu
  obtain ⟨h2, rfl⟩ := List.getElem?_eq_some_iff.1 hv
  exact List.pairwise_iff_getElem.1 h i (i + 1) h1 h2 (by omega)
theorem old_le {L : List U} (h : Rises L) {u : U} (hu : u ∈ L) (m : Int) : oldE L m ≤ u.a := by
  cases L with
  | nil => simp at hu
  | cons v L =>
    show min v.a m ≤ u.a
    rcases List.mem_cons.1 hu with rfl | hu
    · omega
    · have := (List.pairwise_cons.1 h).1 u hu
      unfold il at this; omega
theorem sumU_take {L : List U} {k : Nat} {u : U} (h : L[k]? = some u) : sumU (L.take (k + 1)) = sumU (L.take k) + u.n := by
  rw [List.take_add_one, h, sumU_app]
  unfold sumU; simp
theorem sumN_take {l : List Pt} {k : Nat} {x : Pt} (h : l[k]? = some x) : sumN (l.take (k + 1)) = sumN (l.take k) + x.n := by
  rw [List.take_add_one, h]
  unfold sumN; simp
theorem sumX_take {l : List InoP.Ino} {k : Nat} {x : InoP.Ino} (h : l[k]? = some x) : sumX (l.take (k + 1)) = sumX (l.take k) + sumN x.p := by
  rw [List.take_add_one, h]
  unfold sumX; simp
theorem sumN_bd (l : List Pt) (h : ∀ x ∈ l, ExtW.One x) : 0 ≤ sumN l ∧ sumN l ≤ 1024 * l.length := by
  induction l with
  | nil => simp [sumN]
  | cons x l ih =>
    have := ih (fun y hy => h y (by simp [hy]))
    have hx := (h x (by simp)).small
    unfold sumN at *
    rw [List.map_cons, List.sum_cons, List.length_cons]; omega
theorem sumX_bd (xs : List InoP.Ino) (h : ∀ x ∈ xs, InoP.IGood x) : 0 ≤ sumX xs ∧ sumX xs ≤ 65536 * xs.length := by
  induction xs with
  | nil => simp [sumX]
  | cons x xs ih =>
    have := ih (fun y hy => h y (by simp [hy]))
    have hg := (h x (by simp)).p
    have hx := sumN_bd x.p (ExtW.chain_ones hg.2)
    have hl := hg.1
    unfold sumX at *
    rw [List.map_cons, List.sum_cons, List.length_cons]; omega
theorem sumU_bd (L : List U) {m : Int} (h : Fits L m) : 0 ≤ sumU L ∧ sumU L ≤ m * L.length := by
  induction L with
  | nil => simp [sumU]
  | cons x xs ih =>
    have := ih (fun y hy => h y (by simp [hy]))
    have hx := h x (by simp)
    rw [sumU_cons, List.length_cons, Int.natCast_add, Int.mul_add]; omega
end Go.Proofs.Ytaaecdijbkkoiaa.LivP

/- Lists of inodes that are alike: the document's Same. -/
namespace Go.Proofs.Ytaaecdijbkkoiaa.InoW
set_option maxRecDepth 100000
open Go.RowKit InoP ExtW
set_option maxHeartbeats 1600000 in
theorem psame_any (oa ob : Option Addr) (na nb ca cb : Nat) (l : List Pt) (hna : na = l.length) (hnb : nb = l.length) (hl : l.length ≤ 1000000) (w : World) (h1 : PtsAt w.heap.size oa l w) (h2 : PtsAt w.heap.size ob l w) :
    Calls Try.prog 51 #[.slice oa na ca, .slice ob nb cb] w fun e w' => e = .returned (.bool true) ∧ Below w.heap.size w w' := by
  subst hna; subst hnb
  have HP := Lib.hid h1
  have HQ := Lib.hid h2
  clear h1 h2
  go_enter Try.func51, Try.ntmps51
  go_wp2_with fail
  go_loopw [5] (fun i wr => ∃ k : Nat, k ≤ l.length ∧ i = .int .i64 (k : Int) ∧ Below w.heap.size w wr) (fun i _ => ((l.length : Int) - intOf i).toNat)
  case atStart => exact ⟨0, by omega, rfl, Below.refl _ _⟩
  case round =>
    obtain ⟨k, hk, rfl, hbel⟩ := hrel
    have HB := Lib.hid hbel
    clear hbel
    by_cases hlt : k < l.length
    · obtain ⟨x, hx⟩ : ∃ x, l[k]? = some x := ⟨_, List.getElem?_eq_getElem hlt⟩
      obtain ⟨a, rfl, hab, c0, c1, c2, c3⟩ := (HP.out.below HB.out) k x hx
      obtain ⟨b, rfl, hbb, d0, d1, d2, d3⟩ := (HQ.out.below HB.out) k x hx
      have hk0 : (0 : Int) ≤ (k : Int) := by omega
      have hkl : (k : Int) < (l.length : Int) := by omega
      have z0 : (a.add (k * 4)).block < wr.heap.size := by rw [add_block]; have := HB.out.size; omega
      have z1 : (b.add (k * 4)).block < wr.heap.size := by rw [add_block]; have := HB.out.size; omega
      clear hx
      go_wp2_with fail
      go_region
      all_goals (go_wp2_with fail)
      all_goals exact ⟨⟨k + 1, by omega, by simp, (bstep (bstep HB.out (below_alloc wr _)) (below_alloc _ _)).drew⟩, by simp [intOf]; omega⟩
    · have hk1 : ¬ ((k : Int) < (l.length : Int)) := by omega
      go_wp2_with fail
      go_ret
      exact ⟨rfl, HB.out⟩
set_option maxHeartbeats 6400000 in
theorem rsame_any (oa ob : Option Addr) (na nb ca cb : Nat) (xs : List Ino) (ys zs : List IV) (hna : na = xs.length) (hnb : nb = xs.length) (hl : xs.length ≤ 100000) (hp : ∀ x ∈ xs, x.p.length ≤ 100000) (w : World) (h1 : IList w oa xs ys) (h2 : IList w ob xs zs) :
    Calls Try.prog 34 #[.slice oa na ca, .slice ob nb cb] w fun e w' => e = .returned (.bool true) ∧ Below w.heap.size w w' := by
  subst hna; subst hnb
  have HY := Lib.hid h1
  have HZ := Lib.hid h2
  have HPL := Lib.hid hp
  have hly := h1.read.1
  have hlz := h2.read.1
  clear h1 h2 hp
  go_enter Try.func34, Try.ntmps34
  go_wp2_with fail
  go_loopw [5] (fun i wr => ∃ k : Nat, k ≤ xs.length ∧ i = .int .i64 (k : Int) ∧ Below w.heap.size w wr) (fun i _ => ((xs.length : Int) - intOf i).toNat)
  case atStart => exact ⟨0, by omega, rfl, Below.refl _ _⟩
  case round =>
    obtain ⟨k, hk, rfl, hbel⟩ := hrel
    have HB := Lib.hid hbel
    clear hbel
    by_cases hlt : k < xs.length
    · obtain ⟨x, hx⟩ : ∃ x, xs[k]? = some x := ⟨_, List.getElem?_eq_getElem hlt⟩
      obtain ⟨y, hy⟩ : ∃ y, ys[k]? = some y := ⟨_, List.getElem?_eq_getElem (by omega)⟩
      obtain ⟨z, hz⟩ : ∃ z, zs[k]? = some z := ⟨_, List.getElem?_eq_getElem (by omega)⟩
      have HHY := Lib.hid (HY.out.grow HB.out)
      have HHZ := Lib.hid (HZ.out.grow HB.out)
      have r1 := HHY.out.read.2 k x y hx hy
      have r2 := HHZ.out.read.2 k x z hx hz
      obtain ⟨a, rfl, hab, c0, c1, c2, c3, c4, c5⟩ := iv_at HHY.out.at_ hy
      obtain ⟨b, rfl, hbb, d0, d1, d2, d3, d4, d5⟩ := iv_at HHZ.out.at_ hz
      rw [r1.i] at c0; rw [r1.k] at c1; rw [r1.l] at c2; rw [r1.o] at c3; rw [r1.s] at c4; rw [r1.n] at c5
      rw [r2.i] at d0; rw [r2.k] at d1; rw [r2.l] at d2; rw [r2.o] at d3; rw [r2.s] at d4; rw [r2.n] at d5
      have HP1 := Lib.hid r1.pts
      have HP2 := Lib.hid r2.pts
      have HXP : Hid (x.p.length ≤ 1000000) := Lib.hid (by have := HPL.out x (List.mem_of_getElem? hx); omega)
      obtain ⟨xi, xk, xl, xo, xs', xp⟩ := x
      obtain ⟨yoa, hyoa⟩ : ∃ q, y.oa = q := ⟨_, rfl⟩
      obtain ⟨zoa, hzoa⟩ : ∃ q, z.oa = q := ⟨_, rfl⟩
      obtain ⟨yc, hyc⟩ : ∃ q, y.c = q := ⟨_, rfl⟩
      obtain ⟨zc, hzc⟩ : ∃ q, z.c = q := ⟨_, rfl⟩
      rw [hyoa, hyc] at c5; rw [hzoa, hzc] at d5
      rw [hyoa] at HP1; rw [hzoa] at HP2
      simp only at c0 c1 c2 c3 c4 c5 d0 d1 d2 d3 d4 d5 HP1 HP2 HXP
      have hk0 : (0 : Int) ≤ (k : Int) := by omega
      have hkl : (k : Int) < (xs.length : Int) := by omega
      have z0 : (a.add (k * 6)).block < wr.heap.size := by rw [add_block]; have := HB.out.size; omega
      have z1 : (b.add (k * 6)).block < wr.heap.size := by rw [add_block]; have := HB.out.size; omega
      clear hx hy hz r1 r2 hyoa hzoa hyc hzc
      go_wp2_with fail
      go_region
      all_goals (go_wp2_with (go_at_call 51; go_loud (refine (psame_any _ _ _ _ _ _ xp rfl rfl HXP.out _ (HP1.out.grow (bstep (below_alloc wr _) (below_alloc _ _)).drew) (HP2.out.grow (bstep (below_alloc wr _) (below_alloc _ _)).drew)).mono ?_; rintro e w5 ⟨rfl, hb5⟩; have HB5 := Lib.hid hb5; clear hb5)))
      all_goals exact ⟨⟨k + 1, by omega, by simp, bstep (bstep (bstep HB.out (below_alloc wr _)) (below_alloc _ _)).drew HB5.out⟩, by simp [intOf]; omega⟩
    · have hk1 : ¬ ((k : Int) < (xs.length : Int)) := by omega
      go_wp2_with fail
      go_ret
      exact ⟨rfl, HB.out⟩
end Go.Proofs.Ytaaecdijbkkoiaa.InoW

/- Table.Dump: the inodes of a table, each with a copy of its parts. -/
namespace Go.Proofs.Ytaaecdijbkkoiaa.InoW
set_option maxRecDepth 100000
open Go.RowKit InoP ExtW
def encJ (x : Int) : List Value := [.int .i64 x]
theorem encJ_len (x : Int) : (encJ x).length = 1 := rfl
theorem flat_encJ : ∀ L : List Ino, ((L.map (·.i)).flatMap encJ) = L.map fun x => Value.int .i64 x.i
  | [] => rfl
  | x :: L => by
    have := flat_encJ L
    simp only [List.map_cons, List.flatMap_cons, encJ] at this ⊢
    rw [this]; rfl
theorem ints_row {L : List Ino} {B : Nat} {w : World} {oa : Option Addr} {cap : Nat} (h : w.ownsRow B 3 1 (.slice oa L.length cap) L.length (L.map fun x => Value.int .i64 x.i)) : RowK 3 encJ 1 B w (.slice oa L.length cap) (L.map (·.i)) := by
  unfold RowK
  rw [flat_encJ, List.length_map]; exact h
variable {tb b : Nat} {L : List Ino} {next : Int}
set_option maxHeartbeats 3200000 in
theorem dump_any (W : World) (h : TIs W tb b L next) :
    Calls Try.prog 35 #[.pointer (some ⟨tb, 0, none⟩)] W fun e w' => ∃ oa' cap' zs, e = .returned (.slice oa' L.length cap') ∧ RowI 68 W.heap.size w' (.slice oa' L.length cap') L zs ∧ Below W.heap.size W w' := by
  obtain ⟨i0, hi, hz0, hz1, hz2⟩ := info_parts ino_info
  have HT := Lib.hid h
  have HL := Lib.hid h.good.len
  clear h
  go_enter Try.func35, Try.ntmps35
  go_wp2_with (go_at_call 29; refine (all_any _ HT.out).mono ?_; rintro e w1 ⟨oa, cap, rfl, hown, hnil, hb1⟩; have HROW1 := Lib.hid (ints_row hown); have HB1 := Lib.hid hb1; clear hown hnil hb1)
  go_loopw [3, 10] (fun v i wr => ∃ (k : Nat) (zs : List IV), k ≤ L.length ∧ i = .int .i64 (k : Int) ∧ RowI 68 w1.heap.size wr v (L.take k) zs ∧ Below w1.heap.size w1 wr) (fun _ i _ => (L.length - intOf i).toNat)
  case atStart => exact ⟨0, [], by omega, rfl, RowI.nil _ _ _, Below.refl _ _⟩
  case round =>
    obtain ⟨k, zs, hk, rfl, hrow, hbel⟩ := hrel
    have hl64 := HL.out
    have HB := Lib.hid hbel
    have HZ : Hid (zs.length = k) := Lib.hid (by rw [hrow.read.1, List.length_take]; omega)
    obtain ⟨oz, cz, rfl, hcz, _, _⟩ := hrow.row.form
    have hzk := HZ.out
    rw [hzk] at hrow hcz ⊢
    have HRI := Lib.hid hrow
    have HROW := Lib.hid hrow.row
    clear hbel hrow hzk
    by_cases hlt : k < L.length
    · obtain ⟨x, hx⟩ : ∃ x, L[k]? = some x := ⟨_, List.getElem?_eq_getElem hlt⟩
      have hxm : x ∈ L := List.mem_of_getElem? hx
      have HTX := Lib.hid (take_snocI hx)
      have HTW := Lib.hid (HT.out.grow (bstep HB1.out HB.out))
      obtain ⟨a, rfl, _, hcc⟩ := RowK.pts encJ_len (by omega) (HROW1.out.grow HB.out) k x.i (by rw [List.getElem?_map, hx]; rfl)
      have c6 := hcc 0 _ rfl
      simp only [fieldOf, Nat.mul_one] at c6
      obtain ⟨n, g, o⟩ := HTW.out.op
      obtain ⟨y, hy, hr⟩ := o.yes x.i x (find_of_mem HT.out.good.rises hxm)
      obtain ⟨yi, yk, yl, yo, ys', ya, yn, yc⟩ := y
      obtain rfl : yn = x.p.length := hr.n
      have HR := Lib.hid hr.read
      have HM := Lib.hid o.m
      have HY := Lib.hid hy
      have HI : Hid (iOk x.i) := Lib.hid (iOk_of (by have := HT.out.good.num x hxm; have := HT.out.good.next; omega))
      have HPX : Hid (x.p.length ≤ 64) := Lib.hid (HT.out.good.all x hxm).p.1
      have h0 := HTW.out.m0.1
      have HPB : Hid (PtsAt (wr.alloc (.cells #[.int .i64 yi, .int .i64 yk, .int .i64 yl, .int .i64 yo, .int .i64 ys', .slice ya x.p.length yc] 68)).heap.size ya x.p (wr.alloc (.cells #[.int .i64 yi, .int .i64 yk, .int .i64 yl, .int .i64 yo, .int .i64 ys', .slice ya x.p.length yc] 68))) := Lib.hid (hr.pts.grow (below_alloc wr _))
      clear hx hy hr hxm o hcc
      go_wp2_with (first
        | (at_lookup; go_loud (refine wpList_map_look_some _ rfl _ _ 81 68 false rfl iMK Try.underlying81 _ (ivZero _) b n g HM.out (by rfl) x.i HI.out (by rfl) _ HY.out (.agg #[.int .i64 yi, .int .i64 yk, .int .i64 yl, .int .i64 yo, .int .i64 ys', .slice ya x.p.length yc]) rfl ?_; simp only [Bool.false_eq_true, if_false]))
        | (have hz := HR2.out; clear hz; at_builtin; go_loud (refine wpList_append_newH rfl _ _ 22 rfl w1.heap.size 68 i0 (.agg #[.int .i64 0, .int .i64 0, .int .i64 0, .int .i64 0, .int .i64 0, .slice none 0 0]) 6 64 Try.underlying22 hi hz0 hz1 hz2 rfl (by decide) _ _ _ (by rfl) HOWN6.out _ 1 1 (by rfl) rfl (encI_one ⟨yi, yk, yl, yo, ys', oa2, x.p.length, cap2⟩) (by unfold maxLen; omega) (by omega) (by have := HB.out.size; have := HB6.out.size; omega) (by simp) ?_; intro oa5 cap5 w5 hown5 hbel5 hg5 hv5; have HV5 := Lib.hid hv5; have HS5 := Lib.hid hown5; have HB5 := Lib.hid hbel5; have HG5 := Lib.hid hg5; clear hown5 hbel5 hg5 hv5))
        | (go_at_call 45; go_loud (refine (clone_any ya yc _ x.p rfl (by have := HPX.out; omega) HR.out.nil _ HPB.out).mono ?_; rintro e w2 ⟨oa2, cap2, rfl, hown2, hb2⟩; have HR2 := Lib.hid hown2; have HB2 := Lib.hid hb2; have hbx : IBox w2 wr.heap.size ⟨yi, yk, yl, yo, ys', ya, x.p.length, yc⟩ := new_kept hb2; obtain ⟨b0, b1, b2, b3, b4, b5⟩ := hbx.cells; have f5 := Lib.frozen_of_heap hbx 5; have HOWN6 := Lib.hid (own_after HROW.out HZ.out (bstep (below_alloc wr _) hb2) (.slice oa2 x.p.length cap2)); have HB6 := Lib.hid (set_after (bstep (below_alloc wr (.cells #[.int .i64 yi, .int .i64 yk, .int .i64 yl, .int .i64 yo, .int .i64 ys', .slice ya x.p.length yc] 68)) hb2) (.slice oa2 x.p.length cap2)); clear hown2 hb2 hbx)))
      have hr6 : Row (wr.alloc (.cells #[.int .i64 yi, .int .i64 yk, .int .i64 yl, .int .i64 yo, .int .i64 ys', .slice ya x.p.length yc] 68)).heap.size (w2.setCell ⟨wr.heap.size, 5, none⟩ (.slice oa2 x.p.length cap2)) (.slice oa2 x.p.length cap2) x.p :=
        ((Only.refl wr.heap.size w2).setCell 5 _).keepRow HR2.out (fun e => by
          have hq := (row_base HR2.out).1
          cases oa2 with
          | none => simp [Value.ownBlock] at e
          | some ad => have := (hq ad rfl).1; simp [Value.ownBlock] at e; simp at this; omega)
      have hr0 := HR.out
      have hyr : IRead (w2.setCell ⟨wr.heap.size, 5, none⟩ (.slice oa2 x.p.length cap2)) x ⟨yi, yk, yl, yo, ys', oa2, x.p.length, cap2⟩ := ⟨hr0.i, hr0.k, hr0.l, hr0.o, hr0.s, rfl, hr6.pts, (row_base hr6).2.2⟩
      have hfin := HRI.out.snoc HZ.out HB6.out hyr (fun _ a ha => by have := ((row_base hr6).1 a ha).1; simp at this; omega) rfl HS5.out HG5.out HV5.out
      rw [← HTX.out] at hfin
      exact ⟨⟨k + 1, _, by omega, by simp, hfin, HB.out.trans ((HB6.out.mono HB.out.size).trans HB5.out)⟩, by simp [intOf]; omega⟩
    · obtain rfl : k = L.length := by omega
      rw [List.take_length] at HRI
      go_wp2_with fail
      go_ret
      have := HRI.out
      exact ⟨oz, cz, zs, rfl, ⟨this.row.mono HB1.out.size, this.read, this.far⟩, HB1.out.trans (HB.out.mono HB1.out.size)⟩
end Go.Proofs.Ytaaecdijbkkoiaa.InoW

/- A table and the document's are alike: the statement's own Same. -/
namespace Go.Proofs.Ytaaecdijbkkoiaa.InoW
set_option maxRecDepth 100000
open Go.RowKit InoP ExtW
variable {tb b : Nat} {L : List Ino} {next : Int} {w W : World}
theorem ls_next (h : TIs w tb b L next) (k : Below w.heap.size w W) : Calls Try.prog 33 #[.pointer (some ⟨tb, 0, none⟩)] W fun e w' => e = .returned (.int .i64 next) ∧ Below w.heap.size w w' :=
  (next_any W (h.grow k)).mono fun _ _ ⟨h1, h2⟩ => ⟨h1, h2 ▸ k⟩
theorem ls_dump (h : TIs w tb b L next) (k : Below w.heap.size w W) : Calls Try.prog 35 #[.pointer (some ⟨tb, 0, none⟩)] W fun e w' => ∃ oa' cap' zs, e = .returned (.slice oa' L.length cap') ∧ IList w' oa' L zs ∧ Below w.heap.size w w' :=
  (dump_any W (h.grow k)).mono fun _ _ ⟨oa', cap', zs, h1, h2, h3⟩ => ⟨oa', cap', zs, h1, h2.list, bstep k h3⟩
theorem ls_own (h : TGood L next) {oa : Option Addr} {cap : Nat} {ys : List IV} (hl : IList W oa L ys) (k : Below w.heap.size w W) : Calls Try.prog 26 #[.slice oa L.length cap] W fun e w' => ∃ oa' cap' zs, e = .returned (.slice oa' L.length cap') ∧ IList w' oa' L zs ∧ Below w.heap.size w w' :=
  (own_any oa cap L ys (fun x hx => by have := (h.all x hx).p.1; omega) (by have := h.len; omega) W hl).mono fun _ _ ⟨oa', cap', zs, h1, h2, h3⟩ => ⟨oa', cap', zs, h1, h2.list, bstep k h3⟩
theorem ls_same (h : TGood L next) {oa ob : Option Addr} {ca cb : Nat} {ys zs : List IV} (hl : IList W oa L ys) (hq : IList w ob L zs) (k : Below w.heap.size w W) : Calls Try.prog 34 #[.slice oa L.length ca, .slice ob L.length cb] W fun e w' => e = .returned (.bool true) ∧ Below w.heap.size w w' :=
  (rsame_any oa ob _ _ ca cb L ys zs rfl rfl (by have := h.len; omega) (fun x hx => by have := (h.all x hx).p.1; omega) W hl (hq.grow k)).mono fun _ _ ⟨h1, h3⟩ => ⟨h1, bstep k h3⟩
theorem see2 {c0 c1 : Value} {qb : Nat} (q0 : w.cell? ⟨qb, 0, none⟩ = some c0) (q1 : w.cell? ⟨qb, 1, none⟩ = some c1) (k : Below w.heap.size w W) : (W.cell? ⟨qb, 0, none⟩ = some c0 ∧ W.cell? ⟨qb, 1, none⟩ = some c1) ∧ Below w.heap.size w W :=
  ⟨⟨cell_step k q0, cell_step k q1⟩, k⟩
set_option maxHeartbeats 3200000 in
theorem lsame_any (qb cq : Nat) (oq : Option Addr) (zs : List IV) (w : World) (h : TIs w tb b L next) (hq : IList w oq L zs) (q0 : w.cell? ⟨qb, 0, none⟩ = some (.slice oq L.length cq)) (q1 : w.cell? ⟨qb, 1, none⟩ = some (.int .i64 next)) :
    Calls Try.prog 18 #[.pointer (some ⟨tb, 0, none⟩), .pointer (some ⟨qb, 0, none⟩)] w fun e w' => e = .returned (.bool true) ∧ Below w.heap.size w w' := by
  have HT := Lib.hid h
  have HG := Lib.hid h.good
  have HQ := Lib.hid hq
  have hlen := hq.read.1
  have hk0 : Below w.heap.size w w.drew := (Below.refl _ _).drew
  clear h hq
  go_enter Try.func18, Try.ntmps18
  go_wp2_with fail
  go_region_held3 (fun w' => (w'.cell? ⟨qb, 0, none⟩ = some (.slice oq L.length cq) ∧ w'.cell? ⟨qb, 1, none⟩ = some (.int .i64 next)) ∧ Below w.heap.size w w')
    (first | exact see2 q0 q1 (by assumption))
    (first
      | (have hz := hla; clear hz; go_at_call 26; refine (ls_own HG.out hla (by assumption)).mono ?_; rintro e wb ⟨oa2, ca2, zs2, rfl, hlb, hkb⟩)
      | (have hz := hlb; clear hz; go_at_call 34; refine (ls_same HG.out hlb HQ.out (by assumption)).mono ?_; rintro e wc ⟨rfl, hkc⟩)
      | (go_at_call 35; refine (ls_dump HT.out (by assumption)).mono ?_; rintro e wa ⟨oa1, ca1, zs1, rfl, hla, hka⟩)
      | (go_at_call 33; refine (ls_next HT.out (by assumption)).mono ?_; rintro e wn ⟨rfl, hkn⟩))
  have HKC := Lib.hid hkc
  have HQ0 := Lib.hid q0
  have HQ1 := Lib.hid q1
  have HT2 := Lib.hid (HT.out.grow hkc)
  clear hkc hkn hlb hla hkb hka q0 q1
  go_wp2_with (go_at_call 29; refine (all_any _ HT2.out).mono ?_; rintro e w5 ⟨oa, cap, rfl, hown, hnil, hb5⟩; have HROW := Lib.hid (ints_row hown); have HB5 := Lib.hid (bstep HKC.out hb5); have q0 := cell_step HB5.out HQ0.out; have q1 := cell_step HB5.out HQ1.out; clear hown hnil hb5)
  go_loopw [6] (fun i wr => ∃ k : Nat, k ≤ L.length ∧ i = .int .i64 (k : Int) ∧ Below w5.heap.size w5 wr) (fun i _ => ((L.length : Int) - intOf i).toNat)
  case atStart => exact ⟨0, by omega, rfl, Below.refl _ _⟩
  case round =>
    obtain ⟨k, hk, rfl, hbel⟩ := hrel
    have HB := Lib.hid hbel
    have hl64 := HG.out.len
    clear hbel
    by_cases hlt : k < L.length
    · obtain ⟨x, hx⟩ : ∃ x, L[k]? = some x := ⟨_, List.getElem?_eq_getElem hlt⟩
      obtain ⟨z, hz⟩ : ∃ z, zs[k]? = some z := ⟨_, List.getElem?_eq_getElem (by omega)⟩
      have r1 := HQ.out.read.2 k x z hx hz
      obtain ⟨a, rfl, _, hcc⟩ := RowK.pts encJ_len (by omega) (HROW.out.grow HB.out) k x.i (by rw [List.getElem?_map, hx]; rfl)
      have c0 := hcc 0 _ rfl
      simp only [fieldOf, Nat.mul_one] at c0
      obtain ⟨a2, rfl, _, d0, _⟩ := iv_at (HQ.out.grow (bstep HB5.out HB.out)).at_ hz
      rw [r1.i] at d0
      have p0 := cell_step HB.out q0
      clear hx hz r1 hcc q0 q1
      go_wp2_with fail
      refine held_below (by kernel_rfl) (by kernel_rfl) ?_
      repeat first
        | (refine held_skip ?_ ?_; (· first | rfl | (go_simp; done)); simp only [Act.put, List.setIfInBounds_toArray, List.set_cons_zero, List.set_cons_succ])
        | (refine held_val (v := ?_) ?_ ?_ ?_
           rotate_left
           · first | rfl | (go_simp; done)
           · intro wq hq
             have e0 := cell_step hq c0
             have e1 := cell_step hq d0
             have e2 := cell_step hq p0
             go_simp
             with_reducible rfl
           simp only [Act.put, List.setIfInBounds_toArray, List.set_cons_zero, List.set_cons_succ])
      refine held_nil ?_
      intro w2 hb2
      have HB9 := Lib.hid hb2
      clear hb2
      go_wp2_with fail
      exact ⟨⟨k + 1, by omega, by simp, bstep HB.out HB9.out⟩, by simp [intOf]; omega⟩
    · have hk1 : ¬ ((k : Int) < (L.length : Int)) := by omega
      go_wp2_with fail
      go_ret
      exact ⟨rfl, bstep HB5.out HB.out⟩
end Go.Proofs.Ytaaecdijbkkoiaa.InoW

/- The document's put: some more bytes of an address. -/
namespace Go.Proofs.Ytaaecdijbkkoiaa.LivP
def low (L : List U) (a : Int) : List U := Sl.low U.a il L a
theorem low_le (L : List U) (a : Int) : (low L a).length ≤ L.length := Sl.low_length L a
theorem low_at {L : List U} {a : Int} {k : Nat} (hk : k ≤ (low L a).length) {u : U} (hu : L[k]? = some u) : (u.a < a ↔ k < (low L a).length) := Sl.low_step (key := U.a) (kl := il) hk hu
theorem at_low {L : List U} (hL : Rises L) {a v : Int} (h : lk L a = some v) : L[(low L a).length]? = some ⟨a, v⟩ := by
  obtain ⟨j, hj, e⟩ := List.getElem_of_mem ((Sl.look_iff ilLin uKV hL a v).1 h)
  have hj' : L[j]? = some ⟨a, v⟩ := by rw [List.getElem?_eq_getElem hj, e]
  have h1 : ¬ j < (low L a).length := fun hlt => by
    have := (low_at (Nat.le_of_lt hlt) hj').2 hlt
    simp at this
  have h2 : ¬ (low L a).length < j := fun hlt => by
    have hk : (low L a).length < L.length := by omega
    have hy : L[(low L a).length]? = some L[(low L a).length] := List.getElem?_eq_getElem hk
    have n1 : ¬ (L[(low L a).length]).a < a := fun q => Nat.lt_irrefl _ ((low_at (Nat.le_refl _) hy).1 q)
    have := List.pairwise_iff_getElem.1 hL (low L a).length j hk hj hlt
    rw [e] at this
    exact n1 this
  have : j = (low L a).length := by omega
  rw [← this]; exact hj'
theorem none_low {L : List U} {a : Int} (h : lk L a = none) {u : U} (hu : L[(low L a).length]? = some u) : ¬ u.a = a :=
  (Sl.look_none a).1 h u (List.mem_of_getElem? hu)
theorem map_set {L : List U} (hL : Rises L) {k : Nat} {a v : Int} (hk : L[k]? = some ⟨a, v⟩) (m : Int) : (L.map fun u => if u.a = a then (⟨a, m⟩ : U) else u) = L.set k ⟨a, m⟩ := by
  obtain ⟨hkl, e⟩ := List.getElem?_eq_some_iff.1 hk
  refine List.ext_getElem (by simp) fun i h1 h2 => ?_
  have hi : i < L.length := by simpa using h1
  rw [List.getElem_map, List.getElem_set]
  by_cases hik : k = i
  · subst hik
    rw [if_pos rfl, e, if_pos rfl]
  · rw [if_neg hik, if_neg]
    rcases Nat.lt_or_ge i k with h | h
    · have := List.pairwise_iff_getElem.1 hL i k hi hkl h
      rw [e] at this
      unfold il at this; simp only at this; omega
    · have := List.pairwise_iff_getElem.1 hL k i hkl hi (by omega)
      rw [e] at this
      unfold il at this; simp only at this; omega
end Go.Proofs.Ytaaecdijbkkoiaa.LivP
namespace Go.Proofs.Ytaaecdijbkkoiaa.LivW
set_option maxRecDepth 100000
open Go.RowKit LivP InoP InoW ExtW
theorem ruse_info : (Try.prog.info? 76).map (fun i => (i.zero, i.size, i.bytes)) = some (some (.agg #[.int .i64 0, .int .i64 0]), 2, 16) := by kernel_rfl
theorem flat_oneU (l : List U) : ∀ u ∈ l.flatMap encU, u.oneCell' = true := by
  intro u hu
  obtain ⟨a, _, h⟩ := List.mem_flatMap.1 hu
  exact us_one a u h
theorem flat_set : ∀ (L : List U) (j : Nat) (u : U) (m : Int), L[j]? = some u → (L.flatMap encU).set (j * 2 + 1) (.int .i64 m) = (L.set j ⟨u.a, m⟩).flatMap encU
  | [], j, u, m, h => by simp at h
  | x :: L, 0, u, m, h => by
    obtain rfl : x = u := by simpa using h
    rfl
  | x :: L, j + 1, u, m, h => by
    have := flat_set L j u m (by simpa using h)
    rw [List.flatMap_cons, List.set_cons_succ, List.flatMap_cons, ← this, List.set_append_right _ _ (by rw [us_len]; omega), us_len, show (j + 1) * 2 + 1 - 2 = j * 2 + 1 by omega]
theorem row_set {T : TypeId} {B n cap : Nat} {oa : Option Addr} {w : World} {L : List U} (h : RowK T encU 2 B w (.slice oa n cap) L) {j : Nat} {u : U} (hj : L[j]? = some u) :
    ∃ g, oa = some ⟨g, 0, none⟩ ∧ B ≤ g ∧ g < w.heap.size ∧ (∀ i, w.frozen? ⟨g, i, none⟩ = false) ∧ w.cell? ⟨g, j * 2, none⟩ = some (.int .i64 u.a) ∧ w.cell? ⟨g, j * 2 + 1, none⟩ = some (.int .i64 u.n) ∧
      ∀ m, RowK T encU 2 B (w.setCell ⟨g, j * 2 + 1, none⟩ (.int .i64 m)) (.slice oa n cap) (L.set j ⟨u.a, m⟩) := by
  obtain ⟨g, rfl, hB, hg, hc⟩ := h.at us_len (by omega) hj
  have hjl := (List.getElem?_eq_some_iff.1 hj).1
  rcases h.2 with ⟨e, h0⟩ | ⟨g', cap', cur, e, h1, h2, h3, h4, h5, h6⟩
  · omega
  simp only [Value.slice.injEq, Option.some.injEq, Addr.mk.injEq] at e
  obtain ⟨⟨rfl, _⟩, rfl, rfl⟩ := e
  refine ⟨g, rfl, hB, hg, fun i => Lib.frozen_of_heap h2 i, hc 0 _ rfl, hc 1 _ rfl, fun m => ?_⟩
  refine ⟨by rw [flat_len us_len], .inr ⟨g, cap, cur.setIfInBounds (j * 2 + 1) (.int .i64 m), by simp, h1, ?_, by simpa using h3, h4, by simpa using h5, ?_⟩⟩
  · simp [World.setCell, Array.getElem?_modify, h2]
  · rw [Array.toList_setIfInBounds, List.length_set, List.take_set, h6, flat_set L j u m hj]
set_option maxHeartbeats 8000000 in
theorem rput_any (B : Nat) (v : Value) (L : List U) (c n : Int) (w : World) (hL : Rises L) (hr : RowK 76 encU 2 B w v L) (hB : B ≤ w.heap.size) (hlen : L.length ≤ 100000) (hov : IntKind.i64.wrap ((lk L c).getD 0 + n) = (lk L c).getD 0 + n) :
    Calls Try.prog 32 #[v, .int .i64 c, .int .i64 n] w fun e w' => ∃ v', e = .returned v' ∧ RowK 76 encU 2 B w' v' (addU L c n) ∧ Below B w w' := by
  obtain ⟨i0, hi, hz0, hz1, hz2⟩ := info_parts ruse_info
  obtain ⟨oa, cap, rfl, hc, hc2, hnone⟩ := hr.form
  have HROW := Lib.hid hr
  have HP := Lib.hid (RowK.pts us_len (by omega) hr)
  have HBB := Lib.hid hB
  have HRI := Lib.hid hL
  have HOV := Lib.hid hov
  have HLOW := Lib.hid (low_le L c)
  cases oa with
  | none =>
    obtain ⟨hL0, rfl⟩ := hnone rfl
    obtain rfl : L = [] := List.eq_nil_of_length_eq_zero hL0
    have HL1 : Hid ((([] : List U).flatMap encU).length = 0 * 2) := Lib.hid rfl
    have HL2 : Hid ((([] : List U).flatMap encU).length = 0 * 2) := Lib.hid rfl
    have HLN : Hid ([] ++ ([] : List U).flatMap encU ++ (#[.int .i64 c, .int .i64 n] : Array Value).toList ++ ([] : List U).flatMap encU = (addU [] c n).flatMap encU ∧ 0 + (0) + 1 + (0) = (addU [] c n).length) := Lib.hid ⟨rfl, rfl⟩
    have HW1 : Hid (∀ W, Below w.heap.size w W → ∀ ad, (none : Option Addr) = some ad → ∀ j u, (([] : List U).flatMap encU)[j]? = some u → W.cell? (ad.add j) = some u) := Lib.hid (fun _ _ _ e => by cases e)
    have HW2 := Lib.hid HW1.out
    simp only [List.length_nil] at *
    clear hnone hL0 hr hL hov
    go_enter Try.func32, Try.ntmps32
    go_wp2_with fail
    go_loop [7] (fun k => k = .int .i64 0) (fun _ => 0)
    case atStart => rfl
    case round =>
      obtain rfl := hrel
      go_wp2_with fail
      have HS0 : Hid (Below w.heap.size w w.drew) := Lib.hid (Below.refl w.heap.size w).drew
      have HS0 := Lib.hid (id (Below.refl w.heap.size w).drew)
      refine regionL 14 15 (fun w' => Below w.heap.size w w') (by kernel_rfl) rfl ?_
      refine takeL 1 (some 47) (v := ?_) rfl (by kernel_rfl) (by kernel_rfl) (by kernel_rfl) (by kernel_rfl) (fun _ _ _ h => h) rfl rfl HS0.out ?_ ?_
      rotate_left
      · intro wq hq
        have g0 := hq
        go_simp
        with_reducible rfl
      simp only [Act.put, List.setIfInBounds_toArray, List.set_cons_zero, List.set_cons_succ]
      refine takeL 2 (some 48) (v := ?_) rfl (by kernel_rfl) (by kernel_rfl) (by kernel_rfl) (by kernel_rfl) (fun _ _ _ h => h) rfl rfl HS0.out ?_ ?_
      rotate_left
      · intro wq hq
        have g0 := hq
        go_simp
        with_reducible rfl
      simp only [Act.put, List.setIfInBounds_toArray, List.set_cons_zero, List.set_cons_succ]
      refine takeL 3 (some 49) (v := ?_) rfl (by kernel_rfl) (by kernel_rfl) (by kernel_rfl) (by kernel_rfl) (fun _ _ _ h => h) rfl rfl HS0.out ?_ ?_
      rotate_left
      · intro wq hq
        have g0 := hq
        go_simp
        with_reducible rfl
      simp only [Act.put, List.setIfInBounds_toArray, List.set_cons_zero, List.set_cons_succ]
      refine takeL 5 (some 51) (v := ?_) rfl (by kernel_rfl) (by kernel_rfl) (by kernel_rfl) (by kernel_rfl) (fun _ _ _ h => h) rfl rfl HS0.out ?_ ?_
      rotate_left
      · intro wq hq
        have g0 := hq
        go_simp
        with_reducible rfl
      simp only [Act.put, List.setIfInBounds_toArray, List.set_cons_zero, List.set_cons_succ]
      refine takeL 6 (some 52) (v := ?_) rfl (by kernel_rfl) (by kernel_rfl) (by kernel_rfl) (by kernel_rfl) (fun _ _ _ h => h) rfl rfl HS0.out ?_ ?_
      rotate_left
      · intro wq hq
        have g0 := hq
        go_simp
        with_reducible rfl
      simp only [Act.put, List.setIfInBounds_toArray, List.set_cons_zero, List.set_cons_succ]
      refine takeL 7 (some 53) (v := ?_) rfl (by kernel_rfl) (by kernel_rfl) (by kernel_rfl) (by kernel_rfl) (fun _ _ _ h => h) rfl rfl HS0.out ?_ ?_
      rotate_left
      · intro wq hq
        have g0 := hq
        go_simp
        with_reducible rfl
      simp only [Act.put, List.setIfInBounds_toArray, List.set_cons_zero, List.set_cons_succ]
      refine takeL 10 (some 56) (v := ?_) rfl (by kernel_rfl) (by kernel_rfl) (by kernel_rfl) (by kernel_rfl) (fun _ _ _ h => h) rfl rfl HS0.out ?_ ?_
      rotate_left
      · intro wq hq
        have g0 := hq
        go_simp
        with_reducible rfl
      simp only [Act.put, List.setIfInBounds_toArray, List.set_cons_zero, List.set_cons_succ]
      refine takeL 11 (some 57) (v := ?_) rfl (by kernel_rfl) (by kernel_rfl) (by kernel_rfl) (by kernel_rfl) (fun _ _ _ h => h) rfl rfl HS0.out ?_ ?_
      rotate_left
      · intro wq hq
        have g0 := hq
        go_simp
        with_reducible rfl
      simp only [Act.put, List.setIfInBounds_toArray, List.set_cons_zero, List.set_cons_succ]
      refine takeL 12 (some 58) (v := ?_) rfl (by kernel_rfl) (by kernel_rfl) (by kernel_rfl) (by kernel_rfl) (fun _ _ _ h => h) rfl rfl HS0.out ?_ ?_
      rotate_left
      · intro wq hq
        have g0 := hq
        go_simp
        with_reducible rfl
      simp only [Act.put, List.setIfInBounds_toArray, List.set_cons_zero, List.set_cons_succ]
      refine twoL 0 8 (by kernel_rfl) rfl rfl rfl rfl (wp_runs (some 46) (v := .slice (some ⟨w.heap.size, 0, none⟩) 0 0) (w' := (w.alloc (.cells #[] 76)).drew) rfl (by go_simp) ⟨fun _ => id (below_alloc w _).drew, ?_⟩) (wp_runs (some 54) (v := .slice (some ⟨w.heap.size, 0, none⟩) 1 1) (w' := (w.alloc (.cells #[.int .i64 c, .int .i64 n] 76)).drew) rfl (by go_simp) ⟨fun _ => id (below_alloc w _).drew, ?_⟩)
      · simp only [Act.put, List.setIfInBounds_toArray, List.set_cons_zero, List.set_cons_succ]
        refine twoL 4 8 (by kernel_rfl) rfl rfl rfl rfl (wp_append_both (some 50) rfl rfl _ _ 47 rfl w.heap.size 76 i0 (.agg #[.int .i64 0, .int .i64 0]) 2 16 Try.underlying47 hi hz0 hz1 hz2 rfl (by decide) _ (.slice (some ⟨w.heap.size, 0, none⟩) 0 0) (0) ([]) rfl (own_empty_at (W := w.drew) rfl _ _ _ (Nat.le_refl _)) none (0) (0) (([] : List U).flatMap encU) rfl (fun _ => ⟨rfl, rfl⟩) HL1.out (HW1.out _ (below_alloc w _).drew) (flat_oneU _) (by unfold maxLen; omega) (by omega) (below_alloc w _).drew.size ?_) (wp_runs (some 54) (v := .slice (some ⟨w.heap.size + 1, 0, none⟩) 1 1) (w' := ((w.alloc (.cells #[] 76)).alloc (.cells #[.int .i64 c, .int .i64 n] 76)).drew) rfl (by go_simp) ⟨fun _ => id ((below_alloc w (.cells #[] 76)).trans ((below_alloc (w.alloc (.cells #[] 76)) (.cells #[.int .i64 c, .int .i64 n] 76)).mono (by simp))).drew, ?_⟩)
        · intro oa1 cap1 w1 h1 h2 h3
          have HR1 := Lib.hid h1
          have HB1 := Lib.hid ((below_alloc w _).drew.trans h2)
          clear h1 h2 h3
          refine ⟨fun _ => id HB1.out, ?_⟩
          simp only [Act.put, List.setIfInBounds_toArray, List.set_cons_zero, List.set_cons_succ]
          refine oneL 8 (by kernel_rfl) rfl rfl (wp_runs (some 54) (v := .slice (some ⟨w1.heap.size, 0, none⟩) 1 1) (w' := w1.alloc (.cells #[.int .i64 c, .int .i64 n] 76)) rfl (by go_simp) ⟨fun _ => id (HB1.out.trans ((below_alloc w1 _).mono HB1.out.size)), ?_⟩)
          simp only [Act.put, List.setIfInBounds_toArray, List.set_cons_zero, List.set_cons_succ]
          refine oneL 9 (by kernel_rfl) rfl rfl (wp_append_both (some 55) rfl rfl _ _ 47 rfl w.heap.size 76 i0 (.agg #[.int .i64 0, .int .i64 0]) 2 16 Try.underlying47 hi hz0 hz1 hz2 rfl (by decide) _ (.slice oa1 (0 + (0)) cap1) (0 + (0)) ([] ++ (([] : List U).flatMap encU)) rfl (own_grow HR1.out (below_alloc w1 _)) (some ⟨w1.heap.size, 0, none⟩) (1) (1) ((#[.int .i64 c, .int .i64 n] : Array Value).toList) rfl (fun e => by cases e) rfl (fun ad e => by cases e; exact World.news_of_block (heap_alloc_new w1 _)) (us_one ⟨c, n⟩) (by unfold maxLen; omega) (by omega) (by have := HB1.out.size; simp; omega) ?_)
          intro oa2 cap2 w2 h1 h2 h3
          have HR2 := Lib.hid h1
          have HB2 := Lib.hid ((HB1.out.trans ((below_alloc w1 _).mono HB1.out.size)).trans h2)
          clear h1 h2 h3
          refine ⟨fun _ => id HB2.out, ?_⟩
          simp only [Act.put, List.setIfInBounds_toArray, List.set_cons_zero, List.set_cons_succ]
          refine oneL 13 (by kernel_rfl) rfl rfl (wp_append_both (some 59) rfl rfl _ _ 47 rfl w.heap.size 76 i0 (.agg #[.int .i64 0, .int .i64 0]) 2 16 Try.underlying47 hi hz0 hz1 hz2 rfl (by decide) _ (.slice oa2 (0 + (0) + 1) cap2) (0 + (0) + 1) ([] ++ (([] : List U).flatMap encU) ++ ((#[.int .i64 c, .int .i64 n] : Array Value).toList)) rfl HR2.out none (0) (0) (([] : List U).flatMap encU) rfl (fun _ => ⟨rfl, rfl⟩) HL2.out (HW2.out _ HB2.out) (flat_oneU _) (by unfold maxLen; omega) (by omega) HB2.out.size ?_)
          intro oaL capL wL h1 h2 h3
          have HRL : Hid (RowK 76 encU 2 w.heap.size wL (.slice oaL (0 + (0) + 1 + (0)) capL) (addU [] c n)) := Lib.hid (own_row h1 HLN.out)
          have HBL := Lib.hid (HB2.out.trans h2)
          clear h1 h2 h3
          refine ⟨fun _ => id HBL.out, ?_⟩
          simp only [Act.put, List.setIfInBounds_toArray, List.set_cons_zero, List.set_cons_succ]
          generalize 0 + (0) + 1 + (0) = nL at HRL ⊢
          refine oneL 14 (by kernel_rfl) rfl rfl (wp_runs (some 6) (v := .slice oaL nL capL) (w' := wL) rfl (by go_simp) ⟨fun h => absurd rfl h, ?_⟩)
          simp only [Act.put, List.setIfInBounds_toArray, List.set_cons_zero, List.set_cons_succ]
          refine doneL (by kernel_rfl) ?_
          go_wp2_with fail
          go_ret
          exact ⟨_, rfl, HRL.out.mono HBB.out, HBL.out.mono HBB.out⟩
        · simp only [Act.put, List.setIfInBounds_toArray, List.set_cons_zero, List.set_cons_succ]
          refine oneL 4 (by kernel_rfl) rfl rfl (wp_append_both (some 50) rfl rfl _ _ 47 rfl w.heap.size 76 i0 (.agg #[.int .i64 0, .int .i64 0]) 2 16 Try.underlying47 hi hz0 hz1 hz2 rfl (by decide) _ (.slice (some ⟨w.heap.size, 0, none⟩) 0 0) (0) ([]) rfl (own_grow (own_empty_at (W := w.drew) rfl _ _ _ (Nat.le_refl _)) (below_alloc _ _)) none (0) (0) (([] : List U).flatMap encU) rfl (fun _ => ⟨rfl, rfl⟩) HL1.out (HW1.out _ ((below_alloc w (.cells #[] 76)).trans ((below_alloc (w.alloc (.cells #[] 76)) (.cells #[.int .i64 c, .int .i64 n] 76)).mono (by simp))).drew) (flat_oneU _) (by unfold maxLen; omega) (by omega) (by simp; omega) ?_)
          intro oa1 cap1 w1 h1 h2 h3
          have HR1 := Lib.hid h1
          have HX1 : Hid (w1.heap[w.heap.size + 1]? = some (.cells #[.int .i64 c, .int .i64 n] 76)) := Lib.hid ((h3.block _ (by simp) (by simp [Value.ownBlock])).trans (by have := heap_alloc_new (w.alloc (.cells #[] 76)) (.cells #[.int .i64 c, .int .i64 n] 76); rw [show (w.alloc (.cells #[] 76)).heap.size = w.heap.size + 1 by simp] at this; exact this))
          have HB1 := Lib.hid (((below_alloc w (.cells #[] 76)).trans ((below_alloc (w.alloc (.cells #[] 76)) (.cells #[.int .i64 c, .int .i64 n] 76)).mono (by simp))).drew.trans h2)
          clear h1 h2 h3
          refine ⟨fun _ => id HB1.out, ?_⟩
          simp only [Act.put, List.setIfInBounds_toArray, List.set_cons_zero, List.set_cons_succ]
          refine oneL 9 (by kernel_rfl) rfl rfl (wp_append_both (some 55) rfl rfl _ _ 47 rfl w.heap.size 76 i0 (.agg #[.int .i64 0, .int .i64 0]) 2 16 Try.underlying47 hi hz0 hz1 hz2 rfl (by decide) _ (.slice oa1 (0 + (0)) cap1) (0 + (0)) ([] ++ (([] : List U).flatMap encU)) rfl HR1.out (some ⟨w.heap.size + 1, 0, none⟩) (1) (1) ((#[.int .i64 c, .int .i64 n] : Array Value).toList) rfl (fun e => by cases e) rfl (fun ad e => by cases e; exact World.news_of_block HX1.out) (us_one ⟨c, n⟩) (by unfold maxLen; omega) (by omega) HB1.out.size ?_)
          intro oa2 cap2 w2 h1 h2 h3
          have HR2 := Lib.hid h1
          have HB2 := Lib.hid (HB1.out.trans h2)
          clear h1 h2 h3
          refine ⟨fun _ => id HB2.out, ?_⟩
          simp only [Act.put, List.setIfInBounds_toArray, List.set_cons_zero, List.set_cons_succ]
          refine oneL 13 (by kernel_rfl) rfl rfl (wp_append_both (some 59) rfl rfl _ _ 47 rfl w.heap.size 76 i0 (.agg #[.int .i64 0, .int .i64 0]) 2 16 Try.underlying47 hi hz0 hz1 hz2 rfl (by decide) _ (.slice oa2 (0 + (0) + 1) cap2) (0 + (0) + 1) ([] ++ (([] : List U).flatMap encU) ++ ((#[.int .i64 c, .int .i64 n] : Array Value).toList)) rfl HR2.out none (0) (0) (([] : List U).flatMap encU) rfl (fun _ => ⟨rfl, rfl⟩) HL2.out (HW2.out _ HB2.out) (flat_oneU _) (by unfold maxLen; omega) (by omega) HB2.out.size ?_)
          intro oaL capL wL h1 h2 h3
          have HRL : Hid (RowK 76 encU 2 w.heap.size wL (.slice oaL (0 + (0) + 1 + (0)) capL) (addU [] c n)) := Lib.hid (own_row h1 HLN.out)
          have HBL := Lib.hid (HB2.out.trans h2)
          clear h1 h2 h3
          refine ⟨fun _ => id HBL.out, ?_⟩
          simp only [Act.put, List.setIfInBounds_toArray, List.set_cons_zero, List.set_cons_succ]
          generalize 0 + (0) + 1 + (0) = nL at HRL ⊢
          refine oneL 14 (by kernel_rfl) rfl rfl (wp_runs (some 6) (v := .slice oaL nL capL) (w' := wL) rfl (by go_simp) ⟨fun h => absurd rfl h, ?_⟩)
          simp only [Act.put, List.setIfInBounds_toArray, List.set_cons_zero, List.set_cons_succ]
          refine doneL (by kernel_rfl) ?_
          go_wp2_with fail
          go_ret
          exact ⟨_, rfl, HRL.out.mono HBB.out, HBL.out.mono HBB.out⟩
      · simp only [Act.put, List.setIfInBounds_toArray, List.set_cons_zero, List.set_cons_succ]
        refine oneL 0 (by kernel_rfl) rfl rfl (wp_runs (some 46) (v := .slice (some ⟨w.heap.size + 1, 0, none⟩) 0 0) (w' := ((w.alloc (.cells #[.int .i64 c, .int .i64 n] 76)).alloc (.cells #[] 76)).drew) rfl (by go_simp) ⟨fun _ => id ((below_alloc w (.cells #[.int .i64 c, .int .i64 n] 76)).trans ((below_alloc (w.alloc (.cells #[.int .i64 c, .int .i64 n] 76)) (.cells #[] 76)).mono (by simp))).drew, ?_⟩)
        simp only [Act.put, List.setIfInBounds_toArray, List.set_cons_zero, List.set_cons_succ]
        refine oneL 4 (by kernel_rfl) rfl rfl (wp_append_both (some 50) rfl rfl _ _ 47 rfl w.heap.size 76 i0 (.agg #[.int .i64 0, .int .i64 0]) 2 16 Try.underlying47 hi hz0 hz1 hz2 rfl (by decide) _ (.slice (some ⟨w.heap.size + 1, 0, none⟩) 0 0) (0) ([]) rfl (own_empty_at (W := (w.alloc (.cells #[.int .i64 c, .int .i64 n] 76)).drew) (by simp) _ _ _ (by omega)) none (0) (0) (([] : List U).flatMap encU) rfl (fun _ => ⟨rfl, rfl⟩) HL1.out (HW1.out _ ((below_alloc w (.cells #[.int .i64 c, .int .i64 n] 76)).trans ((below_alloc (w.alloc (.cells #[.int .i64 c, .int .i64 n] 76)) (.cells #[] 76)).mono (by simp))).drew) (flat_oneU _) (by unfold maxLen; omega) (by omega) (by simp; omega) ?_)
        intro oa1 cap1 w1 h1 h2 h3
        have HR1 := Lib.hid h1
        have HX1 : Hid (w1.heap[w.heap.size]? = some (.cells #[.int .i64 c, .int .i64 n] 76)) := Lib.hid ((h3.block _ (by simp; omega) (by simp [Value.ownBlock])).trans ((Below.heap_alloc (w.alloc (.cells #[.int .i64 c, .int .i64 n] 76)) (.cells #[] 76) _ (by simp)).trans (heap_alloc_new w _)))
        have HB1 := Lib.hid (((below_alloc w (.cells #[.int .i64 c, .int .i64 n] 76)).trans ((below_alloc (w.alloc (.cells #[.int .i64 c, .int .i64 n] 76)) (.cells #[] 76)).mono (by simp))).drew.trans h2)
        clear h1 h2 h3
        refine ⟨fun _ => id HB1.out, ?_⟩
        simp only [Act.put, List.setIfInBounds_toArray, List.set_cons_zero, List.set_cons_succ]
        refine oneL 9 (by kernel_rfl) rfl rfl (wp_append_both (some 55) rfl rfl _ _ 47 rfl w.heap.size 76 i0 (.agg #[.int .i64 0, .int .i64 0]) 2 16 Try.underlying47 hi hz0 hz1 hz2 rfl (by decide) _ (.slice oa1 (0 + (0)) cap1) (0 + (0)) ([] ++ (([] : List U).flatMap encU)) rfl HR1.out (some ⟨w.heap.size, 0, none⟩) (1) (1) ((#[.int .i64 c, .int .i64 n] : Array Value).toList) rfl (fun e => by cases e) rfl (fun ad e => by cases e; exact World.news_of_block HX1.out) (us_one ⟨c, n⟩) (by unfold maxLen; omega) (by omega) HB1.out.size ?_)
        intro oa2 cap2 w2 h1 h2 h3
        have HR2 := Lib.hid h1
        have HB2 := Lib.hid (HB1.out.trans h2)
        clear h1 h2 h3
        refine ⟨fun _ => id HB2.out, ?_⟩
        simp only [Act.put, List.setIfInBounds_toArray, List.set_cons_zero, List.set_cons_succ]
        refine oneL 13 (by kernel_rfl) rfl rfl (wp_append_both (some 59) rfl rfl _ _ 47 rfl w.heap.size 76 i0 (.agg #[.int .i64 0, .int .i64 0]) 2 16 Try.underlying47 hi hz0 hz1 hz2 rfl (by decide) _ (.slice oa2 (0 + (0) + 1) cap2) (0 + (0) + 1) ([] ++ (([] : List U).flatMap encU) ++ ((#[.int .i64 c, .int .i64 n] : Array Value).toList)) rfl HR2.out none (0) (0) (([] : List U).flatMap encU) rfl (fun _ => ⟨rfl, rfl⟩) HL2.out (HW2.out _ HB2.out) (flat_oneU _) (by unfold maxLen; omega) (by omega) HB2.out.size ?_)
        intro oaL capL wL h1 h2 h3
        have HRL : Hid (RowK 76 encU 2 w.heap.size wL (.slice oaL (0 + (0) + 1 + (0)) capL) (addU [] c n)) := Lib.hid (own_row h1 HLN.out)
        have HBL := Lib.hid (HB2.out.trans h2)
        clear h1 h2 h3
        refine ⟨fun _ => id HBL.out, ?_⟩
        simp only [Act.put, List.setIfInBounds_toArray, List.set_cons_zero, List.set_cons_succ]
        generalize 0 + (0) + 1 + (0) = nL at HRL ⊢
        refine oneL 14 (by kernel_rfl) rfl rfl (wp_runs (some 6) (v := .slice oaL nL capL) (w' := wL) rfl (by go_simp) ⟨fun h => absurd rfl h, ?_⟩)
        simp only [Act.put, List.setIfInBounds_toArray, List.set_cons_zero, List.set_cons_succ]
        refine doneL (by kernel_rfl) ?_
        go_wp2_with fail
        go_ret
        exact ⟨_, rfl, HRL.out.mono HBB.out, HBL.out.mono HBB.out⟩
  | some a =>
    clear hnone hr hL hov
    go_enter Try.func32, Try.ntmps32
    go_wp2_with fail
    go_loop [7] (fun k => ∃ m : Nat, m ≤ (low L c).length ∧ k = .int .i64 (m : Int)) (fun k => ((L.length : Int) - intOf k).toNat)
    case atStart => exact ⟨0, Nat.zero_le _, rfl⟩
    case round =>
      obtain ⟨k, hk, rfl⟩ := hrel
      have hkl : k ≤ L.length := Nat.le_trans hk HLOW.out
      by_cases hgo : k < (low L c).length
      · have hlt : k < L.length := Nat.lt_of_lt_of_le hgo HLOW.out
        obtain ⟨x, hx⟩ : ∃ x, L[k]? = some x := ⟨_, List.getElem?_eq_getElem hlt⟩
        obtain ⟨a', ha', hab, hcc⟩ := HP.out k x hx
        obtain rfl : a = a' := by simpa using ha'
        have c0 := hcc 0 _ rfl
        simp only [fieldOf] at c0
        have d1 : decide (x.a < c) = true := decide_eq_true ((low_at hk hx).2 hgo)
        have HGO := Lib.hid hgo
        clear hx ha' hgo hk hcc
        go_wp2_with fail
        go_round
        case rel => exact ⟨k + 1, HGO.out, by simp⟩
        case measure => simp [intOf]; omega
      · have hke : k = (low L c).length := by omega
        have HKE := Lib.hid hke
        have hq3 : (k : Int) ≤ (cap : Int) := by omega
        have hq4 : (k : Int) ≤ (L.length : Int) := by omega
        have hq5 : (L.length : Int) ≤ (cap : Int) := by omega
        cases hl : lk L c with
        | some vv =>
          have hx := at_low HRI.out hl
          rw [← hke] at hx
          obtain ⟨g, e, hgB, hgl, hfz, c0, c1, hset⟩ := row_set HROW.out hx
          obtain rfl : a = ⟨g, 0, none⟩ := by simpa using e
          have hlt : k < L.length := (List.getElem?_eq_some_iff.1 hx).1
          have HSET := Lib.hid hset
          have f1 := hfz (k * 2 + 1)
          have hw := HOV.out
          rw [hl] at hw
          simp only [Option.getD_some] at hw
          have HAE : Hid (addU L c n = L.set k ⟨c, vv + n⟩) := Lib.hid (by
            unfold addU
            rw [hl]
            exact map_set HRI.out hx _)
          have d1 : decide (c < c) = false := decide_eq_false (by omega)
          have HGB := Lib.hid hgB
          simp only at c0 c1
          clear hx hl hke hk hgo hset hfz hgB e
          go_wp2_with fail
          go_ret
          exact ⟨_, rfl, by rw [HAE.out]; exact HSET.out _, (Below.refl _ _).setCell (p := ⟨g, _, none⟩) HGB.out _⟩
        | none =>
          have hI : addU L c n = L.take k ++ ⟨c, n⟩ :: L.drop k := by
            unfold addU
            rw [hl, hke]
            exact Sl.ins_take (key := U.a) (kl := il) L ⟨c, n⟩
          have HL1 : Hid (((L.take k).flatMap encU).length = k * 2) := Lib.hid (by rw [flat_len us_len, List.length_take, Nat.min_eq_left (by omega)])
          have HL2 : Hid (((L.drop k).flatMap encU).length = (L.length - k) * 2) := Lib.hid (by rw [flat_len us_len, List.length_drop])
          have HLN : Hid ([] ++ (L.take k).flatMap encU ++ (#[.int .i64 c, .int .i64 n] : Array Value).toList ++ (L.drop k).flatMap encU = (addU L c n).flatMap encU ∧ 0 + (k) + 1 + (L.length - k) = (addU L c n).length) := Lib.hid (by
            rw [hI]
            refine ⟨by simp [encU], ?_⟩
            rw [List.length_append, List.length_cons, List.length_take, List.length_drop, Nat.min_eq_left (by omega)]; omega)
          have HW1 := Lib.hid fun W (hb : Below w.heap.size w W) => news_take us_len (by omega) (HP.out.below hb) k
          have HW2 := Lib.hid fun W (hb : Below w.heap.size w W) => news_drop us_len (by omega) (HP.out.below hb) hc k
          by_cases hlt : k < L.length
          · obtain ⟨x, hx⟩ : ∃ x, L[k]? = some x := ⟨_, List.getElem?_eq_getElem hlt⟩
            obtain ⟨a', ha', hab, hcc⟩ := HP.out k x hx
            obtain rfl : a = a' := by simpa using ha'
            have c0 := hcc 0 _ rfl
            simp only [fieldOf] at c0
            have d1 : decide (x.a < c) = false := decide_eq_false (fun h => by have := (low_at (by omega) hx).1 h; omega)
            have d2 : (x.a == c) = false := by rw [beq_eq_false_iff_ne]; exact none_low hl (by rw [← hke]; exact hx)
            clear hx ha' hcc hI hl hke hk hgo
            go_wp2_with fail
            have HS0 : Hid (Below w.heap.size w w.drew) := Lib.hid (Below.refl w.heap.size w).drew
            have HS0 := Lib.hid (id (Below.refl w.heap.size w).drew)
            refine regionL 14 15 (fun w' => Below w.heap.size w w') (by kernel_rfl) rfl ?_
            refine takeL 1 (some 47) (v := ?_) rfl (by kernel_rfl) (by kernel_rfl) (by kernel_rfl) (by kernel_rfl) (fun _ _ _ h => h) rfl rfl HS0.out ?_ ?_
            rotate_left
            · intro wq hq
              have g0 := hq
              go_simp
              with_reducible rfl
            simp only [Act.put, List.setIfInBounds_toArray, List.set_cons_zero, List.set_cons_succ]
            refine takeL 2 (some 48) (v := ?_) rfl (by kernel_rfl) (by kernel_rfl) (by kernel_rfl) (by kernel_rfl) (fun _ _ _ h => h) rfl rfl HS0.out ?_ ?_
            rotate_left
            · intro wq hq
              have g0 := hq
              go_simp
              with_reducible rfl
            simp only [Act.put, List.setIfInBounds_toArray, List.set_cons_zero, List.set_cons_succ]
            refine takeL 3 (some 49) (v := ?_) rfl (by kernel_rfl) (by kernel_rfl) (by kernel_rfl) (by kernel_rfl) (fun _ _ _ h => h) rfl rfl HS0.out ?_ ?_
            rotate_left
            · intro wq hq
              have g0 := hq
              go_simp
              with_reducible rfl
            simp only [Act.put, List.setIfInBounds_toArray, List.set_cons_zero, List.set_cons_succ]
            refine takeL 5 (some 51) (v := ?_) rfl (by kernel_rfl) (by kernel_rfl) (by kernel_rfl) (by kernel_rfl) (fun _ _ _ h => h) rfl rfl HS0.out ?_ ?_
            rotate_left
            · intro wq hq
              have g0 := hq
              go_simp
              with_reducible rfl
            simp only [Act.put, List.setIfInBounds_toArray, List.set_cons_zero, List.set_cons_succ]
            refine takeL 6 (some 52) (v := ?_) rfl (by kernel_rfl) (by kernel_rfl) (by kernel_rfl) (by kernel_rfl) (fun _ _ _ h => h) rfl rfl HS0.out ?_ ?_
            rotate_left
            · intro wq hq
              have g0 := hq
              go_simp
              with_reducible rfl
            simp only [Act.put, List.setIfInBounds_toArray, List.set_cons_zero, List.set_cons_succ]
            refine takeL 7 (some 53) (v := ?_) rfl (by kernel_rfl) (by kernel_rfl) (by kernel_rfl) (by kernel_rfl) (fun _ _ _ h => h) rfl rfl HS0.out ?_ ?_
            rotate_left
            · intro wq hq
              have g0 := hq
              go_simp
              with_reducible rfl
            simp only [Act.put, List.setIfInBounds_toArray, List.set_cons_zero, List.set_cons_succ]
            refine takeL 10 (some 56) (v := ?_) rfl (by kernel_rfl) (by kernel_rfl) (by kernel_rfl) (by kernel_rfl) (fun _ _ _ h => h) rfl rfl HS0.out ?_ ?_
            rotate_left
            · intro wq hq
              have g0 := hq
              go_simp
              with_reducible rfl
            simp only [Act.put, List.setIfInBounds_toArray, List.set_cons_zero, List.set_cons_succ]
            refine takeL 11 (some 57) (v := ?_) rfl (by kernel_rfl) (by kernel_rfl) (by kernel_rfl) (by kernel_rfl) (fun _ _ _ h => h) rfl rfl HS0.out ?_ ?_
            rotate_left
            · intro wq hq
              have g0 := hq
              go_simp
              with_reducible rfl
            simp only [Act.put, List.setIfInBounds_toArray, List.set_cons_zero, List.set_cons_succ]
            refine takeL 12 (some 58) (v := ?_) rfl (by kernel_rfl) (by kernel_rfl) (by kernel_rfl) (by kernel_rfl) (fun _ _ _ h => h) rfl rfl HS0.out ?_ ?_
            rotate_left
            · intro wq hq
              have g0 := hq
              go_simp
              with_reducible rfl
            simp only [Act.put, List.setIfInBounds_toArray, List.set_cons_zero, List.set_cons_succ]
            refine twoL 0 8 (by kernel_rfl) rfl rfl rfl rfl (wp_runs (some 46) (v := .slice (some ⟨w.heap.size, 0, none⟩) 0 0) (w' := (w.alloc (.cells #[] 76)).drew) rfl (by go_simp) ⟨fun _ => id (below_alloc w _).drew, ?_⟩) (wp_runs (some 54) (v := .slice (some ⟨w.heap.size, 0, none⟩) 1 1) (w' := (w.alloc (.cells #[.int .i64 c, .int .i64 n] 76)).drew) rfl (by go_simp) ⟨fun _ => id (below_alloc w _).drew, ?_⟩)
            · simp only [Act.put, List.setIfInBounds_toArray, List.set_cons_zero, List.set_cons_succ]
              refine twoL 4 8 (by kernel_rfl) rfl rfl rfl rfl (wp_append_both (some 50) rfl rfl _ _ 47 rfl w.heap.size 76 i0 (.agg #[.int .i64 0, .int .i64 0]) 2 16 Try.underlying47 hi hz0 hz1 hz2 rfl (by decide) _ (.slice (some ⟨w.heap.size, 0, none⟩) 0 0) (0) ([]) rfl (own_empty_at (W := w.drew) rfl _ _ _ (Nat.le_refl _)) (some a) (k) (cap) ((L.take k).flatMap encU) rfl (fun e => by cases e) HL1.out (HW1.out _ (below_alloc w _).drew) (flat_oneU _) (by unfold maxLen; omega) (by omega) (below_alloc w _).drew.size ?_) (wp_runs (some 54) (v := .slice (some ⟨w.heap.size + 1, 0, none⟩) 1 1) (w' := ((w.alloc (.cells #[] 76)).alloc (.cells #[.int .i64 c, .int .i64 n] 76)).drew) rfl (by go_simp) ⟨fun _ => id ((below_alloc w (.cells #[] 76)).trans ((below_alloc (w.alloc (.cells #[] 76)) (.cells #[.int .i64 c, .int .i64 n] 76)).mono (by simp))).drew, ?_⟩)
              · intro oa1 cap1 w1 h1 h2 h3
                have HR1 := Lib.hid h1
                have HB1 := Lib.hid ((below_alloc w _).drew.trans h2)
                clear h1 h2 h3
                refine ⟨fun _ => id HB1.out, ?_⟩
                simp only [Act.put, List.setIfInBounds_toArray, List.set_cons_zero, List.set_cons_succ]
                refine oneL 8 (by kernel_rfl) rfl rfl (wp_runs (some 54) (v := .slice (some ⟨w1.heap.size, 0, none⟩) 1 1) (w' := w1.alloc (.cells #[.int .i64 c, .int .i64 n] 76)) rfl (by go_simp) ⟨fun _ => id (HB1.out.trans ((below_alloc w1 _).mono HB1.out.size)), ?_⟩)
                simp only [Act.put, List.setIfInBounds_toArray, List.set_cons_zero, List.set_cons_succ]
                refine oneL 9 (by kernel_rfl) rfl rfl (wp_append_both (some 55) rfl rfl _ _ 47 rfl w.heap.size 76 i0 (.agg #[.int .i64 0, .int .i64 0]) 2 16 Try.underlying47 hi hz0 hz1 hz2 rfl (by decide) _ (.slice oa1 (0 + (k)) cap1) (0 + (k)) ([] ++ ((L.take k).flatMap encU)) rfl (own_grow HR1.out (below_alloc w1 _)) (some ⟨w1.heap.size, 0, none⟩) (1) (1) ((#[.int .i64 c, .int .i64 n] : Array Value).toList) rfl (fun e => by cases e) rfl (fun ad e => by cases e; exact World.news_of_block (heap_alloc_new w1 _)) (us_one ⟨c, n⟩) (by unfold maxLen; omega) (by omega) (by have := HB1.out.size; simp; omega) ?_)
                intro oa2 cap2 w2 h1 h2 h3
                have HR2 := Lib.hid h1
                have HB2 := Lib.hid ((HB1.out.trans ((below_alloc w1 _).mono HB1.out.size)).trans h2)
                clear h1 h2 h3
                refine ⟨fun _ => id HB2.out, ?_⟩
                simp only [Act.put, List.setIfInBounds_toArray, List.set_cons_zero, List.set_cons_succ]
                refine oneL 13 (by kernel_rfl) rfl rfl (wp_append_both (some 59) rfl rfl _ _ 47 rfl w.heap.size 76 i0 (.agg #[.int .i64 0, .int .i64 0]) 2 16 Try.underlying47 hi hz0 hz1 hz2 rfl (by decide) _ (.slice oa2 (0 + (k) + 1) cap2) (0 + (k) + 1) ([] ++ ((L.take k).flatMap encU) ++ ((#[.int .i64 c, .int .i64 n] : Array Value).toList)) rfl HR2.out (if cap = k then some a else some (a.add (k * 2))) (L.length - k) ((cap - k)) ((L.drop k).flatMap encU) rfl (fun e => by split at e <;> cases e) HL2.out (HW2.out _ HB2.out) (flat_oneU _) (by unfold maxLen; omega) (by omega) HB2.out.size ?_)
                intro oaL capL wL h1 h2 h3
                have HRL : Hid (RowK 76 encU 2 w.heap.size wL (.slice oaL (0 + (k) + 1 + (L.length - k)) capL) (addU L c n)) := Lib.hid (own_row h1 HLN.out)
                have HBL := Lib.hid (HB2.out.trans h2)
                clear h1 h2 h3
                refine ⟨fun _ => id HBL.out, ?_⟩
                simp only [Act.put, List.setIfInBounds_toArray, List.set_cons_zero, List.set_cons_succ]
                generalize (if cap = k then some a else some (a.add (k * 2))) = oD
                generalize 0 + (k) + 1 + (L.length - k) = nL at HRL ⊢
                refine oneL 14 (by kernel_rfl) rfl rfl (wp_runs (some 6) (v := .slice oaL nL capL) (w' := wL) rfl (by go_simp) ⟨fun h => absurd rfl h, ?_⟩)
                simp only [Act.put, List.setIfInBounds_toArray, List.set_cons_zero, List.set_cons_succ]
                refine doneL (by kernel_rfl) ?_
                go_wp2_with fail
                go_ret
                exact ⟨_, rfl, HRL.out.mono HBB.out, HBL.out.mono HBB.out⟩
              · simp only [Act.put, List.setIfInBounds_toArray, List.set_cons_zero, List.set_cons_succ]
                refine oneL 4 (by kernel_rfl) rfl rfl (wp_append_both (some 50) rfl rfl _ _ 47 rfl w.heap.size 76 i0 (.agg #[.int .i64 0, .int .i64 0]) 2 16 Try.underlying47 hi hz0 hz1 hz2 rfl (by decide) _ (.slice (some ⟨w.heap.size, 0, none⟩) 0 0) (0) ([]) rfl (own_grow (own_empty_at (W := w.drew) rfl _ _ _ (Nat.le_refl _)) (below_alloc _ _)) (some a) (k) (cap) ((L.take k).flatMap encU) rfl (fun e => by cases e) HL1.out (HW1.out _ ((below_alloc w (.cells #[] 76)).trans ((below_alloc (w.alloc (.cells #[] 76)) (.cells #[.int .i64 c, .int .i64 n] 76)).mono (by simp))).drew) (flat_oneU _) (by unfold maxLen; omega) (by omega) (by simp; omega) ?_)
                intro oa1 cap1 w1 h1 h2 h3
                have HR1 := Lib.hid h1
                have HX1 : Hid (w1.heap[w.heap.size + 1]? = some (.cells #[.int .i64 c, .int .i64 n] 76)) := Lib.hid ((h3.block _ (by simp) (by simp [Value.ownBlock])).trans (by have := heap_alloc_new (w.alloc (.cells #[] 76)) (.cells #[.int .i64 c, .int .i64 n] 76); rw [show (w.alloc (.cells #[] 76)).heap.size = w.heap.size + 1 by simp] at this; exact this))
                have HB1 := Lib.hid (((below_alloc w (.cells #[] 76)).trans ((below_alloc (w.alloc (.cells #[] 76)) (.cells #[.int .i64 c, .int .i64 n] 76)).mono (by simp))).drew.trans h2)
                clear h1 h2 h3
                refine ⟨fun _ => id HB1.out, ?_⟩
                simp only [Act.put, List.setIfInBounds_toArray, List.set_cons_zero, List.set_cons_succ]
                refine oneL 9 (by kernel_rfl) rfl rfl (wp_append_both (some 55) rfl rfl _ _ 47 rfl w.heap.size 76 i0 (.agg #[.int .i64 0, .int .i64 0]) 2 16 Try.underlying47 hi hz0 hz1 hz2 rfl (by decide) _ (.slice oa1 (0 + (k)) cap1) (0 + (k)) ([] ++ ((L.take k).flatMap encU)) rfl HR1.out (some ⟨w.heap.size + 1, 0, none⟩) (1) (1) ((#[.int .i64 c, .int .i64 n] : Array Value).toList) rfl (fun e => by cases e) rfl (fun ad e => by cases e; exact World.news_of_block HX1.out) (us_one ⟨c, n⟩) (by unfold maxLen; omega) (by omega) HB1.out.size ?_)
                intro oa2 cap2 w2 h1 h2 h3
                have HR2 := Lib.hid h1
                have HB2 := Lib.hid (HB1.out.trans h2)
                clear h1 h2 h3
                refine ⟨fun _ => id HB2.out, ?_⟩
                simp only [Act.put, List.setIfInBounds_toArray, List.set_cons_zero, List.set_cons_succ]
                refine oneL 13 (by kernel_rfl) rfl rfl (wp_append_both (some 59) rfl rfl _ _ 47 rfl w.heap.size 76 i0 (.agg #[.int .i64 0, .int .i64 0]) 2 16 Try.underlying47 hi hz0 hz1 hz2 rfl (by decide) _ (.slice oa2 (0 + (k) + 1) cap2) (0 + (k) + 1) ([] ++ ((L.take k).flatMap encU) ++ ((#[.int .i64 c, .int .i64 n] : Array Value).toList)) rfl HR2.out (if cap = k then some a else some (a.add (k * 2))) (L.length - k) ((cap - k)) ((L.drop k).flatMap encU) rfl (fun e => by split at e <;> cases e) HL2.out (HW2.out _ HB2.out) (flat_oneU _) (by unfold maxLen; omega) (by omega) HB2.out.size ?_)
                intro oaL capL wL h1 h2 h3
                have HRL : Hid (RowK 76 encU 2 w.heap.size wL (.slice oaL (0 + (k) + 1 + (L.length - k)) capL) (addU L c n)) := Lib.hid (own_row h1 HLN.out)
                have HBL := Lib.hid (HB2.out.trans h2)
                clear h1 h2 h3
                refine ⟨fun _ => id HBL.out, ?_⟩
                simp only [Act.put, List.setIfInBounds_toArray, List.set_cons_zero, List.set_cons_succ]
                generalize (if cap = k then some a else some (a.add (k * 2))) = oD
                generalize 0 + (k) + 1 + (L.length - k) = nL at HRL ⊢
                refine oneL 14 (by kernel_rfl) rfl rfl (wp_runs (some 6) (v := .slice oaL nL capL) (w' := wL) rfl (by go_simp) ⟨fun h => absurd rfl h, ?_⟩)
                simp only [Act.put, List.setIfInBounds_toArray, List.set_cons_zero, List.set_cons_succ]
                refine doneL (by kernel_rfl) ?_
                go_wp2_with fail
                go_ret
                exact ⟨_, rfl, HRL.out.mono HBB.out, HBL.out.mono HBB.out⟩
            · simp only [Act.put, List.setIfInBounds_toArray, List.set_cons_zero, List.set_cons_succ]
              refine oneL 0 (by kernel_rfl) rfl rfl (wp_runs (some 46) (v := .slice (some ⟨w.heap.size + 1, 0, none⟩) 0 0) (w' := ((w.alloc (.cells #[.int .i64 c, .int .i64 n] 76)).alloc (.cells #[] 76)).drew) rfl (by go_simp) ⟨fun _ => id ((below_alloc w (.cells #[.int .i64 c, .int .i64 n] 76)).trans ((below_alloc (w.alloc (.cells #[.int .i64 c, .int .i64 n] 76)) (.cells #[] 76)).mono (by simp))).drew, ?_⟩)
              simp only [Act.put, List.setIfInBounds_toArray, List.set_cons_zero, List.set_cons_succ]
              refine oneL 4 (by kernel_rfl) rfl rfl (wp_append_both (some 50) rfl rfl _ _ 47 rfl w.heap.size 76 i0 (.agg #[.int .i64 0, .int .i64 0]) 2 16 Try.underlying47 hi hz0 hz1 hz2 rfl (by decide) _ (.slice (some ⟨w.heap.size + 1, 0, none⟩) 0 0) (0) ([]) rfl (own_empty_at (W := (w.alloc (.cells #[.int .i64 c, .int .i64 n] 76)).drew) (by simp) _ _ _ (by omega)) (some a) (k) (cap) ((L.take k).flatMap encU) rfl (fun e => by cases e) HL1.out (HW1.out _ ((below_alloc w (.cells #[.int .i64 c, .int .i64 n] 76)).trans ((below_alloc (w.alloc (.cells #[.int .i64 c, .int .i64 n] 76)) (.cells #[] 76)).mono (by simp))).drew) (flat_oneU _) (by unfold maxLen; omega) (by omega) (by simp; omega) ?_)
              intro oa1 cap1 w1 h1 h2 h3
              have HR1 := Lib.hid h1
              have HX1 : Hid (w1.heap[w.heap.size]? = some (.cells #[.int .i64 c, .int .i64 n] 76)) := Lib.hid ((h3.block _ (by simp; omega) (by simp [Value.ownBlock])).trans ((Below.heap_alloc (w.alloc (.cells #[.int .i64 c, .int .i64 n] 76)) (.cells #[] 76) _ (by simp)).trans (heap_alloc_new w _)))
              have HB1 := Lib.hid (((below_alloc w (.cells #[.int .i64 c, .int .i64 n] 76)).trans ((below_alloc (w.alloc (.cells #[.int .i64 c, .int .i64 n] 76)) (.cells #[] 76)).mono (by simp))).drew.trans h2)
              clear h1 h2 h3
              refine ⟨fun _ => id HB1.out, ?_⟩
              simp only [Act.put, List.setIfInBounds_toArray, List.set_cons_zero, List.set_cons_succ]
              refine oneL 9 (by kernel_rfl) rfl rfl (wp_append_both (some 55) rfl rfl _ _ 47 rfl w.heap.size 76 i0 (.agg #[.int .i64 0, .int .i64 0]) 2 16 Try.underlying47 hi hz0 hz1 hz2 rfl (by decide) _ (.slice oa1 (0 + (k)) cap1) (0 + (k)) ([] ++ ((L.take k).flatMap encU)) rfl HR1.out (some ⟨w.heap.size, 0, none⟩) (1) (1) ((#[.int .i64 c, .int .i64 n] : Array Value).toList) rfl (fun e => by cases e) rfl (fun ad e => by cases e; exact World.news_of_block HX1.out) (us_one ⟨c, n⟩) (by unfold maxLen; omega) (by omega) HB1.out.size ?_)
              intro oa2 cap2 w2 h1 h2 h3
              have HR2 := Lib.hid h1
              have HB2 := Lib.hid (HB1.out.trans h2)
              clear h1 h2 h3
              refine ⟨fun _ => id HB2.out, ?_⟩
              simp only [Act.put, List.setIfInBounds_toArray, List.set_cons_zero, List.set_cons_succ]
              refine oneL 13 (by kernel_rfl) rfl rfl (wp_append_both (some 59) rfl rfl _ _ 47 rfl w.heap.size 76 i0 (.agg #[.int .i64 0, .int .i64 0]) 2 16 Try.underlying47 hi hz0 hz1 hz2 rfl (by decide) _ (.slice oa2 (0 + (k) + 1) cap2) (0 + (k) + 1) ([] ++ ((L.take k).flatMap encU) ++ ((#[.int .i64 c, .int .i64 n] : Array Value).toList)) rfl HR2.out (if cap = k then some a else some (a.add (k * 2))) (L.length - k) ((cap - k)) ((L.drop k).flatMap encU) rfl (fun e => by split at e <;> cases e) HL2.out (HW2.out _ HB2.out) (flat_oneU _) (by unfold maxLen; omega) (by omega) HB2.out.size ?_)
              intro oaL capL wL h1 h2 h3
              have HRL : Hid (RowK 76 encU 2 w.heap.size wL (.slice oaL (0 + (k) + 1 + (L.length - k)) capL) (addU L c n)) := Lib.hid (own_row h1 HLN.out)
              have HBL := Lib.hid (HB2.out.trans h2)
              clear h1 h2 h3
              refine ⟨fun _ => id HBL.out, ?_⟩
              simp only [Act.put, List.setIfInBounds_toArray, List.set_cons_zero, List.set_cons_succ]
              generalize (if cap = k then some a else some (a.add (k * 2))) = oD
              generalize 0 + (k) + 1 + (L.length - k) = nL at HRL ⊢
              refine oneL 14 (by kernel_rfl) rfl rfl (wp_runs (some 6) (v := .slice oaL nL capL) (w' := wL) rfl (by go_simp) ⟨fun h => absurd rfl h, ?_⟩)
              simp only [Act.put, List.setIfInBounds_toArray, List.set_cons_zero, List.set_cons_succ]
              refine doneL (by kernel_rfl) ?_
              go_wp2_with fail
              go_ret
              exact ⟨_, rfl, HRL.out.mono HBB.out, HBL.out.mono HBB.out⟩
          · have hlt2 : ¬ ((k : Int) < (L.length : Int)) := by omega
            clear hI hl hke hk hgo
            go_wp2_with fail
            have HS0 : Hid (Below w.heap.size w w.drew) := Lib.hid (Below.refl w.heap.size w).drew
            have HS0 := Lib.hid (id (Below.refl w.heap.size w).drew)
            refine regionL 14 15 (fun w' => Below w.heap.size w w') (by kernel_rfl) rfl ?_
            refine takeL 1 (some 47) (v := ?_) rfl (by kernel_rfl) (by kernel_rfl) (by kernel_rfl) (by kernel_rfl) (fun _ _ _ h => h) rfl rfl HS0.out ?_ ?_
            rotate_left
            · intro wq hq
              have g0 := hq
              go_simp
              with_reducible rfl
            simp only [Act.put, List.setIfInBounds_toArray, List.set_cons_zero, List.set_cons_succ]
            refine takeL 2 (some 48) (v := ?_) rfl (by kernel_rfl) (by kernel_rfl) (by kernel_rfl) (by kernel_rfl) (fun _ _ _ h => h) rfl rfl HS0.out ?_ ?_
            rotate_left
            · intro wq hq
              have g0 := hq
              go_simp
              with_reducible rfl
            simp only [Act.put, List.setIfInBounds_toArray, List.set_cons_zero, List.set_cons_succ]
            refine takeL 3 (some 49) (v := ?_) rfl (by kernel_rfl) (by kernel_rfl) (by kernel_rfl) (by kernel_rfl) (fun _ _ _ h => h) rfl rfl HS0.out ?_ ?_
            rotate_left
            · intro wq hq
              have g0 := hq
              go_simp
              with_reducible rfl
            simp only [Act.put, List.setIfInBounds_toArray, List.set_cons_zero, List.set_cons_succ]
            refine takeL 5 (some 51) (v := ?_) rfl (by kernel_rfl) (by kernel_rfl) (by kernel_rfl) (by kernel_rfl) (fun _ _ _ h => h) rfl rfl HS0.out ?_ ?_
            rotate_left
            · intro wq hq
              have g0 := hq
              go_simp
              with_reducible rfl
            simp only [Act.put, List.setIfInBounds_toArray, List.set_cons_zero, List.set_cons_succ]
            refine takeL 6 (some 52) (v := ?_) rfl (by kernel_rfl) (by kernel_rfl) (by kernel_rfl) (by kernel_rfl) (fun _ _ _ h => h) rfl rfl HS0.out ?_ ?_
            rotate_left
            · intro wq hq
              have g0 := hq
              go_simp
              with_reducible rfl
            simp only [Act.put, List.setIfInBounds_toArray, List.set_cons_zero, List.set_cons_succ]
            refine takeL 7 (some 53) (v := ?_) rfl (by kernel_rfl) (by kernel_rfl) (by kernel_rfl) (by kernel_rfl) (fun _ _ _ h => h) rfl rfl HS0.out ?_ ?_
            rotate_left
            · intro wq hq
              have g0 := hq
              go_simp
              with_reducible rfl
            simp only [Act.put, List.setIfInBounds_toArray, List.set_cons_zero, List.set_cons_succ]
            refine takeL 10 (some 56) (v := ?_) rfl (by kernel_rfl) (by kernel_rfl) (by kernel_rfl) (by kernel_rfl) (fun _ _ _ h => h) rfl rfl HS0.out ?_ ?_
            rotate_left
            · intro wq hq
              have g0 := hq
              go_simp
              with_reducible rfl
            simp only [Act.put, List.setIfInBounds_toArray, List.set_cons_zero, List.set_cons_succ]
            refine takeL 11 (some 57) (v := ?_) rfl (by kernel_rfl) (by kernel_rfl) (by kernel_rfl) (by kernel_rfl) (fun _ _ _ h => h) rfl rfl HS0.out ?_ ?_
            rotate_left
            · intro wq hq
              have g0 := hq
              go_simp
              with_reducible rfl
            simp only [Act.put, List.setIfInBounds_toArray, List.set_cons_zero, List.set_cons_succ]
            refine takeL 12 (some 58) (v := ?_) rfl (by kernel_rfl) (by kernel_rfl) (by kernel_rfl) (by kernel_rfl) (fun _ _ _ h => h) rfl rfl HS0.out ?_ ?_
            rotate_left
            · intro wq hq
              have g0 := hq
              go_simp
              with_reducible rfl
            simp only [Act.put, List.setIfInBounds_toArray, List.set_cons_zero, List.set_cons_succ]
            refine twoL 0 8 (by kernel_rfl) rfl rfl rfl rfl (wp_runs (some 46) (v := .slice (some ⟨w.heap.size, 0, none⟩) 0 0) (w' := (w.alloc (.cells #[] 76)).drew) rfl (by go_simp) ⟨fun _ => id (below_alloc w _).drew, ?_⟩) (wp_runs (some 54) (v := .slice (some ⟨w.heap.size, 0, none⟩) 1 1) (w' := (w.alloc (.cells #[.int .i64 c, .int .i64 n] 76)).drew) rfl (by go_simp) ⟨fun _ => id (below_alloc w _).drew, ?_⟩)
            · simp only [Act.put, List.setIfInBounds_toArray, List.set_cons_zero, List.set_cons_succ]
              refine twoL 4 8 (by kernel_rfl) rfl rfl rfl rfl (wp_append_both (some 50) rfl rfl _ _ 47 rfl w.heap.size 76 i0 (.agg #[.int .i64 0, .int .i64 0]) 2 16 Try.underlying47 hi hz0 hz1 hz2 rfl (by decide) _ (.slice (some ⟨w.heap.size, 0, none⟩) 0 0) (0) ([]) rfl (own_empty_at (W := w.drew) rfl _ _ _ (Nat.le_refl _)) (some a) (k) (cap) ((L.take k).flatMap encU) rfl (fun e => by cases e) HL1.out (HW1.out _ (below_alloc w _).drew) (flat_oneU _) (by unfold maxLen; omega) (by omega) (below_alloc w _).drew.size ?_) (wp_runs (some 54) (v := .slice (some ⟨w.heap.size + 1, 0, none⟩) 1 1) (w' := ((w.alloc (.cells #[] 76)).alloc (.cells #[.int .i64 c, .int .i64 n] 76)).drew) rfl (by go_simp) ⟨fun _ => id ((below_alloc w (.cells #[] 76)).trans ((below_alloc (w.alloc (.cells #[] 76)) (.cells #[.int .i64 c, .int .i64 n] 76)).mono (by simp))).drew, ?_⟩)
              · intro oa1 cap1 w1 h1 h2 h3
                have HR1 := Lib.hid h1
                have HB1 := Lib.hid ((below_alloc w _).drew.trans h2)
                clear h1 h2 h3
                refine ⟨fun _ => id HB1.out, ?_⟩
                simp only [Act.put, List.setIfInBounds_toArray, List.set_cons_zero, List.set_cons_succ]
                refine oneL 8 (by kernel_rfl) rfl rfl (wp_runs (some 54) (v := .slice (some ⟨w1.heap.size, 0, none⟩) 1 1) (w' := w1.alloc (.cells #[.int .i64 c, .int .i64 n] 76)) rfl (by go_simp) ⟨fun _ => id (HB1.out.trans ((below_alloc w1 _).mono HB1.out.size)), ?_⟩)
                simp only [Act.put, List.setIfInBounds_toArray, List.set_cons_zero, List.set_cons_succ]
                refine oneL 9 (by kernel_rfl) rfl rfl (wp_append_both (some 55) rfl rfl _ _ 47 rfl w.heap.size 76 i0 (.agg #[.int .i64 0, .int .i64 0]) 2 16 Try.underlying47 hi hz0 hz1 hz2 rfl (by decide) _ (.slice oa1 (0 + (k)) cap1) (0 + (k)) ([] ++ ((L.take k).flatMap encU)) rfl (own_grow HR1.out (below_alloc w1 _)) (some ⟨w1.heap.size, 0, none⟩) (1) (1) ((#[.int .i64 c, .int .i64 n] : Array Value).toList) rfl (fun e => by cases e) rfl (fun ad e => by cases e; exact World.news_of_block (heap_alloc_new w1 _)) (us_one ⟨c, n⟩) (by unfold maxLen; omega) (by omega) (by have := HB1.out.size; simp; omega) ?_)
                intro oa2 cap2 w2 h1 h2 h3
                have HR2 := Lib.hid h1
                have HB2 := Lib.hid ((HB1.out.trans ((below_alloc w1 _).mono HB1.out.size)).trans h2)
                clear h1 h2 h3
                refine ⟨fun _ => id HB2.out, ?_⟩
                simp only [Act.put, List.setIfInBounds_toArray, List.set_cons_zero, List.set_cons_succ]
                refine oneL 13 (by kernel_rfl) rfl rfl (wp_append_both (some 59) rfl rfl _ _ 47 rfl w.heap.size 76 i0 (.agg #[.int .i64 0, .int .i64 0]) 2 16 Try.underlying47 hi hz0 hz1 hz2 rfl (by decide) _ (.slice oa2 (0 + (k) + 1) cap2) (0 + (k) + 1) ([] ++ ((L.take k).flatMap encU) ++ ((#[.int .i64 c, .int .i64 n] : Array Value).toList)) rfl HR2.out (if cap = k then some a else some (a.add (k * 2))) (L.length - k) ((cap - k)) ((L.drop k).flatMap encU) rfl (fun e => by split at e <;> cases e) HL2.out (HW2.out _ HB2.out) (flat_oneU _) (by unfold maxLen; omega) (by omega) HB2.out.size ?_)
                intro oaL capL wL h1 h2 h3
                have HRL : Hid (RowK 76 encU 2 w.heap.size wL (.slice oaL (0 + (k) + 1 + (L.length - k)) capL) (addU L c n)) := Lib.hid (own_row h1 HLN.out)
                have HBL := Lib.hid (HB2.out.trans h2)
                clear h1 h2 h3
                refine ⟨fun _ => id HBL.out, ?_⟩
                simp only [Act.put, List.setIfInBounds_toArray, List.set_cons_zero, List.set_cons_succ]
                generalize (if cap = k then some a else some (a.add (k * 2))) = oD
                generalize 0 + (k) + 1 + (L.length - k) = nL at HRL ⊢
                refine oneL 14 (by kernel_rfl) rfl rfl (wp_runs (some 6) (v := .slice oaL nL capL) (w' := wL) rfl (by go_simp) ⟨fun h => absurd rfl h, ?_⟩)
                simp only [Act.put, List.setIfInBounds_toArray, List.set_cons_zero, List.set_cons_succ]
                refine doneL (by kernel_rfl) ?_
                go_wp2_with fail
                go_ret
                exact ⟨_, rfl, HRL.out.mono HBB.out, HBL.out.mono HBB.out⟩
              · simp only [Act.put, List.setIfInBounds_toArray, List.set_cons_zero, List.set_cons_succ]
                refine oneL 4 (by kernel_rfl) rfl rfl (wp_append_both (some 50) rfl rfl _ _ 47 rfl w.heap.size 76 i0 (.agg #[.int .i64 0, .int .i64 0]) 2 16 Try.underlying47 hi hz0 hz1 hz2 rfl (by decide) _ (.slice (some ⟨w.heap.size, 0, none⟩) 0 0) (0) ([]) rfl (own_grow (own_empty_at (W := w.drew) rfl _ _ _ (Nat.le_refl _)) (below_alloc _ _)) (some a) (k) (cap) ((L.take k).flatMap encU) rfl (fun e => by cases e) HL1.out (HW1.out _ ((below_alloc w (.cells #[] 76)).trans ((below_alloc (w.alloc (.cells #[] 76)) (.cells #[.int .i64 c, .int .i64 n] 76)).mono (by simp))).drew) (flat_oneU _) (by unfold maxLen; omega) (by omega) (by simp; omega) ?_)
                intro oa1 cap1 w1 h1 h2 h3
                have HR1 := Lib.hid h1
                have HX1 : Hid (w1.heap[w.heap.size + 1]? = some (.cells #[.int .i64 c, .int .i64 n] 76)) := Lib.hid ((h3.block _ (by simp) (by simp [Value.ownBlock])).trans (by have := heap_alloc_new (w.alloc (.cells #[] 76)) (.cells #[.int .i64 c, .int .i64 n] 76); rw [show (w.alloc (.cells #[] 76)).heap.size = w.heap.size + 1 by simp] at this; exact this))
                have HB1 := Lib.hid (((below_alloc w (.cells #[] 76)).trans ((below_alloc (w.alloc (.cells #[] 76)) (.cells #[.int .i64 c, .int .i64 n] 76)).mono (by simp))).drew.trans h2)
                clear h1 h2 h3
                refine ⟨fun _ => id HB1.out, ?_⟩
                simp only [Act.put, List.setIfInBounds_toArray, List.set_cons_zero, List.set_cons_succ]
                refine oneL 9 (by kernel_rfl) rfl rfl (wp_append_both (some 55) rfl rfl _ _ 47 rfl w.heap.size 76 i0 (.agg #[.int .i64 0, .int .i64 0]) 2 16 Try.underlying47 hi hz0 hz1 hz2 rfl (by decide) _ (.slice oa1 (0 + (k)) cap1) (0 + (k)) ([] ++ ((L.take k).flatMap encU)) rfl HR1.out (some ⟨w.heap.size + 1, 0, none⟩) (1) (1) ((#[.int .i64 c, .int .i64 n] : Array Value).toList) rfl (fun e => by cases e) rfl (fun ad e => by cases e; exact World.news_of_block HX1.out) (us_one ⟨c, n⟩) (by unfold maxLen; omega) (by omega) HB1.out.size ?_)
                intro oa2 cap2 w2 h1 h2 h3
                have HR2 := Lib.hid h1
                have HB2 := Lib.hid (HB1.out.trans h2)
                clear h1 h2 h3
                refine ⟨fun _ => id HB2.out, ?_⟩
                simp only [Act.put, List.setIfInBounds_toArray, List.set_cons_zero, List.set_cons_succ]
                refine oneL 13 (by kernel_rfl) rfl rfl (wp_append_both (some 59) rfl rfl _ _ 47 rfl w.heap.size 76 i0 (.agg #[.int .i64 0, .int .i64 0]) 2 16 Try.underlying47 hi hz0 hz1 hz2 rfl (by decide) _ (.slice oa2 (0 + (k) + 1) cap2) (0 + (k) + 1) ([] ++ ((L.take k).flatMap encU) ++ ((#[.int .i64 c, .int .i64 n] : Array Value).toList)) rfl HR2.out (if cap = k then some a else some (a.add (k * 2))) (L.length - k) ((cap - k)) ((L.drop k).flatMap encU) rfl (fun e => by split at e <;> cases e) HL2.out (HW2.out _ HB2.out) (flat_oneU _) (by unfold maxLen; omega) (by omega) HB2.out.size ?_)
                intro oaL capL wL h1 h2 h3
                have HRL : Hid (RowK 76 encU 2 w.heap.size wL (.slice oaL (0 + (k) + 1 + (L.length - k)) capL) (addU L c n)) := Lib.hid (own_row h1 HLN.out)
                have HBL := Lib.hid (HB2.out.trans h2)
                clear h1 h2 h3
                refine ⟨fun _ => id HBL.out, ?_⟩
                simp only [Act.put, List.setIfInBounds_toArray, List.set_cons_zero, List.set_cons_succ]
                generalize (if cap = k then some a else some (a.add (k * 2))) = oD
                generalize 0 + (k) + 1 + (L.length - k) = nL at HRL ⊢
                refine oneL 14 (by kernel_rfl) rfl rfl (wp_runs (some 6) (v := .slice oaL nL capL) (w' := wL) rfl (by go_simp) ⟨fun h => absurd rfl h, ?_⟩)
                simp only [Act.put, List.setIfInBounds_toArray, List.set_cons_zero, List.set_cons_succ]
                refine doneL (by kernel_rfl) ?_
                go_wp2_with fail
                go_ret
                exact ⟨_, rfl, HRL.out.mono HBB.out, HBL.out.mono HBB.out⟩
            · simp only [Act.put, List.setIfInBounds_toArray, List.set_cons_zero, List.set_cons_succ]
              refine oneL 0 (by kernel_rfl) rfl rfl (wp_runs (some 46) (v := .slice (some ⟨w.heap.size + 1, 0, none⟩) 0 0) (w' := ((w.alloc (.cells #[.int .i64 c, .int .i64 n] 76)).alloc (.cells #[] 76)).drew) rfl (by go_simp) ⟨fun _ => id ((below_alloc w (.cells #[.int .i64 c, .int .i64 n] 76)).trans ((below_alloc (w.alloc (.cells #[.int .i64 c, .int .i64 n] 76)) (.cells #[] 76)).mono (by simp))).drew, ?_⟩)
              simp only [Act.put, List.setIfInBounds_toArray, List.set_cons_zero, List.set_cons_succ]
              refine oneL 4 (by kernel_rfl) rfl rfl (wp_append_both (some 50) rfl rfl _ _ 47 rfl w.heap.size 76 i0 (.agg #[.int .i64 0, .int .i64 0]) 2 16 Try.underlying47 hi hz0 hz1 hz2 rfl (by decide) _ (.slice (some ⟨w.heap.size + 1, 0, none⟩) 0 0) (0) ([]) rfl (own_empty_at (W := (w.alloc (.cells #[.int .i64 c, .int .i64 n] 76)).drew) (by simp) _ _ _ (by omega)) (some a) (k) (cap) ((L.take k).flatMap encU) rfl (fun e => by cases e) HL1.out (HW1.out _ ((below_alloc w (.cells #[.int .i64 c, .int .i64 n] 76)).trans ((below_alloc (w.alloc (.cells #[.int .i64 c, .int .i64 n] 76)) (.cells #[] 76)).mono (by simp))).drew) (flat_oneU _) (by unfold maxLen; omega) (by omega) (by simp; omega) ?_)
              intro oa1 cap1 w1 h1 h2 h3
              have HR1 := Lib.hid h1
              have HX1 : Hid (w1.heap[w.heap.size]? = some (.cells #[.int .i64 c, .int .i64 n] 76)) := Lib.hid ((h3.block _ (by simp; omega) (by simp [Value.ownBlock])).trans ((Below.heap_alloc (w.alloc (.cells #[.int .i64 c, .int .i64 n] 76)) (.cells #[] 76) _ (by simp)).trans (heap_alloc_new w _)))
              have HB1 := Lib.hid (((below_alloc w (.cells #[.int .i64 c, .int .i64 n] 76)).trans ((below_alloc (w.alloc (.cells #[.int .i64 c, .int .i64 n] 76)) (.cells #[] 76)).mono (by simp))).drew.trans h2)
              clear h1 h2 h3
              refine ⟨fun _ => id HB1.out, ?_⟩
              simp only [Act.put, List.setIfInBounds_toArray, List.set_cons_zero, List.set_cons_succ]
              refine oneL 9 (by kernel_rfl) rfl rfl (wp_append_both (some 55) rfl rfl _ _ 47 rfl w.heap.size 76 i0 (.agg #[.int .i64 0, .int .i64 0]) 2 16 Try.underlying47 hi hz0 hz1 hz2 rfl (by decide) _ (.slice oa1 (0 + (k)) cap1) (0 + (k)) ([] ++ ((L.take k).flatMap encU)) rfl HR1.out (some ⟨w.heap.size, 0, none⟩) (1) (1) ((#[.int .i64 c, .int .i64 n] : Array Value).toList) rfl (fun e => by cases e) rfl (fun ad e => by cases e; exact World.news_of_block HX1.out) (us_one ⟨c, n⟩) (by unfold maxLen; omega) (by omega) HB1.out.size ?_)
              intro oa2 cap2 w2 h1 h2 h3
              have HR2 := Lib.hid h1
              have HB2 := Lib.hid (HB1.out.trans h2)
              clear h1 h2 h3
              refine ⟨fun _ => id HB2.out, ?_⟩
              simp only [Act.put, List.setIfInBounds_toArray, List.set_cons_zero, List.set_cons_succ]
              refine oneL 13 (by kernel_rfl) rfl rfl (wp_append_both (some 59) rfl rfl _ _ 47 rfl w.heap.size 76 i0 (.agg #[.int .i64 0, .int .i64 0]) 2 16 Try.underlying47 hi hz0 hz1 hz2 rfl (by decide) _ (.slice oa2 (0 + (k) + 1) cap2) (0 + (k) + 1) ([] ++ ((L.take k).flatMap encU) ++ ((#[.int .i64 c, .int .i64 n] : Array Value).toList)) rfl HR2.out (if cap = k then some a else some (a.add (k * 2))) (L.length - k) ((cap - k)) ((L.drop k).flatMap encU) rfl (fun e => by split at e <;> cases e) HL2.out (HW2.out _ HB2.out) (flat_oneU _) (by unfold maxLen; omega) (by omega) HB2.out.size ?_)
              intro oaL capL wL h1 h2 h3
              have HRL : Hid (RowK 76 encU 2 w.heap.size wL (.slice oaL (0 + (k) + 1 + (L.length - k)) capL) (addU L c n)) := Lib.hid (own_row h1 HLN.out)
              have HBL := Lib.hid (HB2.out.trans h2)
              clear h1 h2 h3
              refine ⟨fun _ => id HBL.out, ?_⟩
              simp only [Act.put, List.setIfInBounds_toArray, List.set_cons_zero, List.set_cons_succ]
              generalize (if cap = k then some a else some (a.add (k * 2))) = oD
              generalize 0 + (k) + 1 + (L.length - k) = nL at HRL ⊢
              refine oneL 14 (by kernel_rfl) rfl rfl (wp_runs (some 6) (v := .slice oaL nL capL) (w' := wL) rfl (by go_simp) ⟨fun h => absurd rfl h, ?_⟩)
              simp only [Act.put, List.setIfInBounds_toArray, List.set_cons_zero, List.set_cons_succ]
              refine doneL (by kernel_rfl) ?_
              go_wp2_with fail
              go_ret
              exact ⟨_, rfl, HRL.out.mono HBB.out, HBL.out.mono HBB.out⟩
end Go.Proofs.Ytaaecdijbkkoiaa.LivW

/- The document's Addrs, Segments, Oldest, Safe. -/
namespace Go.Proofs.Ytaaecdijbkkoiaa.LivW
set_option maxRecDepth 100000
open Go.RowKit LivP InoP InoW ExtW
variable {xs : List Ino} {zs : List IV} {oq : Option Addr}
set_option maxHeartbeats 6400000 in
theorem raddrs_any (qb cq : Nat) (w : World) (hx : ∀ x ∈ xs, IGood x) (hn : xs.length ≤ 64) (hl : IList w oq xs zs) (h0 : w.cell? ⟨qb, 0, none⟩ = some (.slice oq xs.length cq)) :
    Calls Try.prog 15 #[.pointer (some ⟨qb, 0, none⟩)] w fun e w' => ∃ v, e = .returned v ∧ RowK 76 encU 2 w.heap.size w' v (allU xs) ∧ Below w.heap.size w w' := by
  have HX := Lib.hid hx
  have HL := Lib.hid hl
  have H0 := Lib.hid h0
  have hlen := hl.read.1
  have HOK : Hid (∀ k, Okay (allU (xs.take k)) (64 * (xs.take k).length)) := Lib.hid (fun k => okay_all _ fun x h => hx x (List.mem_of_mem_take h))
  clear hx hl h0
  go_enter Try.func15, Try.ntmps15
  go_wp2_with fail
  go_loopw [3, 4] (fun v i wr => ∃ k : Nat, k ≤ xs.length ∧ i = .int .i64 (k : Int) ∧ RowK 76 encU 2 w.heap.size wr v (allU (xs.take k)) ∧ Below w.heap.size w wr) (fun _ i _ => (xs.length - intOf i).toNat)
  case atStart => exact ⟨0, by omega, rfl, RowK.nil _ _, Below.refl _ _⟩
  case round =>
    obtain ⟨k, hk, rfl, hrow, hbel⟩ := hrel
    have HB := Lib.hid hbel
    have HROW := Lib.hid hrow
    have q0 := cell_step HB.out H0.out
    clear hrow hbel
    by_cases hlt : k < xs.length
    · obtain ⟨x, hx⟩ : ∃ x, xs[k]? = some x := ⟨_, List.getElem?_eq_getElem hlt⟩
      obtain ⟨y, hy⟩ : ∃ y, zs[k]? = some y := ⟨_, List.getElem?_eq_getElem (by omega)⟩
      obtain ⟨yi, yk, yl, yo, ys', ya, yn, yc⟩ := y
      have hr := HL.out.read.2 k x _ hx hy
      obtain rfl : yn = x.p.length := hr.n
      have HPT := Lib.hid hr.pts
      have hgx := HX.out x (List.mem_of_getElem? hx)
      have HON : Hid (∀ z ∈ x.p, One z) := Lib.hid (chain_ones hgx.p.2)
      have HPL : Hid (x.p.length ≤ 64) := Lib.hid hgx.p.1
      have HTK : Hid (allU (xs.take (k + 1)) = partsU (allU (xs.take k)) x.p) := Lib.hid (by rw [List.take_add_one, hx]; exact allU_snoc _ _)
      have HACC := Lib.hid (HOK.out k)
      rw [List.length_take, Nat.min_eq_left hk] at HACC
      have HYZ : Hid (∀ W, Below w.heap.size w W → ∃ a, oq = some a ∧ W.cell? ⟨(a.add (k * 6)).block, (a.add (k * 6)).off + 5, none⟩ = some (.slice ya x.p.length yc)) := Lib.hid (fun W hb => by
        obtain ⟨a, e, _, _, _, _, _, _, c5⟩ := iv_at (HL.out.grow hb).at_ hy
        exact ⟨a, e, c5⟩)
      generalize allU (xs.take k) = A at *
      clear hx hy hr hgx
      go_wp2_with fail
      go_loopw [3, 5] (fun v j w2 => ∃ m : Nat, m ≤ x.p.length ∧ j = .int .i64 (m : Int) ∧ RowK 76 encU 2 w.heap.size w2 v (partsU A (x.p.take m)) ∧ Below w.heap.size w w2) (fun _ j _ => (x.p.length - intOf j).toNat)
      case atStart => exact ⟨0, by omega, rfl, HROW.out, HB.out⟩
      case round =>
        obtain ⟨m, hm, rfl, hrow, hbel⟩ := hrel
        have hpl := HPL.out
        have HB2 := Lib.hid hbel
        have HROW2 := Lib.hid hrow
        obtain ⟨oz, cz, rfl, _⟩ := hrow.form
        have q0 := cell_step HB2.out H0.out
        obtain ⟨a, rfl, c5⟩ := HYZ.out _ HB2.out
        clear hrow hbel
        by_cases hlm : m < x.p.length
        · obtain ⟨z, hz⟩ : ∃ z, x.p[m]? = some z := ⟨_, List.getElem?_eq_getElem hlm⟩
          obtain ⟨ap, rfl, _, d0, d1, d2, d3⟩ := (HPT.out.below HB2.out) m z hz
          have HZ1 := Lib.hid (HON.out z (List.mem_of_getElem? hz))
          have HTM : Hid (partsU A (x.p.take (m + 1)) = addU (partsU A (x.p.take m)) z.a z.n) := Lib.hid (by rw [List.take_add_one, hz]; exact partsU_snoc _ _ _)
          have HAM : Hid (Okay (partsU A (x.p.take m)) (64 * k + m)) := Lib.hid ((okay_parts HACC.out _ (fun z hz => HON.out z (List.mem_of_mem_take hz))).mono (by rw [List.length_take]; omega))
          have HWX := Lib.hid (part_fits HAM.out (by omega) HZ1.out)
          have hcl := HAM.out.len
          generalize partsU A (x.p.take m) = C at *
          clear hz d0 d3
          go_wp2_with fail
          refine wp_region_still_tail 25 (by kernel_rfl) (by kernel_rfl) ?_
          change wpStill _ _ (World.drew _) (fun a' => wpList _ _ _ _ a' (World.drew _)) _ _
          simp only [List.take_succ_cons, List.take_zero, List.drop_succ_cons, List.drop_zero]
          repeat still_step
          refine wpStill_nil ?_
          go_wp2_with (go_at_call 32; go_loud (refine (rput_any w.heap.size _ C z.a z.n _ HAM.out.rises (HROW2.out.grow (Below.refl _ _).drew) (by have := HB2.out.size; exact this) (by omega) HWX.out).mono ?_; rintro e w5 ⟨v5, rfl, hr5, hb5⟩; have HR5 := Lib.hid hr5; have HB5 := Lib.hid hb5; clear hr5 hb5))
          exact ⟨⟨m + 1, by omega, by simp, by rw [HTM.out]; exact HR5.out, HB2.out.drew.trans HB5.out⟩, by simp [intOf]; omega⟩
        · obtain rfl : m = x.p.length := by omega
          rw [List.take_length] at HROW2 ⊢
          go_wp2_with fail
          exact ⟨⟨k + 1, by omega, by simp, by rw [HTK.out]; exact HROW2.out, HB2.out⟩, by simp [intOf]; omega⟩
    · obtain rfl : k = xs.length := by omega
      rw [List.take_length] at HROW
      go_wp2_with fail
      go_ret
      exact ⟨_, rfl, HROW.out, HB.out⟩
set_option maxHeartbeats 1600000 in
theorem roldest_any (next : Int) (qb cq : Nat) (w : World) (hx : ∀ x ∈ xs, IGood x) (hn : xs.length ≤ 64) (hl : IList w oq xs zs) (h0 : w.cell? ⟨qb, 0, none⟩ = some (.slice oq xs.length cq)) :
    Calls Try.prog 16 #[.pointer (some ⟨qb, 0, none⟩), .int .i64 next] w fun e w' => e = .returned (.int .i64 (oldE (allU xs) next)) ∧ Below w.heap.size w w' := by
  have HC := Lib.hid (raddrs_any qb cq w hx hn hl h0)
  clear hx hl h0
  generalize allU xs = A at *
  match A with
  | [] =>
    have HE : Hid (oldE [] next = next) := Lib.hid rfl
    go_enter Try.func16, Try.ntmps16
    go_wp2_with (go_at_call 15; refine HC.out.mono ?_; rintro e w1 ⟨v, rfl, hr1, hb1⟩; obtain ⟨oa, cap, rfl, hc, hc2, hnone⟩ := hr1.form; have HB1 := Lib.hid hb1; clear hr1 hnone hb1 hc hc2; simp only [List.length_nil])
    go_ret
    exact ⟨ret_int HE.out.symm, HB1.out⟩
  | u :: A =>
    have HE : Hid (oldE (u :: A) next = min u.a next) := Lib.hid rfl
    have hl : (0 : Int) < (A.length : Int) + 1 := by omega
    go_enter Try.func16, Try.ntmps16
    go_wp2_with (go_at_call 15; refine HC.out.mono ?_; rintro e w1 ⟨v, rfl, hr1, hb1⟩; obtain ⟨oa, cap, rfl, hc, hc2, hnone⟩ := hr1.form; have HB1 := Lib.hid hb1; obtain ⟨g, rfl, hab, _, hcc⟩ := RowK.at us_len (by omega) hr1 (i := 0) rfl; have c0 := hcc 0 _ rfl; simp only [Nat.zero_mul, Nat.add_zero, List.length_cons] at c0 ⊢; clear hr1 hnone hb1 hc hc2 hcc hab)
    go_ret
    exact ⟨ret_int HE.out.symm, HB1.out⟩
set_option maxHeartbeats 400000 in
theorem rsafe_any (i o : Int) (w : World) : Calls Try.prog 13 #[.int .i64 i, .int .i64 o] w fun e w' => e = .returned (.int .i64 (safeE i o)) ∧ w = w' := by
  have HE : Hid (max 0 (min i o) = safeE i o) := Lib.hid (by unfold safeE; omega)
  go_enter Try.func13, Try.ntmps13
  go_wp2_with fail
  go_ret
  exact ⟨ret_int HE.out, rfl⟩
set_option maxHeartbeats 6400000 in
theorem rsegs_any (size : Int) (qb cq : Nat) (w : World) (hx : ∀ x ∈ xs, IGood x) (hn : xs.length ≤ 64) (hA : Fine (allU xs)) (hl : IList w oq xs zs) (h0 : w.cell? ⟨qb, 0, none⟩ = some (.slice oq xs.length cq)) :
    Calls Try.prog 17 #[.pointer (some ⟨qb, 0, none⟩), .int .i64 size] w fun e w' => ∃ v, e = .returned v ∧ RowK 76 encU 2 w.heap.size w' v (segL size (allU xs)) ∧ Below w.heap.size w w' := by
  have HC := Lib.hid (raddrs_any qb cq w hx hn hl h0)
  have HF := Lib.hid hA
  clear hx hl h0 hA
  generalize allU xs = A at *
  by_cases hs : size < 1
  · have HE : Hid (segL size A = []) := Lib.hid (if_pos hs)
    have hs2 : decide (1 ≤ size) = false := decide_eq_false (by omega)
    clear hs
    go_enter Try.func17, Try.ntmps17
    go_wp2_with (go_at_call 15; refine HC.out.mono ?_; rintro e w1 ⟨v, rfl, hr1, hb1⟩; obtain ⟨oa, cap, rfl, hc, hc2, hnone⟩ := hr1.form; have HB1 := Lib.hid hb1; clear hr1 hnone hb1 hc hc2)
    go_loopw [5, 7] (fun v i wr => v = .slice none 0 0 ∧ i = .int .i64 0 ∧ wr = w1) (fun _ _ _ => 0)
    case atStart => exact ⟨rfl, rfl, rfl⟩
    case round =>
      obtain ⟨rfl, rfl, rfl⟩ := hrel
      by_cases h0 : 0 < A.length
      · go_wp2_with fail
        go_ret
        exact ⟨_, rfl, by rw [HE.out]; exact RowK.nil _ _, HB1.out⟩
      · go_wp2_with fail
        go_ret
        exact ⟨_, rfl, by rw [HE.out]; exact RowK.nil _ _, HB1.out⟩
  have HE : Hid (segL size A = segF size A) := Lib.hid (if_neg hs)
  have HSZ : Hid (1 ≤ size) := Lib.hid (by omega)
  go_enter Try.func17, Try.ntmps17
  go_wp2_with (go_at_call 15; refine HC.out.mono ?_; rintro e w1 ⟨v, rfl, hr1, hb1⟩; obtain ⟨oa, cap, rfl, hc, hc2, hnone⟩ := hr1.form; have HR1 := Lib.hid hr1; have HB1 := Lib.hid hb1; clear hr1 hnone hb1 hc hc2)
  have hal := HF.out.len
  go_loopw [5, 7] (fun v i wr => ∃ k : Nat, k ≤ A.length ∧ i = .int .i64 (k : Int) ∧ RowK 76 encU 2 w1.heap.size wr v (segF size (A.take k)) ∧ Below w1.heap.size w1 wr) (fun _ i _ => (A.length - intOf i).toNat)
  case atStart => exact ⟨0, by omega, rfl, RowK.nil _ _, Below.refl _ _⟩
  case round =>
    obtain ⟨k, hk, rfl, hrow, hbel⟩ := hrel
    have HB := Lib.hid hbel
    have HROW := Lib.hid hrow
    obtain ⟨oz, cz, rfl, _⟩ := hrow.form
    clear hrow hbel
    have hs2 : decide (1 ≤ size) = true := decide_eq_true HSZ.out
    by_cases hlt : k < A.length
    · obtain ⟨u, hu⟩ : ∃ u, A[k]? = some u := ⟨_, List.getElem?_eq_getElem hlt⟩
      have hum := List.mem_of_getElem? hu
      obtain ⟨a, rfl, _, hcc⟩ := RowK.pts us_len (by omega) (HR1.out.grow HB.out) k u hu
      have c0 := hcc 0 _ rfl
      have c1 := hcc 1 _ rfl
      simp only [fieldOf] at c0 c1
      have HTM : Hid (segF size (A.take (k + 1)) = addU (segF size (A.take k)) (Int.tdiv u.a size) u.n) := Lib.hid (by rw [List.take_add_one, hu]; exact segF_snoc _ _ _)
      have HAM : Hid (Okay2 (segF size (A.take k)) k) := Lib.hid (by
        have := okay2_seg size (A.take k) (fun u hu => HF.out.fits u (List.mem_of_mem_take hu))
        rwa [List.length_take, Nat.min_eq_left hk] at this)
      have hyk := HF.out.keys u hum
      have hyn := HF.out.fits u hum
      have hq : 0 ≤ Int.tdiv u.a size ∧ Int.tdiv u.a size < 16384 := ⟨Int.tdiv_nonneg hyk.1 (by have := HSZ.out; omega), Int.lt_of_le_of_lt (Int.tdiv_le_self _ hyk.1) hyk.2⟩
      obtain ⟨q, hqe⟩ : ∃ q, Int.tdiv u.a size = q := ⟨_, rfl⟩
      rw [hqe] at hq HTM
      have hwq : IntKind.i64.wrap (Int.tdiv u.a size) = q := by rw [hqe]; exact IntWalk.i64_in _ (by omega)
      have hs0 : ¬ size = 0 := by have := HSZ.out; omega
      have HWX : Hid (IntKind.i64.wrap ((lk (segF size (A.take k)) q).getD 0 + u.n) = (lk (segF size (A.take k)) q).getD 0 + u.n) := Lib.hid (by
        have := fits_lk HAM.out.rises HAM.out.fits (by omega) q
        exact IntWalk.i64_in _ (by omega))
      have hcl := HAM.out.len
      generalize segF size (A.take k) = C at *
      clear hu hum hcc hyk hyn hqe hq
      go_wp2_with fail
      refine wp_region_still_tail 13 (by kernel_rfl) (by kernel_rfl) ?_
      change wpStill _ _ (World.drew _) (fun a' => wpList _ _ _ _ a' (World.drew _)) _ _
      simp only [List.take_succ_cons, List.take_zero, List.drop_succ_cons, List.drop_zero]
      repeat still_step
      refine wpStill_nil ?_
      go_wp2_with (go_at_call 32; go_loud (refine (rput_any w1.heap.size _ C q u.n _ HAM.out.rises (HROW.out.grow (Below.refl _ _).drew) (by have := HB.out.size; exact this) (by omega) HWX.out).mono ?_; rintro e w5 ⟨v5, rfl, hr5, hb5⟩; have HR5 := Lib.hid hr5; have HB5 := Lib.hid hb5; clear hr5 hb5))
      exact ⟨⟨k + 1, by omega, by simp, by rw [HTM.out]; exact HR5.out, HB.out.drew.trans HB5.out⟩, by simp [intOf]; omega⟩
    · obtain rfl : k = A.length := by omega
      rw [List.take_length] at HROW ⊢
      go_wp2_with fail
      go_ret
      exact ⟨_, rfl, by rw [HE.out]; exact HROW.out.mono HB1.out.size, HB1.out.trans (HB.out.mono HB1.out.size)⟩
end Go.Proofs.Ytaaecdijbkkoiaa.LivW

/- LiveTells. -/
namespace Go.Proofs.Ytaaecdijbkkoiaa.LivW
set_option maxRecDepth 100000
open Go.RowKit LivP InoP InoW ExtW
set_option maxHeartbeats 1600000 in
theorem same_any (oa ob : Option Addr) (ca cb : Nat) (A : List U) (hl : A.length ≤ 100000) (w : World) (h1 : KAt encU 2 w.heap.size oa A w) (h2 : KAt encU 2 w.heap.size ob A w) :
    Calls Try.prog 14 #[.slice oa A.length ca, .slice ob A.length cb] w fun e w' => e = .returned (.bool true) ∧ Below w.heap.size w w' := by
  have HP := Lib.hid h1
  have HQ := Lib.hid h2
  clear h1 h2
  go_enter Try.func14, Try.ntmps14
  go_wp2_with fail
  go_loopw [5] (fun i wr => ∃ k : Nat, k ≤ A.length ∧ i = .int .i64 (k : Int) ∧ Below w.heap.size w wr) (fun i _ => ((A.length : Int) - intOf i).toNat)
  case atStart => exact ⟨0, by omega, rfl, Below.refl _ _⟩
  case round =>
    obtain ⟨k, hk, rfl, hbel⟩ := hrel
    have HB := Lib.hid hbel
    clear hbel
    by_cases hlt : k < A.length
    · obtain ⟨x, hx⟩ : ∃ x, A[k]? = some x := ⟨_, List.getElem?_eq_getElem hlt⟩
      obtain ⟨a, rfl, _, hc⟩ := (HP.out.below HB.out) k x hx
      obtain ⟨b, rfl, _, hd⟩ := (HQ.out.below HB.out) k x hx
      have c0 := hc 0 _ rfl
      have c1 := hc 1 _ rfl
      have d0 := hd 0 _ rfl
      have d1 := hd 1 _ rfl
      simp only [fieldOf] at c0 c1 d0 d1
      have hkl : (k : Int) < (A.length : Int) := by omega
      clear hx hc hd
      go_wp2_with fail
      refine held_below (by kernel_rfl) (by kernel_rfl) ?_
      repeat first
        | (refine held_skip ?_ ?_; (· first | rfl | (go_simp; done)); simp only [Act.put, List.setIfInBounds_toArray, List.set_cons_zero, List.set_cons_succ])
        | (refine held_val (v := ?_) ?_ ?_ ?_
           rotate_left
           · first | rfl | (go_simp; done)
           · intro wq hq
             have e0 := cell_step hq c0
             have e1 := cell_step hq c1
             have e2 := cell_step hq d0
             have e3 := cell_step hq d1
             go_simp
             with_reducible rfl
           simp only [Act.put, List.setIfInBounds_toArray, List.set_cons_zero, List.set_cons_succ])
      refine held_nil ?_
      intro w2 hb2
      have HB5 := Lib.hid hb2
      clear hb2
      go_wp2_with fail
      exact ⟨⟨k + 1, by omega, by simp, bstep HB.out HB5.out⟩, by simp [intOf]; omega⟩
    · have hk1 : ¬ ((k : Int) < (A.length : Int)) := by omega
      go_wp2_with fail
      go_ret
      exact ⟨rfl, HB.out⟩
variable {tb b qb cq : Nat} {L : List Ino} {next : Int} {w W : World} {oq : Option Addr} {zs : List IV} {A : List U}
theorem row_uses {T : TypeId} {B : Nat} {w : World} {v : Value} (h : RowK T encU 2 B w v A) : ∃ oa cap, v = .slice oa A.length cap ∧ KAt encU 2 w.heap.size oa A w := by
  obtain ⟨oa, cap, rfl, _⟩ := h.form
  exact ⟨oa, cap, rfl, h.pts us_len (by omega)⟩
theorem lt_addrs (h : TIs w tb b L next) (k : Below w.heap.size w W) : Calls Try.prog 9 #[.pointer (some ⟨tb, 0, none⟩)] W fun e w' => ∃ oa cap, e = .returned (.slice oa (allU L).length cap) ∧ KAt encU 2 w'.heap.size oa (allU L) w' ∧ Below W.heap.size W w' ∧ Below w.heap.size w w' :=
  (addrs_on h W k).mono fun _ _ ⟨v, e, hr, hb⟩ => by
    obtain ⟨oa, cap, rfl, hp⟩ := row_uses hr
    exact ⟨oa, cap, e, hp, hb, bstep k hb⟩
theorem lt_raddrs (hg : TGood L next) (hl : IList w oq L zs) (h0 : w.cell? ⟨qb, 0, none⟩ = some (.slice oq L.length cq)) (k : Below w.heap.size w W) : Calls Try.prog 15 #[.pointer (some ⟨qb, 0, none⟩)] W fun e w' => ∃ oa cap, e = .returned (.slice oa (allU L).length cap) ∧ KAt encU 2 w'.heap.size oa (allU L) w' ∧ Below W.heap.size W w' ∧ Below w.heap.size w w' :=
  (raddrs_any qb cq W hg.all hg.len (hl.grow k) (cell_step k h0)).mono fun _ _ ⟨v, e, hr, hb⟩ => by
    obtain ⟨oa, cap, rfl, hp⟩ := row_uses hr
    exact ⟨oa, cap, e, hp, hb, bstep k hb⟩
theorem lt_segs (size : Int) (h : TIs w tb b L next) (k : Below w.heap.size w W) : Calls Try.prog 10 #[.pointer (some ⟨tb, 0, none⟩), .int .i64 size] W fun e w' => ∃ oa cap, e = .returned (.slice oa (segL size (allU L)).length cap) ∧ KAt encU 2 w'.heap.size oa (segL size (allU L)) w' ∧ Below W.heap.size W w' ∧ Below w.heap.size w w' :=
  (segs_any _ (allU L) (fine_all h.good) size W (fun W' hb => addrs_on h W' (bstep k hb))).mono fun _ _ ⟨v, e, hr, hb⟩ => by
    obtain ⟨oa, cap, rfl, hp⟩ := row_uses hr
    exact ⟨oa, cap, e, hp, hb, bstep k hb⟩
theorem lt_rsegs (size : Int) (hg : TGood L next) (hl : IList w oq L zs) (h0 : w.cell? ⟨qb, 0, none⟩ = some (.slice oq L.length cq)) (k : Below w.heap.size w W) : Calls Try.prog 17 #[.pointer (some ⟨qb, 0, none⟩), .int .i64 size] W fun e w' => ∃ oa cap, e = .returned (.slice oa (segL size (allU L)).length cap) ∧ KAt encU 2 w'.heap.size oa (segL size (allU L)) w' ∧ Below W.heap.size W w' ∧ Below w.heap.size w w' :=
  (rsegs_any size qb cq W hg.all hg.len (fine_all hg) (hl.grow k) (cell_step k h0)).mono fun _ _ ⟨v, e, hr, hb⟩ => by
    obtain ⟨oa, cap, rfl, hp⟩ := row_uses hr
    exact ⟨oa, cap, e, hp, hb, bstep k hb⟩
theorem lt_old (n : Int) (h : TIs w tb b L next) (k : Below w.heap.size w W) : Calls Try.prog 11 #[.pointer (some ⟨tb, 0, none⟩), .int .i64 n] W fun e w' => e = .returned (.int .i64 (oldE (allU L) n)) ∧ Below w.heap.size w w' :=
  (oldest_any _ (allU L) n W (addrs_on h W k)).mono fun _ _ ⟨e, hb⟩ => ⟨e, bstep k hb⟩
theorem lt_rold (n : Int) (hg : TGood L next) (hl : IList w oq L zs) (h0 : w.cell? ⟨qb, 0, none⟩ = some (.slice oq L.length cq)) (k : Below w.heap.size w W) : Calls Try.prog 16 #[.pointer (some ⟨qb, 0, none⟩), .int .i64 n] W fun e w' => e = .returned (.int .i64 (oldE (allU L) n)) ∧ Below w.heap.size w w' :=
  (roldest_any n qb cq W hg.all hg.len (hl.grow k) (cell_step k h0)).mono fun _ _ ⟨e, hb⟩ => ⟨e, bstep k hb⟩
theorem lt_same (hA : A.length ≤ 100000) {oa ob : Option Addr} {ca cb : Nat} (h1 : KAt encU 2 W.heap.size oa A W) (h2 : KAt encU 2 W.heap.size ob A W) (k : Below w.heap.size w W) : Calls Try.prog 14 #[.slice oa A.length ca, .slice ob A.length cb] W fun e w' => e = .returned (.bool true) ∧ Below w.heap.size w w' :=
  (same_any oa ob ca cb A hA W h1 h2).mono fun _ _ ⟨e, hb⟩ => ⟨e, bstep k hb⟩
theorem lt_lsame (h : TIs w tb b L next) (hl : IList w oq L zs) (h0 : w.cell? ⟨qb, 0, none⟩ = some (.slice oq L.length cq)) (h1 : w.cell? ⟨qb, 1, none⟩ = some (.int .i64 next)) (k : Below w.heap.size w W) : Calls Try.prog 18 #[.pointer (some ⟨tb, 0, none⟩), .pointer (some ⟨qb, 0, none⟩)] W fun e w' => e = .returned (.bool true) ∧ Below w.heap.size w w' :=
  (lsame_any qb cq oq zs W (h.grow k) (hl.grow k) (cell_step k h0) (cell_step k h1)).mono fun _ _ ⟨e, hb⟩ => ⟨e, bstep k hb⟩
theorem lt_wakes (k : Below w.heap.size w W) : Calls Try.prog 8 #[] W fun e w' => e = .returned (.bool true) ∧ Below w.heap.size w w' :=
  (wakes_any W).mono fun _ _ ⟨e, hb⟩ => ⟨e, bstep k hb⟩
theorem seeT {c0 c1 : Value} {xb : Nat} (q0 : w.cell? ⟨xb, 0, none⟩ = some c0) (q1 : w.cell? ⟨xb, 1, none⟩ = some c1) (k : Below w.heap.size w W) : (W.cell? ⟨xb, 0, none⟩ = some c0 ∧ W.cell? ⟨xb, 1, none⟩ = some c1) ∧ Below w.heap.size w W := ⟨⟨cell_step k q0, cell_step k q1⟩, k⟩
set_option maxHeartbeats 12800000 in
theorem tells_walk (oa : Option Addr) (cap : Nat) (xs : List Ino) (ys : List IV) (_ : xs.length ≤ maxLen) (hpl : ∀ x ∈ xs, x.p.length ≤ maxLen) (nx : Int) (_ : (Lit.int .i64 nx).wf = true) (n0 : Int) (_ : (Lit.int .i64 n0).wf = true) (n1 : Int) (_ : (Lit.int .i64 n1).wf = true) (W : World) (h : IList W oa xs ys) :
    Calls Try.prog 5 #[.slice oa xs.length cap, .int .i64 nx, .agg #[.int .i64 n0, .int .i64 n1]] W fun e w' => e = .returned (.bool true) ∧ Below W.heap.size W w' := by
  have HLD := Lib.hid fun w1 (hb : Below W.heap.size W w1) => loaded_any nx oa cap xs ys hpl w1 (h.grow hb)
  have HBX := Lib.hid (below_alloc W (.cells #[.int .i64 n0, .int .i64 n1] 44))
  have b0 := alloc_cell W #[.int .i64 n0, .int .i64 n1] 44 0 _ rfl
  have b1 := alloc_cell W #[.int .i64 n0, .int .i64 n1] 44 1 _ rfl
  clear h hpl
  go_enter Try.func5, Try.ntmps5
  go_wp2_with fail
  generalize W.alloc (.cells #[.int .i64 n0, .int .i64 n1] 44) = w0 at *
  refine held_below (by kernel_rfl) (by kernel_rfl) ?_
  repeat first
    | (refine held_skip ?_ ?_; (· first | rfl | (go_simp; done)); simp only [Act.put, List.setIfInBounds_toArray, List.set_cons_zero, List.set_cons_succ])
    | (refine held_val (v := ?_) ?_ ?_ ?_
       rotate_left
       · first | rfl | (go_simp; done)
       · intro wq hq
         have e0 := cell_step hq b0
         have e1 := cell_step hq b1
         go_simp
         with_reducible rfl
       simp only [Act.put, List.setIfInBounds_toArray, List.set_cons_zero, List.set_cons_succ])
    | (refine held_call (v := ?_) (f := ?_) (args := ?_) ?_ ?_ ?_ ?_
       rotate_left 3
       · first | rfl | (go_simp; done)
       · intro wq
         go_simp
         constructor
         · rfl
         · rfl
       · intro wq hq
         first
           | (refine (safe_any n0 n1 wq).mono ?_
              rintro e wn ⟨rfl, rfl⟩
              constructor
              · rfl
              · exact hq)
           | (refine (rsafe_any n0 n1 wq).mono ?_
              rintro e wn ⟨rfl, rfl⟩
              constructor
              · rfl
              · exact hq)
       simp only [Act.put, List.setIfInBounds_toArray, List.set_cons_zero, List.set_cons_succ])
  refine held_nil ?_
  intro w2 hb2
  have HB2 := Lib.hid (HBX.out.trans (hb2.mono HBX.out.size))
  have B0 := Lib.hid (cell_step hb2 b0)
  have B1 := Lib.hid (cell_step hb2 b1)
  clear hb2 b0 b1
  go_wp2_with fail
  refine (HLD.out _ HB2.out).mono ?_
  rintro e w3 (⟨rfl, hb3⟩ | ⟨hg, tb, mb, qb, oq, cq, zs, rfl, ht, hl, hq, hb3⟩)
  · have HB3 := Lib.hid (HB2.out.trans (hb3.mono HB2.out.size))
    clear hb3
    go_wp2_with (go_at_call 8; refine (wakes_any _).mono ?_; rintro e w4 ⟨rfl, hb4⟩; have HB4 := Lib.hid hb4; clear hb4)
    go_ret
    exact ⟨rfl, HB3.out.trans (HB4.out.mono HB3.out.size)⟩
  have HB3 := Lib.hid (HB2.out.trans (hb3.mono HB2.out.size))
  have HT := Lib.hid ht
  have HG := Lib.hid hg.table
  have HL := Lib.hid hl
  obtain ⟨q0, q1⟩ : w3.cell? ⟨qb, 0, none⟩ = some (.slice oq xs.length cq) ∧ w3.cell? ⟨qb, 1, none⟩ = some (.int .i64 nx) := ⟨(Lib.cell_of_heap hq 0).trans rfl, (Lib.cell_of_heap hq 1).trans rfl⟩
  have Q0 := Lib.hid q0
  have Q1 := Lib.hid q1
  have b0 := cell_step hb3 B0.out
  have b1 := cell_step hb3 B1.out
  have hk0 : Below w3.heap.size w3 w3.drew := (Below.refl _ _).drew
  have HAL : Hid ((allU xs).length ≤ 100000) := Lib.hid (by have := (fine_all hg.table).len; omega)
  have HSL : Hid ((segL n1 (allU xs)).length ≤ 100000) := Lib.hid (by
    unfold segL
    split
    · simp
    · have h1 := (okay2_seg n1 (allU xs) (fine_all hg.table).fits).len
      have h2 := (fine_all hg.table).len
      omega)
  clear hg ht hl hq hb3 q0 q1 HLD
  go_wp2_with fail
  go_region_held3 (fun w' => (w'.cell? ⟨W.heap.size, 0, none⟩ = some (.int .i64 n0) ∧ w'.cell? ⟨W.heap.size, 1, none⟩ = some (.int .i64 n1)) ∧ Below w3.heap.size w3 w')
    (first | exact seeT b0 b1 (by assumption))
    (first
      | (have hz := hsa; have hz2 := hsb; clear hz hz2; go_at_call 14; refine (lt_same HSL.out (by first | exact hsa | exact hsa.grow (by assumption)) (by first | exact hsb | exact hsb.grow (by assumption)) (by assumption)).mono ?_; rintro e wg ⟨rfl, hkg⟩)
      | (have hz := hpa; have hz2 := hpb; clear hz hz2; go_at_call 14; refine (lt_same HAL.out (by first | exact hpa | exact hpa.grow (by assumption)) (by first | exact hpb | exact hpb.grow (by assumption)) (by assumption)).mono ?_; rintro e wc ⟨rfl, hkc⟩)
      | (go_at_call 9; refine (lt_addrs HT.out (by assumption)).mono ?_; rintro e wa ⟨oa1, ca1, rfl, hpa, hka', hka⟩)
      | (go_at_call 15; refine (lt_raddrs HG.out HL.out Q0.out (by assumption)).mono ?_; rintro e wb ⟨oa2, ca2, rfl, hpb, hkb', hkb⟩)
      | (go_at_call 10; refine (lt_segs n1 HT.out (by assumption)).mono ?_; rintro e wd ⟨oa3, ca3, rfl, hsa, hkd', hkd⟩)
      | (go_at_call 17; refine (lt_rsegs n1 HG.out HL.out Q0.out (by assumption)).mono ?_; rintro e we ⟨oa4, ca4, rfl, hsb, hke', hke⟩)
      | (go_at_call 11; refine (lt_old n0 HT.out (by assumption)).mono ?_; rintro e wf ⟨rfl, hkf⟩)
      | (go_at_call 16; refine (lt_rold n0 HG.out HL.out Q0.out (by assumption)).mono ?_; rintro e wh ⟨rfl, hkh⟩)
      | (go_at_call 18; refine (lt_lsame HT.out HL.out Q0.out Q1.out (by assumption)).mono ?_; rintro e wi ⟨rfl, hki⟩)
      | (go_at_call 8; refine (lt_wakes (by assumption)).mono ?_; rintro e wj ⟨rfl, hkj⟩))
  all_goals
    go_wp2_with fail
    go_ret
    exact ⟨rfl, HB3.out.trans (Below.mono hkj HB3.out.size)⟩
end Go.Proofs.Ytaaecdijbkkoiaa.LivW
