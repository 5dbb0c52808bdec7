/- Several texts in one. -/
import Derived.Test.YtaaecdijbkkoiaaInoList
import Derived.Test.YtaaecdijbkkoiaaOpen
import Derived.Test.YtaaecdijbkkoiaaLivLoad
import Derived.Test.YtaaecdijbkkoiaaInoRGAny
import Derived.Test.YtaaecdijbkkoiaaLivSegs
import Derived.Test.YtaaecdijbkkoiaaLivWakes
import Derived.Test.YtaaecdijbkkoiaaHeld
/- A list of inodes that came in. -/
namespace Go.Proofs.Ytaaecdijbkkoiaa.InoW
set_option maxRecDepth 100000
open Go.RowKit Go.ChangeShapes Go.WideShapes Go.Deep InoP ExtW
section
variable {H : Type} {enc : TypeId × Value → H} {P : Program} {w : World} {base : Nat} {spare : Nat → Bool} {held : Bool}
/-- a slice of structs whose fields are one cell each, that lies in a cell -/
theorem rows_in {t e : TypeId} {fs : Array Field} {u : Value} {fuel : Nat} {y : DataW H × List MemPlace} (ht : P.underlying t = some (.slice e)) (he : P.underlying e = some (.struct fs))
    (hone : oneCellFields P fs = true) (hC : P.cellsOf e = fs.size) (h : DataW.trod enc P w base spare held fuel t [u] = some y) :
    ∃ (oa : Option Addr) (len cap : Nat), u = .slice oa len cap ∧ len ≤ cap ∧ cap ≤ maxLen ∧ (oa = none → len = 0 ∧ cap = 0) ∧
      ∀ i, i < len → ∃ a n, oa = some a ∧ ∀ (j : Nat) (f : Field), fs[j]? = some f → ∃ (u : Value) (y : DataW H × List MemPlace), w.cell? (a.add (i * fs.size + j)) = some u ∧ DataW.trod enc P w base spare held n f.type [u] = some y := by
  rcases open_slice ht h with ⟨hcs, _⟩ | ⟨a, len, cap, m, n, D, Pl, hcs, _, hl, hm, hmm, _, hi⟩
  · obtain rfl : u = .slice none 0 0 := by simpa using hcs
    exact ⟨none, 0, 0, rfl, Nat.le_refl _, Nat.zero_le _, fun _ => ⟨rfl, rfl⟩, fun i hi => absurd hi (Nat.not_lt_zero _)⟩
  · obtain rfl : u = .slice (some a) len cap := by simpa using hcs
    refine ⟨some a, len, cap, rfl, hl, hm, (fun h => by cases h), fun i hil => ?_⟩
    have him : i < m := by rw [hmm]; split <;> omega
    obtain ⟨cs', hc, ht'⟩ := hi i him
    rw [hC] at hc
    obtain ⟨ys, n', hn', hy, hlen, hyl, hfd⟩ := DataW.trod_struct he ht'
    obtain ⟨_, hcl, hat⟩ := World.cells?_some hc
    refine ⟨a, n', rfl, fun j f hj => ?_⟩
    obtain ⟨ho, hk⟩ := hone_of hone j f hj
    have hjl : j < fs.size := (Array.getElem?_eq_some_iff.1 hj).1
    have hcell := hat j hjl
    have h1 := hfd j f hj
    rw [ho, hk] at h1
    have hd : (cs'.drop j).take 1 = [cs'[j]'(by omega)] := by
      rw [List.drop_eq_getElem_cons (by omega)]; rfl
    rw [hd, List.getElem?_eq_getElem (by omega)] at h1
    refine ⟨_, _, ?_, h1⟩
    rw [← Go.Deep.add_add, hcell, List.getElem?_eq_getElem (by omega)]
end
section
variable {H : Type} {enc : TypeId × Value → H} {w : World} {base b0 : Nat} {spare : Nat → Bool} {held : Bool} {r : Reach}
theorem parts_in {u : Value} {fuel : Nat} {y : DataW H × List MemPlace} (h : DataW.trod enc Try.prog w base spare held fuel 31 [u] = some y) :
    ∃ (oa : Option Addr) (cap : Nat) (l : List Pt), u = .slice oa l.length cap ∧ PtsAt w.heap.size oa l w ∧ l.length ≤ maxLen ∧ (oa = none → l.length = 0 ∧ cap = 0) := by
  obtain ⟨oa, len, cap, rfl, hl, hm, hn, hi⟩ := rows_in Try.underlying31 Try.underlying35 (by kernel_rfl) (by kernel_rfl) h
  have key : ∀ i, ∃ x : Pt, i < len → ∃ a, oa = some a ∧ a.block < w.heap.size ∧ w.cell? (a.add (i * 4)) = some (.int .i64 x.o) ∧ w.cell? ⟨(a.add (i * 4)).block, (a.add (i * 4)).off + 1, none⟩ = some (.int .i64 x.n) ∧
      w.cell? ⟨(a.add (i * 4)).block, (a.add (i * 4)).off + 2, none⟩ = some (.int .i64 x.a) ∧ w.cell? ⟨(a.add (i * 4)).block, (a.add (i * 4)).off + 3, none⟩ = some (.int .i64 x.f) := by
    intro i
    by_cases hil : i < len
    · obtain ⟨a, n, ha, hf⟩ := hi i hil
      obtain ⟨u0, y0, c0, t0⟩ := hf 0 _ rfl
      obtain ⟨u1, y1, c1, t1⟩ := hf 1 _ rfl
      obtain ⟨u2, y2, c2, t2⟩ := hf 2 _ rfl
      obtain ⟨u3, y3, c3, t3⟩ := hf 3 _ rfl
      obtain ⟨z0, e0, _, _⟩ := DataW.trod_int Try.underlying3 t0
      obtain ⟨z1, e1, _, _⟩ := DataW.trod_int Try.underlying3 t1
      obtain ⟨z2, e2, _, _⟩ := DataW.trod_int Try.underlying3 t2
      obtain ⟨z3, e3, _, _⟩ := DataW.trod_int Try.underlying3 t3
      obtain rfl : u0 = .int .i64 z0 := by simpa using e0
      obtain rfl : u1 = .int .i64 z1 := by simpa using e1
      obtain rfl : u2 = .int .i64 z2 := by simpa using e2
      obtain rfl : u3 = .int .i64 z3 := by simpa using e3
      refine ⟨⟨z0, z1, z2, z3⟩, fun _ => ⟨a, ha, ?_, ?_, ?_, ?_, ?_⟩⟩
      · have := World.block_lt_of_cell? _ _ c0
        rwa [add_block] at this
      · exact c0
      · rw [← add_field a (i * 4) 0]; exact c1
      · rw [← add_field a (i * 4) 1]; exact c2
      · rw [← add_field a (i * 4) 2]; exact c3
    · exact ⟨⟨0, 0, 0, 0⟩, fun h => absurd h hil⟩
  refine ⟨oa, cap, (List.range len).map (fun i => (key i).choose), by simp, ?_, by simp; omega, fun e => by have := hn e; simpa using this⟩
  intro i x hx
  have hil : i < len := by have := (List.getElem?_eq_some_iff.1 hx).1; simpa using this
  obtain rfl : (key i).choose = x := by simpa [hil] using hx
  exact (key i).choose_spec hil
theorem open_inos {v : Value} {d : DataW H} {p : List MemPlace} (hv : Value.okWide Try.prog w r b0 22 v) (h : DataW.Trod enc Try.prog w base spare held 22 v d p) :
    ∃ (oa : Option Addr) (cap : Nat) (xs : List Ino) (ys : List IV), v = .slice oa xs.length cap ∧ IList w oa xs ys ∧ xs.length ≤ maxLen ∧ ∀ x ∈ xs, x.p.length ≤ maxLen := by
  obtain ⟨oa, len, cap, rfl, hl, hm, hn, hi⟩ := open_rows Try.underlying22 Try.underlying68 (by kernel_rfl) (by kernel_rfl) hv h
  have key : ∀ i, ∃ q : Ino × IV, IRead w q.1 q.2 ∧ q.1.p.length ≤ maxLen ∧ (i < len → ∃ a, oa = some a ∧ a.block < w.heap.size ∧ ∀ j u, (encI q.2)[j]? = some u → w.cell? (fieldOf (a.add (i * 6)) j) = some u) := by
    intro i
    by_cases hil : i < len
    · obtain ⟨a, n, ha, hf⟩ := hi i hil
      obtain ⟨u0, y0, c0, t0⟩ := hf 0 _ rfl
      obtain ⟨u1, y1, c1, t1⟩ := hf 1 _ rfl
      obtain ⟨u2, y2, c2, t2⟩ := hf 2 _ rfl
      obtain ⟨u3, y3, c3, t3⟩ := hf 3 _ rfl
      obtain ⟨u4, y4, c4, t4⟩ := hf 4 _ rfl
      obtain ⟨u5, y5, c5, t5⟩ := hf 5 _ rfl
      obtain ⟨z0, e0, _, _⟩ := DataW.trod_int Try.underlying3 t0
      obtain ⟨z1, e1, _, _⟩ := DataW.trod_int Try.underlying3 t1
      obtain ⟨z2, e2, _, _⟩ := DataW.trod_int Try.underlying3 t2
      obtain ⟨z3, e3, _, _⟩ := DataW.trod_int Try.underlying3 t3
      obtain ⟨z4, e4, _, _⟩ := DataW.trod_int Try.underlying3 t4
      obtain ⟨oz, cz, l, rfl, hp, hlz, hnz⟩ := parts_in t5
      obtain rfl : u0 = .int .i64 z0 := by simpa using e0
      obtain rfl : u1 = .int .i64 z1 := by simpa using e1
      obtain rfl : u2 = .int .i64 z2 := by simpa using e2
      obtain rfl : u3 = .int .i64 z3 := by simpa using e3
      obtain rfl : u4 = .int .i64 z4 := by simpa using e4
      refine ⟨(⟨z0, z1, z2, z3, z4, l⟩, ⟨z0, z1, z2, z3, z4, oz, l.length, cz⟩), ⟨rfl, rfl, rfl, rfl, rfl, rfl, hp, hnz⟩, hlz, fun _ => ⟨a, ha, ?_, fun j u hj => ?_⟩⟩
      · have := World.block_lt_of_cell? _ _ c0
        rwa [add_block] at this
      · rw [← fieldOf_add]
        have hj6 : j < 6 := by have := (List.getElem?_eq_some_iff.1 hj).1; rw [encI_len] at this; exact this
        have : j = 0 ∨ j = 1 ∨ j = 2 ∨ j = 3 ∨ j = 4 ∨ j = 5 := by omega
        rcases this with rfl | rfl | rfl | rfl | rfl | rfl <;> (simp [encI] at hj; rw [← hj]; assumption)
    · exact ⟨(⟨0, 0, 0, 0, 0, []⟩, ⟨0, 0, 0, 0, 0, none, 0, 0⟩), ⟨rfl, rfl, rfl, rfl, rfl, rfl, fun i x h => by simp at h, fun _ => ⟨rfl, rfl⟩⟩, by simp, fun h => absurd h hil⟩
  refine ⟨oa, cap, (List.range len).map (fun i => (key i).choose.1), (List.range len).map (fun i => (key i).choose.2), by simp, ⟨fun i y hy => ?_, by simp, fun i x y hx hy => ?_⟩, by simp; omega, fun x hx => ?_⟩
  · have hil : i < len := by have := (List.getElem?_eq_some_iff.1 hy).1; simpa using this
    obtain rfl : (key i).choose.2 = y := by simpa [hil] using hy
    exact (key i).choose_spec.2.2 hil
  · have hil : i < len := by have := (List.getElem?_eq_some_iff.1 hx).1; simpa using this
    obtain rfl : (key i).choose.1 = x := by simpa [hil] using hx
    obtain rfl : (key i).choose.2 = y := by simpa [hil] using hy
    exact (key i).choose_spec.1
  · obtain ⟨i, _, rfl⟩ := List.mem_map.1 hx
    exact (key i).choose_spec.2.1
end
end Go.Proofs.Ytaaecdijbkkoiaa.InoW

/- Loaded, of any list. -/
namespace Go.Proofs.Ytaaecdijbkkoiaa.LivW
set_option maxRecDepth 100000
open Go.RowKit LivP InoP InoW ExtW
set_option maxHeartbeats 1600000 in
theorem large_any2 (oa : Option Addr) (cap : Nat) (xs : List Ino) (ys : List IV) (w : World) (h : IList w oa xs ys) (hp : ∀ x ∈ xs, x.p.length ≤ 9223372036854775807) :
    Calls Try.prog 24 #[.slice oa xs.length cap] w fun e w' => e = .returned (.bool (largeB xs)) ∧ Below w.heap.size w w' := by
  by_cases hb : 100 < xs.length
  · have hb2 : (100 : Int) < (xs.length : Int) := by omega
    have HE : Hid (largeB xs = true) := Lib.hid (by unfold largeB; rw [decide_eq_true hb]; rfl)
    clear h hp
    go_enter Try.func24, Try.ntmps24
    go_wp2_with fail
    go_ret
    exact ⟨by rw [HE.out]; rfl, Below.refl _ _⟩
  · exact large_any oa cap xs ys w h (by omega) hp
set_option maxHeartbeats 3200000 in
theorem loaded_any (nx : Int) (oa : Option Addr) (cap : Nat) (xs : List Ino) (ys : List IV) (hpl : ∀ x ∈ xs, x.p.length ≤ maxLen) (W : World) (h : IList W oa xs ys) :
    Calls Try.prog 7 #[.slice oa xs.length cap, .int .i64 nx] W fun e w' => (e = .returned (.tuple #[.pointer none, .pointer none, .bool false]) ∧ Below W.heap.size W w') ∨
      (LGood xs nx ∧ ∃ tb mb qb oq cq zs, e = .returned (.tuple #[.pointer (some ⟨tb, 0, none⟩), .pointer (some ⟨qb, 0, none⟩), .bool true]) ∧ TIs w' tb mb xs nx ∧ IList w' oq xs zs ∧ w'.heap[qb]? = some (.cells #[.slice oq xs.length cq, .int .i64 nx] 30 (0, 0)) ∧ Below W.heap.size W w') := by
  by_cases hg : LGood xs nx
  · exact (loaded_yes nx oa cap xs ys hg W h).mono fun _ _ q => .inr ⟨hg, q⟩
  have hL := large_any2 oa cap xs ys W h (fun x hx => by have := hpl x hx; unfold maxLen at this; omega)
  have H := Lib.hid h
  cases hlb : largeB xs with
  | true =>
    rw [hlb] at hL
    have HC := Lib.hid hL
    clear hL h hlb
    go_enter Try.func7, Try.ntmps7
    go_wp2_with (go_at_call 24; refine HC.out.mono ?_; rintro e w1 ⟨rfl, hb1⟩; have HB1 := Lib.hid hb1; clear hb1)
    go_ret3
    exact .inl ⟨rfl, HB1.out⟩
  | false =>
    rw [hlb] at hL
    obtain ⟨s1, s2⟩ := large_small hlb
    have HS1 : Hid (xs.length ≤ 100000) := Lib.hid (by omega)
    have HS2 : Hid (∀ x ∈ xs, x.p.length ≤ 100000) := Lib.hid (fun x hx => by have := s2 x hx; omega)
    have HC := Lib.hid hL
    clear hL h hlb s1 s2
    go_enter Try.func7, Try.ntmps7
    go_wp2_with (first
      | (go_at_call 24; refine HC.out.mono ?_; rintro e w1 ⟨rfl, hb1⟩; have HB1 := Lib.hid hb1; have H1 := Lib.hid (H.out.grow hb1); clear hb1)
      | (go_at_call 25; refine (rgood_any2 nx _ _ xs _ HS1.out HS2.out _ HR2.out.list).mono ?_; rintro e w3 ⟨b, rfl, hgb, hb3⟩; obtain rfl : b = false := (by cases b with | false => rfl | true => exact absurd (hgb rfl) hg); have HB3 := Lib.hid hb3; clear hb3 hgb)
      | (go_at_call 26; refine (own_any oa cap xs ys HS2.out HS1.out _ H1.out).mono ?_; rintro e w2 ⟨oa2, cap2, zs2, rfl, hr2, hb2⟩; have HR2 := Lib.hid hr2; have HB2 := Lib.hid hb2; clear hr2 hb2))
    go_ret3
    have b1 := HB1.out
    have b2 := b1.trans (HB2.out.mono b1.size)
    exact .inl ⟨rfl, b2.trans (HB3.out.mono b2.size)⟩
end Go.Proofs.Ytaaecdijbkkoiaa.LivW

/- All bytes are counted once: plain laws. -/
namespace Go.Proofs.Ytaaecdijbkkoiaa.LivP
open ExtW (Pt)
def sumU (L : List U) : Int := (L.map U.n).sum
def sumN (l : List Pt) : Int := (l.map (·.n)).sum
def sumX (xs : List InoP.Ino) : Int := (xs.map fun x => sumN x.p).sum
theorem sumU_app (A B : List U) : sumU (A ++ B) = sumU A + sumU B := by unfold sumU; rw [List.map_append, List.sum_append]
theorem sumU_cons (u : U) (A : List U) : sumU (u :: A) = u.n + sumU A := by unfold sumU; simp
theorem sumU_ins (L : List U) (u : U) : sumU (Sl.ins U.a il L u) = sumU L + u.n := by
  have h := congrArg sumU (Sl.low_high (key := U.a) (kl := il) L u.a)
  unfold Sl.ins
  rw [sumU_app] at h
  rw [sumU_app, sumU_cons]; omega
theorem map_none (L : List U) (a m : Int) (h : ∀ u ∈ L, u.a ≠ a) : (L.map fun u => if u.a = a then (⟨a, m⟩ : U) else u) = L := by
  induction L with
  | nil => rfl
  | cons u L ih => rw [List.map_cons, if_neg (h u (by simp)), ih (fun v hv => h v (by simp [hv]))]
theorem sumU_map (a v n : Int) : ∀ (L : List U), Rises L → lk L a = some v → sumU (L.map fun u => if u.a = a then (⟨a, v + n⟩ : U) else u) = sumU L + n := by
  intro L
  induction L with
  | nil => intro _ h; cases h
  | cons u L ih =>
    intro hr hk
    obtain ⟨h1, h2⟩ := List.pairwise_cons.1 hr
    unfold lk Sl.look at hk
    rw [List.find?_cons] at hk
    by_cases hu : u.a = a
    · rw [show decide (u.a = a) = true from decide_eq_true hu] at hk
      obtain rfl : u.n = v := by simpa using hk
      rw [List.map_cons, if_pos hu, map_none L a _ (fun w hw => by have := h1 w hw; unfold il at this; omega), sumU_cons, sumU_cons]
      simp only; omega
    · rw [show decide (u.a = a) = false from decide_eq_false hu] at hk
      rw [List.map_cons, if_neg hu, sumU_cons, sumU_cons, ih h2 hk]; omega
theorem addU_sum {L : List U} (h : Rises L) (a n : Int) : sumU (addU L a n) = sumU L + n := by
  unfold addU
  cases hk : lk L a with
  | some v => exact sumU_map a v n L h hk
  | none => exact sumU_ins L ⟨a, n⟩
theorem partsU_rises (l : List Pt) : ∀ {L : List U}, Rises L → Rises (partsU L l) := by
  induction l with
  | nil => exact fun h => h
  | cons x l ih => exact fun h => ih (addU_rises h x.a x.n)
theorem partsU_sum (l : List Pt) : ∀ {L : List U}, Rises L → sumU (partsU L l) = sumU L + sumN l := by
  induction l with
  | nil => intro L _; unfold sumN; simp [partsU]
  | cons x l ih =>
    intro L h
    have := ih (addU_rises h x.a x.n)
    have e : partsU L (x :: l) = partsU (addU L x.a x.n) l := rfl
    rw [e, this, addU_sum h]
    unfold sumN
    rw [List.map_cons, List.sum_cons]; omega
theorem all_sum_from (xs : List InoP.Ino) : ∀ {L : List U}, Rises L → sumU (xs.foldl (fun L x => partsU L x.p) L) = sumU L + sumX xs := by
  induction xs with
  | nil => intro L _; unfold sumX; simp
  | cons x xs ih =>
    intro L h
    rw [List.foldl_cons, ih (partsU_rises x.p h), partsU_sum x.p h]
    unfold sumX
    rw [List.map_cons, List.sum_cons]; omega
theorem all_sum (xs : List InoP.Ino) : sumU (allU xs) = sumX xs := by
  have := all_sum_from xs (L := []) List.Pairwise.nil
  unfold allU
  rw [this]; unfold sumU; simp
theorem seg_sum_from (size : Int) (A : List U) : ∀ {L : List U}, Rises L → sumU (A.foldl (fun M u => addU M (Int.tdiv u.a size) u.n) L) = sumU L + sumU A := by
  induction A with
  | nil => intro L _; unfold sumU; simp
  | cons u A ih =>
    intro L h
    rw [List.foldl_cons, ih (addU_rises h _ _), addU_sum h, sumU_cons]; omega
theorem seg_sum {size : Int} (hs : ¬ size < 1) (A : List U) : sumU (segL size A) = sumU A := by
  unfold segL segF
  rw [if_neg hs, seg_sum_from size A (L := []) List.Pairwise.nil]
  unfold sumU; simp
/-- each counts at least one byte -/
def Pos (L : List U) : Prop := ∀ u ∈ L, 1 ≤ u.n
theorem addU_pos {L : List U} (h : Pos L) {a n : Int} (hn : 1 ≤ n) : Pos (addU L a n) := by
  unfold addU
  intro u hu
  cases hk : lk L a with
  | some v =>
    have hv : 1 ≤ v := by
      unfold lk Sl.look at hk
      cases hf : L.find? (fun x => decide (x.a = a)) with
      | none => rw [hf] at hk; cases hk
      | some w =>
        rw [hf] at hk
        obtain rfl : w.n = v := by simpa using hk
        exact h w (List.mem_of_find?_eq_some hf)
    rw [hk] at hu
    simp only [List.mem_map] at hu
    obtain ⟨x, hx, e⟩ := hu
    have := h x hx
    split at e
    · rw [← e]; simp only; omega
    · rw [← e]; exact this
  | none =>
    rw [hk] at hu
    rcases (Sl.mem_ins L ⟨a, n⟩ u).1 hu with rfl | hu
    · exact hn
    · exact h u hu
theorem partsU_pos (l : List Pt) (hl : ∀ x ∈ l, ExtW.One x) : ∀ {L : List U}, Pos L → Pos (partsU L l) := by
  induction l with
  | nil => exact fun h => h
  | cons x l ih => exact fun h => ih (fun y hy => hl y (by simp [hy])) (addU_pos h (by have := (hl x (by simp)).small; omega))
theorem all_pos (xs : List InoP.Ino) (hx : ∀ x ∈ xs, InoP.IGood x) : Pos (allU xs) := by
  have : ∀ (xs : List InoP.Ino), (∀ x ∈ xs, InoP.IGood x) → ∀ {L : List U}, Pos L → Pos (xs.foldl (fun L x => partsU L x.p) L) := by
    intro xs
    induction xs with
    | nil => exact fun _ _ h => h
    | cons x xs ih => exact fun hx _ h => ih (fun y hy => hx y (by simp [hy])) (partsU_pos x.p (ExtW.chain_ones (hx x (by simp)).p.2) h)
  exact this xs hx (fun u hu => by simp at hu)
theorem rises_adj {L : List U} (h : Rises L) {i : Nat} {u v : U} (hu : L[i]? = some u) (hv : L[i + 1]? = some v) : u.a < v.a := by
  obtain ⟨h1, rfl⟩ := List.getElem?_eq_some_iff.1 hu
  obtain ⟨h2, rfl⟩ := List.getElem?_eq_some_iff.1 hv
  exact List.pairwise_iff_getElem.1 h i (i + 1) h1 h2 (by omega)
theorem old_le {L : List U} (h : Rises L) {u : U} (hu : u ∈ L) (m : Int) : oldE L m ≤ u.a := by
  cases L with
  | nil => simp at hu
  | cons v L =>
    show min v.a m ≤ u.a
    rcases List.mem_cons.1 hu with rfl | hu
    · omega
    · have := (List.pairwise_cons.1 h).1 u hu
      unfold il at this; omega
theorem sumU_take {L : List U} {k : Nat} {u : U} (h : L[k]? = some u) : sumU (L.take (k + 1)) = sumU (L.take k) + u.n := by
  rw [List.take_add_one, h, sumU_app]
  unfold sumU; simp
theorem sumN_take {l : List Pt} {k : Nat} {x : Pt} (h : l[k]? = some x) : sumN (l.take (k + 1)) = sumN (l.take k) + x.n := by
  rw [List.take_add_one, h]
  unfold sumN; simp
theorem sumX_take {l : List InoP.Ino} {k : Nat} {x : InoP.Ino} (h : l[k]? = some x) : sumX (l.take (k + 1)) = sumX (l.take k) + sumN x.p := by
  rw [List.take_add_one, h]
  unfold sumX; simp
theorem sumN_bd (l : List Pt) (h : ∀ x ∈ l, ExtW.One x) : 0 ≤ sumN l ∧ sumN l ≤ 1024 * l.length := by
  induction l with
  | nil => simp [sumN]
  | cons x l ih =>
    have := ih (fun y hy => h y (by simp [hy]))
    have hx := (h x (by simp)).small
    unfold sumN at *
    rw [List.map_cons, List.sum_cons, List.length_cons]; omega
theorem sumX_bd (xs : List InoP.Ino) (h : ∀ x ∈ xs, InoP.IGood x) : 0 ≤ sumX xs ∧ sumX xs ≤ 65536 * xs.length := by
  induction xs with
  | nil => simp [sumX]
  | cons x xs ih =>
    have := ih (fun y hy => h y (by simp [hy]))
    have hg := (h x (by simp)).p
    have hx := sumN_bd x.p (ExtW.chain_ones hg.2)
    have hl := hg.1
    unfold sumX at *
    rw [List.map_cons, List.sum_cons, List.length_cons]; omega
theorem sumU_bd (L : List U) {m : Int} (h : Fits L m) : 0 ≤ sumU L ∧ sumU L ≤ m * L.length := by
  induction L with
  | nil => simp [sumU]
  | cons x xs ih =>
    have := ih (fun y hy => h y (by simp [hy]))
    have hx := h x (by simp)
    rw [sumU_cons, List.length_cons, Int.natCast_add, Int.mul_add]; omega
end Go.Proofs.Ytaaecdijbkkoiaa.LivP

/- LiveCounts: all bytes are counted once. -/
namespace Go.Proofs.Ytaaecdijbkkoiaa.LivW
set_option maxRecDepth 100000
open Go.RowKit LivP InoP InoW ExtW
set_option maxHeartbeats 12800000 in
theorem counts_walk (oa : Option Addr) (cap : Nat) (xs : List Ino) (ys : List IV) (_ : xs.length ≤ maxLen) (hpl : ∀ x ∈ xs, x.p.length ≤ maxLen) (nx : Int) (_ : (Lit.int .i64 nx).wf = true) (size : Int) (hsz : (Lit.int .i64 size).wf = true) (W : World) (h : IList W oa xs ys) :
    Calls Try.prog 3 #[.slice oa xs.length cap, .int .i64 nx, .int .i64 size] W fun e w' => e = .returned (.bool true) ∧ Below W.heap.size W w' := by
  have HLD := Lib.hid (loaded_any nx oa cap xs ys hpl W h)
  have hb0 := i64_bd' hsz
  clear h hpl hsz
  go_enter Try.func3, Try.ntmps3
  go_wp2_with fail
  refine HLD.out.mono ?_
  rintro e w1 (⟨rfl, hb1⟩ | ⟨hg, tb, mb, qb, oq, cq, zs, rfl, ht, hl, hq, hb1⟩)
  · have HB1 := Lib.hid hb1
    clear hb1
    go_wp2_with (go_at_call 8; refine (wakes_any _).mono ?_; rintro e w2 ⟨rfl, hb2⟩; have HB2 := Lib.hid hb2; clear hb2)
    go_ret
    exact ⟨rfl, HB1.out.trans (HB2.out.mono HB1.out.size)⟩
  have HG := Lib.hid hg
  have HT := Lib.hid ht
  have HL := Lib.hid hl
  have HB1 := Lib.hid hb1
  obtain ⟨q0, q1⟩ : w1.cell? ⟨qb, 0, none⟩ = some (.slice oq xs.length cq) ∧ w1.cell? ⟨qb, 1, none⟩ = some (.int .i64 nx) := ⟨(Lib.cell_of_heap hq 0).trans rfl, (Lib.cell_of_heap hq 1).trans rfl⟩
  have hlen := hg.len
  have hzl : zs.length = xs.length := hl.read.1
  clear hg ht hl hb1 hq q1 HLD
  go_wp2_with fail
  go_loopw [10, 11] (fun s i wr => wr = w1 ∧ ∃ k : Nat, k ≤ xs.length ∧ i = .int .i64 (k : Int) ∧ s = .int .i64 (sumX (xs.take k))) (fun _ i _ => (xs.length - intOf i).toNat)
  case atStart => exact ⟨rfl, 0, by omega, rfl, rfl⟩
  case round =>
    obtain ⟨rfl, k, hk, rfl, rfl⟩ := hrel
    by_cases hlt : k < xs.length
    · obtain ⟨x, hx⟩ : ∃ x, xs[k]? = some x := ⟨_, List.getElem?_eq_getElem hlt⟩
      obtain ⟨y, hy⟩ : ∃ y, zs[k]? = some y := ⟨_, List.getElem?_eq_getElem (by omega)⟩
      obtain ⟨yi, yk, yl, yo, ys', ya, yn, yc⟩ := y
      have hr := HL.out.read.2 k x _ hx hy
      obtain ⟨a, rfl, _, c0, c1, c2, c3, c4, c5⟩ := iv_at HL.out.at_ hy
      simp only at c5
      obtain rfl : yn = x.p.length := hr.n
      have HPT := Lib.hid hr.pts
      have HXS : Hid (sumX (xs.take (k + 1)) = sumX (xs.take k) + sumN x.p) := Lib.hid (sumX_take hx)
      have hbd := sumX_bd (xs.take k) (fun z hz => (HG.out.mem (List.mem_of_mem_take hz)).good)
      have hbl : (xs.take k).length ≤ 64 := by rw [List.length_take]; omega
      have hgd := (HG.out.mem (List.mem_of_getElem? hx)).g
      have HON : Hid (∀ z ∈ x.p, One z) := Lib.hid (chain_ones hgd.2)
      have hpl := hgd.1
      have hbd2 : 0 ≤ sumX (xs.take k) ∧ sumX (xs.take k) ≤ 4194304 := by omega
      generalize sumX (xs.take k) = T at *
      clear hx hy hr c0 c1 c2 c3 c4 hbd hbl hgd
      go_wp2_with fail
      go_loopw [10, 12] (fun s i wr2 => wr2 = wr ∧ ∃ m : Nat, m ≤ x.p.length ∧ i = .int .i64 (m : Int) ∧ s = .int .i64 (T + sumN (x.p.take m))) (fun _ i _ => (x.p.length - intOf i).toNat)
      case atStart => exact ⟨rfl, 0, by omega, rfl, by simp [sumN]⟩
      case round =>
        obtain ⟨rfl, m, hm, rfl, rfl⟩ := hrel
        by_cases hlm : m < x.p.length
        · obtain ⟨z, hz⟩ : ∃ z, x.p[m]? = some z := ⟨_, List.getElem?_eq_getElem hlm⟩
          obtain ⟨ap, rfl, _, d0, d1, d2, d3⟩ := HPT.out m z hz
          have HNS : Hid (sumN (x.p.take (m + 1)) = sumN (x.p.take m) + z.n) := Lib.hid (sumN_take hz)
          have h1 := sumN_bd (x.p.take m) (fun z hz => HON.out z (List.mem_of_mem_take hz))
          have h2 : (x.p.take m).length ≤ 64 := by rw [List.length_take]; omega
          have h3 := (HON.out z (List.mem_of_getElem? hz)).small
          have hw : IntKind.i64.wrap (T + sumN (x.p.take m) + z.n) = T + sumN (x.p.take m) + z.n := IntWalk.i64_in _ (by omega)
          generalize sumN (x.p.take m) = R at *
          clear hz d0 d2 d3 h1 h2 h3
          go_wp2_with fail
          exact ⟨⟨trivial, m + 1, by omega, by simp, by rw [HNS.out, Int.add_assoc]⟩, by simp [intOf]; omega⟩
        · obtain rfl : m = x.p.length := by omega
          rw [List.take_length]
          go_wp2_with fail
          exact ⟨⟨trivial, k + 1, by omega, by simp, by rw [HXS.out]⟩, by simp [intOf]; omega⟩
    · obtain rfl : k = xs.length := by omega
      rw [List.take_length]
      have HA := Lib.hid (fine_all HG.out.table)
      have HPOS := Lib.hid (all_pos xs (fun z hz => (HG.out.mem hz).good))
      have HS1 := Lib.hid (all_sum xs)
      obtain ⟨r, hr⟩ : ∃ r, Int.tmod size 100 = r := ⟨_, rfl⟩
      have hr2 : -99 ≤ r ∧ r ≤ 99 := by
        have h1 := Int.tmod_lt_of_pos size (b := 100) (by omega)
        have h2 := Int.lt_tmod_of_pos size (b := 100) (by omega)
        omega
      have e1 : IntKind.i64.wrap r = r := IntWalk.i64_in _ (by omega)
      have e2 : IntKind.i64.wrap (1 + r) = 1 + r := IntWalk.i64_in _ (by omega)
      obtain ⟨c, hc⟩ : ∃ c, 1 + r + 100 = c := ⟨_, rfl⟩
      have e3 : IntKind.i64.wrap (1 + r + 100) = c := by rw [← hc]; exact IntWalk.i64_in _ (by omega)
      have HSZ : Hid (¬ c < 1) := Lib.hid (by omega)
      have HS2 := Lib.hid (seg_sum HSZ.out (allU xs))
      have HTB := Lib.hid (sumX_bd xs (fun z hz => (HG.out.mem hz).good))
      have HLN : Hid (xs.length ≤ 64) := Lib.hid hlen.2
      obtain ⟨N, hN⟩ : ∃ N, sumX xs = N := ⟨_, rfl⟩
      rw [hN] at HS1 HTB ⊢
      clear hc hN hlen hzl
      go_wp2_with (first
        | (go_at_call 10; refine (segs_any _ (allU xs) HA.out c _ (fun W' hb => addrs_on HT2.out W' hb)).mono ?_; rintro e w3 ⟨v3, rfl, hr3, hb3⟩; obtain ⟨o3, k3, rfl, _⟩ := hr3.form; have HR3 := Lib.hid hr3; have HB3 := Lib.hid hb3; have HR23 := Lib.hid (HR2.out.grow hb3); have HT3 := Lib.hid (HT2.out.grow hb3); clear hr3 hb3)
        | (go_at_call 9; refine (addrs_any _ HT.out).mono ?_; rintro e w2 ⟨v2, rfl, hr2', hb2⟩; obtain ⟨o2, k2, rfl, _⟩ := hr2'.form; have HR2 := Lib.hid hr2'; have HB2 := Lib.hid hb2; have HT2 := Lib.hid (HT.out.grow hb2); clear hr2' hb2))
      clear e1 e2 e3 hr hr2 q0
      have hal := HA.out.len
      go_loopw [13, 17] (fun s i w4 => ∃ k : Nat, k ≤ (allU xs).length ∧ i = .int .i64 (k : Int) ∧ s = .int .i64 (sumU ((allU xs).take k)) ∧ Below w3.heap.size w3 w4) (fun _ i _ => ((allU xs).length - intOf i).toNat)
      case atStart => exact ⟨0, by omega, rfl, rfl, Below.refl _ _⟩
      case round =>
        obtain ⟨k, hk, rfl, rfl, hwl⟩ := hrel
        by_cases hlt : k < (allU xs).length
        · obtain ⟨u, hu⟩ : ∃ u, (allU xs)[k]? = some u := ⟨_, List.getElem?_eq_getElem hlt⟩
          have hum := List.mem_of_getElem? hu
          obtain ⟨O, hO⟩ : ∃ O, oldE (allU xs) 16384 = O := ⟨_, rfl⟩
          have HO := Lib.hid hO
          have hg1 : decide (u.a < O) = false := decide_eq_false (by have := old_le HA.out.rises hum 16384; omega)
          have hg2 : decide (u.n < 1) = false := decide_eq_false (by have := HPOS.out u hum; omega)
          have HUS := Lib.hid (sumU_take hu)
          have hfit : Fits ((allU xs).take k) 4194304 := fun z hz => HA.out.fits z (List.mem_of_mem_take hz)
          have h1 := sumU_bd _ hfit
          have h2 : ((allU xs).take k).length ≤ 4096 := by rw [List.length_take]; omega
          have h3 := HA.out.fits u hum
          have hw : IntKind.i64.wrap (sumU ((allU xs).take k) + u.n) = sumU ((allU xs).take k) + u.n := IntWalk.i64_in _ (by omega)
          obtain ⟨a, rfl, _, hcc⟩ := RowK.pts us_len (by omega) (HR23.out.grow hwl) k u hu
          have c0 := hcc 0 _ rfl
          have c1 := hcc 1 _ rfl
          simp only [fieldOf, Nat.zero_add] at c0 c1
          generalize sumU ((allU xs).take k) = T at *
          clear hum hO hfit h1 h2 h3 hcc
          by_cases hk0 : k = 0
          · have z1 : ¬ 0 < k := by omega
            clear hu hk0
            go_wp2_with fail
            have HWL := Lib.hid hwl
            refine held_below (by kernel_rfl) (by kernel_rfl) ?_
            repeat first
              | (refine held_skip ?_ ?_; (· first | rfl | (go_simp; done)); simp only [Act.put, List.setIfInBounds_toArray, List.set_cons_zero, List.set_cons_succ])
              | (refine held_val (v := ?_) ?_ ?_ ?_
                 rotate_left
                 · first | rfl | (go_simp; done)
                 · intro wq hq
                   have e0 := cell_step hq c0
                   have e1 := cell_step hq c1
                   go_simp
                   with_reducible rfl
                 simp only [Act.put, List.setIfInBounds_toArray, List.set_cons_zero, List.set_cons_succ])
              | (refine held_call (v := ?_) (f := ?_) (args := ?_) ?_ ?_ ?_ ?_
                 rotate_left 3
                 · first | rfl | (go_simp; done)
                 · intro wq
                   go_simp
                   constructor
                   · rfl
                   · rfl
                 · intro wq hq
                   first
                     | (refine (oldest_any _ (allU xs) 16384 wq (addrs_on HT3.out wq (bstep HWL.out hq))).mono ?_
                        rintro e wn ⟨rfl, hb1⟩
                        rw [HO.out]
                        constructor
                        · rfl
                        · exact bstep hq hb1)
                 simp only [Act.put, List.setIfInBounds_toArray, List.set_cons_zero, List.set_cons_succ])
            refine held_nil ?_
            intro w2 hb2
            have HB5 := Lib.hid hb2
            have e1 := cell_step hb2 c1
            clear hb2 c0 c1
            go_wp2_with fail
            exact ⟨⟨k + 1, by omega, by simp, by rw [HUS.out], bstep HWL.out HB5.out⟩, by simp [intOf]; omega⟩

          · obtain ⟨j, hj⟩ : ∃ j, k = j + 1 := ⟨k - 1, by omega⟩
            obtain ⟨v, hv⟩ : ∃ v, (allU xs)[j]? = some v := ⟨_, List.getElem?_eq_getElem (by omega)⟩
            have hva : v.a < u.a := rises_adj HA.out.rises hv (by rw [← hj]; exact hu)
            obtain ⟨a', ea, _, hcp⟩ := RowK.pts us_len (by omega) (HR23.out.grow hwl) j v hv
            obtain rfl : a = a' := by simpa using ea
            have p0 := hcp 0 _ rfl
            simp only [fieldOf] at p0
            have z1 : 0 < k := by omega
            have z2 : IntKind.i64.wrap ((k : Int) - 1) = (j : Int) := by rw [IntWalk.i64_in _ (by omega)]; omega
            have z3 : (j : Int) < ((allU xs).length : Int) := by omega
            have z4 : j < (allU xs).length := by omega
            have z5 : decide (u.a ≤ v.a) = false := decide_eq_false (by omega)
            have P0 := Lib.hid p0
            clear hu hv hk0 hj hva hcp p0
            go_wp2_with fail
            have HWL := Lib.hid hwl
            refine held_below (by kernel_rfl) (by kernel_rfl) ?_
            repeat first
              | (refine held_skip ?_ ?_; (· first | rfl | (go_simp; done)); simp only [Act.put, List.setIfInBounds_toArray, List.set_cons_zero, List.set_cons_succ])
              | (refine held_val (v := ?_) ?_ ?_ ?_
                 rotate_left
                 · first | rfl | (go_simp; done)
                 · intro wq hq
                   have e0 := cell_step hq c0
                   have e1 := cell_step hq c1
                   have p0 := cell_step hq P0.out
                   go_simp
                   with_reducible rfl
                 simp only [Act.put, List.setIfInBounds_toArray, List.set_cons_zero, List.set_cons_succ])
              | (refine held_call (v := ?_) (f := ?_) (args := ?_) ?_ ?_ ?_ ?_
                 rotate_left 3
                 · first | rfl | (go_simp; done)
                 · intro wq
                   go_simp
                   constructor
                   · rfl
                   · rfl
                 · intro wq hq
                   first
                     | (refine (oldest_any _ (allU xs) 16384 wq (addrs_on HT3.out wq (bstep HWL.out hq))).mono ?_
                        rintro e wn ⟨rfl, hb1⟩
                        rw [HO.out]
                        constructor
                        · rfl
                        · exact bstep hq hb1)
                 simp only [Act.put, List.setIfInBounds_toArray, List.set_cons_zero, List.set_cons_succ])
            refine held_nil ?_
            intro w2 hb2
            have HB5 := Lib.hid hb2
            have e1 := cell_step hb2 c1
            clear hb2 c0 c1
            go_wp2_with fail
            exact ⟨⟨k + 1, by omega, by simp, by rw [HUS.out], bstep HWL.out HB5.out⟩, by simp [intOf]; omega⟩

        · obtain rfl : k = (allU xs).length := by omega
          rw [List.take_length, HS1.out]
          have HWL := Lib.hid hwl
          clear hwl
          have HF2 := Lib.hid (okay2_seg c (allU xs) HA.out.fits)
          have HSF : Hid (segL c (allU xs) = segF c (allU xs)) := Lib.hid (if_neg (by have := HSZ.out; omega))
          have hsl := HF2.out.len
          rw [← HSF.out] at hsl
          rw [HS1.out] at HS2
          go_wp2_with fail
          go_loopw [14, 18] (fun s i w5 => ∃ k : Nat, k ≤ (segL c (allU xs)).length ∧ i = .int .i64 (k : Int) ∧ s = .int .i64 (sumU ((segL c (allU xs)).take k)) ∧ w5 = wr) (fun _ i _ => ((segL c (allU xs)).length - intOf i).toNat)
          case atStart => exact ⟨0, by omega, rfl, rfl, rfl⟩
          case round =>
            obtain ⟨k, hk, rfl, rfl, rfl⟩ := hrel
            by_cases hlt : k < (segL c (allU xs)).length
            · obtain ⟨u, hu⟩ : ∃ u, (segL c (allU xs))[k]? = some u := ⟨_, List.getElem?_eq_getElem hlt⟩
              have HUS := Lib.hid (sumU_take hu)
              have hum := List.mem_of_getElem? hu
              have hfit : Fits ((segL c (allU xs)).take k) (4194304 * ((allU xs).length : Nat)) := fun z hz => by
                have := HF2.out.fits z (by rw [← HSF.out]; exact List.mem_of_mem_take hz)
                exact this
              have h1 := sumU_bd _ hfit
              have h2 : ((segL c (allU xs)).take k).length ≤ 4096 := by rw [List.length_take]; omega
              have h3 := HF2.out.fits u (by rw [← HSF.out]; exact hum)
              have h4 : 4194304 * (((allU xs).length : Nat) : Int) ≤ 17179869184 := by omega
              have h5 : sumU ((segL c (allU xs)).take k) ≤ 17179869184 * 4096 := Int.le_trans h1.2 (Int.mul_le_mul h4 (by omega) (by omega) (by omega))
              have hw : IntKind.i64.wrap (sumU ((segL c (allU xs)).take k) + u.n) = sumU ((segL c (allU xs)).take k) + u.n := IntWalk.i64_in _ (by omega)
              obtain ⟨a, rfl, _, hcc⟩ := RowK.pts us_len (by omega) (HR3.out.grow HWL.out) k u hu
              have c1 := hcc 1 _ rfl
              simp only [fieldOf] at c1
              generalize sumU ((segL c (allU xs)).take k) = T at *
              clear hum hu hfit h1 h2 h3 h4 h5 hcc
              go_wp2_with fail
              exact ⟨⟨k + 1, by omega, by simp, by rw [HUS.out], trivial⟩, by simp [intOf]; omega⟩
            · obtain rfl : k = (segL c (allU xs)).length := by omega
              rw [List.take_length, HS2.out]
              go_wp2_with (go_at_call 8; refine (wakes_any _).mono ?_; rintro e w6 ⟨rfl, hb6⟩; have HB6 := Lib.hid hb6; clear hb6)
              go_ret
              have b1 := HB1.out
              have b2 := b1.trans (HB2.out.mono b1.size)
              have b3 := b2.trans (HB3.out.mono b2.size)
              have b4 := b3.trans (HWL.out.mono b3.size)
              exact ⟨rfl, b4.trans (HB6.out.mono b4.size)⟩
end Go.Proofs.Ytaaecdijbkkoiaa.LivW
