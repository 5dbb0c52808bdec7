/- Which lists of inodes are a table's, plainly. -/
import Derived.Test.YtappgelpigoknaaInoOps
namespace Go.Proofs.Ytappgelpigoknaa.InoP
open ExtW (Pt endL endS)
/-- one inode at its place -/
structure OkX (next : Int) (x : Ino) : Prop where
  i1 : 1 ≤ x.i
  i2 : x.i < next
  k : x.k = 1 ∨ x.k = 2
  l : 0 ≤ x.l ∧ x.l ≤ 8
  o : 0 ≤ x.o ∧ x.o ≤ 128
  h : x.l + x.o ≠ 0
  d : x.k = 1 → x.o = 0 ∧ x.s = 0 ∧ x.p.length = 0
  s : 0 ≤ x.s ∧ x.s ≤ 8192
  g : ExtW.Good x.p
  e : endS x.p ≤ x.s
def OkI (xs : List Ino) (next : Int) (i : Nat) : Prop := ∀ x, xs[i]? = some x → OkX next x ∧ ∀ p, 0 < i → xs[i - 1]? = some p → p.i < x.i
structure LGood (xs : List Ino) (next : Int) : Prop where
  n : 2 ≤ next ∧ next ≤ 2147483647
  len : 1 ≤ xs.length ∧ xs.length ≤ 64
  all : ∀ i, i < xs.length → OkI xs next i
  first : ∀ x, xs[0]? = some x → x.i = 1 ∧ x.k = 1 ∧ x.l = 1
theorem LGood.mem {xs : List Ino} {next : Int} (h : LGood xs next) {x : Ino} (hx : x ∈ xs) : OkX next x := by
  obtain ⟨i, hi, rfl⟩ := List.getElem_of_mem hx
  exact (h.all i hi _ (List.getElem?_eq_getElem hi)).1
theorem LGood.adj {xs : List Ino} {next : Int} (h : LGood xs next) {i : Nat} {a b : Ino} (ha : xs[i]? = some a) (hb : xs[i + 1]? = some b) : a.i < b.i :=
  (h.all (i + 1) (List.getElem?_eq_some_iff.1 hb).1 b hb).2 a (by omega) ha
theorem LGood.lt {xs : List Ino} {next : Int} (h : LGood xs next) : ∀ (d i : Nat) {a b : Ino}, xs[i]? = some a → xs[i + 1 + d]? = some b → a.i < b.i
  | 0, i, a, b, ha, hb => h.adj ha hb
  | d + 1, i, a, b, ha, hb => by
    have hj := (List.getElem?_eq_some_iff.1 hb).1
    obtain ⟨c, hc⟩ : ∃ c, xs[i + 1 + d]? = some c := ⟨_, List.getElem?_eq_getElem (by omega)⟩
    have h1 := h.lt d i ha hc
    have h2 := h.adj (i := i + 1 + d) hc (by rw [← hb]; rfl)
    omega
theorem LGood.rises {xs : List Ino} {next : Int} (h : LGood xs next) : Rises xs := by
  refine List.pairwise_iff_getElem.2 fun i j hi hj hij => ?_
  have := h.lt (j - i - 1) i (List.getElem?_eq_getElem hi) (b := xs[j]) (by rw [show i + 1 + (j - i - 1) = j by omega]; exact List.getElem?_eq_getElem hj)
  exact this
theorem OkX.good {next : Int} {x : Ino} (h : OkX next x) : IGood x := by
  refine ⟨h.k, h.l, h.o, h.s, h.g, ?_, fun e => ?_⟩
  · have := h.e
    unfold endS at this
    rwa [if_pos h.g] at this
  · obtain ⟨a, b, c⟩ := h.d e
    exact ⟨a, b, List.eq_nil_of_length_eq_zero c⟩
theorem LGood.table {xs : List Ino} {next : Int} (h : LGood xs next) : TGood xs next :=
  ⟨h.rises, fun _ hx => (h.mem hx).good, fun _ hx => ⟨(h.mem hx).i1, (h.mem hx).i2⟩, h.len.2, h.n⟩
/-- the first k, put one behind the other -/
theorem take_find {xs : List Ino} (hr : Rises xs) {k : Nat} {x : Ino} (hx : xs[k]? = some x) : find (xs.take k) x.i = none := by
  refine find_none.2 fun a ha e => ?_
  obtain ⟨i, hi, rfl⟩ := List.getElem_of_mem ha
  have hk := (List.getElem?_eq_some_iff.1 hx).1
  have hx' := (List.getElem?_eq_some_iff.1 hx).2
  rw [List.length_take] at hi
  rw [List.getElem_take] at e
  have := List.pairwise_iff_getElem.1 hr i k (by omega) hk (by omega)
  rw [hx'] at this
  omega
end Go.Proofs.Ytappgelpigoknaa.InoP
