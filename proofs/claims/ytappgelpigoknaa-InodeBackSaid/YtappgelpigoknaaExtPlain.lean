/- Parts of a file, plainly. -/
import Derived.Test.YtappgelpigoknaaBase
namespace Go.Proofs.Ytappgelpigoknaa.ExtW
open Go.RowKit
/-- a part -/
structure Pt where
  o : Int
  n : Int
  a : Int
  f : Int
deriving DecidableEq
def Whole (at_ n m : Int) : Prop := 0 ≤ at_ ∧ 1 ≤ n ∧ n ≤ m ∧ at_ ≤ m - n
instance (a n m : Int) : Decidable (Whole a n m) := by unfold Whole; infer_instance
/-- a part alone is good -/
def One (x : Pt) : Prop := Whole x.o x.n 8192 ∧ Whole x.f x.n 1024 ∧ 0 ≤ x.a ∧ x.a < 16384
instance (x : Pt) : Decidable (One x) := by unfold One; infer_instance
/-- the later one goes on where the one ahead ends -/
def Joins (p x : Pt) : Prop := p.o + p.n = x.o ∧ p.a = x.a ∧ p.f + p.n = x.f
instance (p x : Pt) : Decidable (Joins p x) := by unfold Joins; infer_instance
/-- what may stand behind what -/
def Next (p x : Pt) : Prop := p.o + p.n ≤ x.o ∧ ¬ Joins p x
instance (p x : Pt) : Decidable (Next p x) := by unfold Next; infer_instance
/-- each is good, and each may stand behind the one ahead -/
def Chain : List Pt → Prop
  | [] => True
  | [x] => One x
  | x :: y :: l => One x ∧ Next x y ∧ Chain (y :: l)
instance decChain : (l : List Pt) → Decidable (Chain l)
  | [] => by unfold Chain; infer_instance
  | [x] => by unfold Chain; infer_instance
  | x :: y :: l => by have := decChain (y :: l); unfold Chain; infer_instance
def Good (l : List Pt) : Prop := l.length ≤ 64 ∧ Chain l
instance (l : List Pt) : Decidable (Good l) := by unfold Good; infer_instance
/-- the same by places -/
def OkAt (l : List Pt) (i : Nat) : Prop := ∀ x, l[i]? = some x → One x ∧ ∀ p, 0 < i → l[i - 1]? = some p → Next p x
theorem chain_iff : ∀ l : List Pt, Chain l ↔ ∀ i, i < l.length → OkAt l i
  | [] => by simp [Chain]
  | [x] => by
    simp only [Chain]
    constructor
    · intro h i hi y hy
      obtain rfl : i = 0 := by simpa using hi
      obtain rfl : x = y := by simpa using hy
      exact ⟨h, fun p h0 => absurd h0 (by omega)⟩
    · intro h
      exact (h 0 (by simp) x rfl).1
  | x :: y :: l => by
    have ih := chain_iff (y :: l)
    simp only [Chain]
    rw [ih]
    constructor
    · rintro ⟨h1, h2, h3⟩ i hi z hz
      match i with
      | 0 =>
        obtain rfl : x = z := by simpa using hz
        exact ⟨h1, fun p h0 => absurd h0 (by omega)⟩
      | 1 =>
        obtain rfl : y = z := by simpa using hz
        refine ⟨(h3 0 (by simp) y rfl).1, fun p _ hp => ?_⟩
        obtain rfl : x = p := by simpa using hp
        exact h2
      | i + 2 =>
        have := h3 (i + 1) (by simpa using hi) z (by simpa using hz)
        refine ⟨this.1, fun p _ hp => this.2 p (by omega) (by simpa using hp)⟩
    · intro h
      refine ⟨(h 0 (by simp) x rfl).1, (h 1 (by simp) y rfl).2 x (by omega) rfl, fun i hi z hz => ?_⟩
      have := h (i + 1) (by simpa using hi) z (by simpa using hz)
      refine ⟨this.1, fun p h0 hp => this.2 p (by omega) ?_⟩
      match i, h0 with
      | i + 1, _ => simpa using hp
theorem One.small {x : Pt} (h : One x) : 0 ≤ x.o ∧ 1 ≤ x.n ∧ x.n ≤ 1024 ∧ x.o + x.n ≤ 8192 ∧ 0 ≤ x.a ∧ x.a < 16384 ∧ 0 ≤ x.f ∧ x.f + x.n ≤ 1024 := by
  unfold One Whole at h; omega
end Go.Proofs.Ytappgelpigoknaa.ExtW
