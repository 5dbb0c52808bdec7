/- Records, as plain data: what a kind has, which ones have a form. -/
import Derived.Test.YtiffmigihhcgcaaGreatDoorOpRow
import Derived.Test.YtiffmigihhcgcaaGreatDoorPathPlain
namespace Go.Proofs.YtiffmigihhcgcaaGreatDoor.OpP
open Go.RowKit
structure Mv where
  a : Int
  f : Int
  n : Int
  t : Int
deriving DecidableEq
def encM (x : Mv) : List Value := [.int .i64 x.a, .int .i64 x.f, .int .i64 x.n, .int .i64 x.t]
theorem encM_len (x : Mv) : (encM x).length = 4 := rfl
theorem encM_one (l : List Mv) : ∀ u ∈ l.flatMap encM, u.oneCell' = true := by
  intro u hu
  obtain ⟨x, _, hx⟩ := List.mem_flatMap.1 hu
  simp [encM] at hx
  rcases hx with rfl | rfl | rfl | rfl <;> rfl
structure Rec where
  cl : Int
  sq : Int
  k : Int
  p : ByteArray
  t : ByteArray
  sz : Int
  h : Int
  o : Int
  d : ByteArray
  tk : Int
  i : Int
  m : List Mv
def nob : ByteArray := ⟨#[]⟩
/-- which fields a kind has -/
def hasP (k : Int) : Bool := k == 1 || k == 2 || k == 3 || k == 4 || k == 5 || k == 6 || k == 7 || k == 8
def hasT (k : Int) : Bool := k == 4 || k == 6
def hasS (k : Int) : Bool := k == 7 || k == 14
def hasH (k : Int) : Bool := k == 9 || k == 10
def hasO (k : Int) : Bool := k == 10 || k == 14
def hasD (k : Int) : Bool := k == 10 || k == 13 || k == 14
def hasK (k : Int) : Bool := k == 11 || k == 12
def hasM (k : Int) : Bool := k == 13
def only (r : Rec) : Rec := ⟨r.cl, r.sq, r.k, if hasP r.k then r.p else ⟨#[]⟩, if hasT r.k then r.t else ⟨#[]⟩, if hasS r.k then r.sz else 0, if hasH r.k then r.h else 0, if hasO r.k then r.o else 0,
  if hasD r.k then r.d else ⟨#[]⟩, if hasK r.k then r.tk else 0, if hasM r.k then r.i else 0, if hasM r.k then r.m else []⟩
/-- the first field in which two records part: 12, if they are alike -/
def part (x y : Rec) : Nat :=
  if x.cl ≠ y.cl then 0 else if x.sq ≠ y.sq then 1 else if x.k ≠ y.k then 2 else if x.p ≠ y.p then 3 else if x.t ≠ y.t then 4 else if x.sz ≠ y.sz then 5 else
  if x.h ≠ y.h then 6 else if x.o ≠ y.o then 7 else if x.d ≠ y.d then 8 else if x.tk ≠ y.tk then 9 else if x.i ≠ y.i then 10 else if x.m ≠ y.m then 11 else 12
def sameB (x y : Rec) : Bool := part x y == 12
theorem sameB_iff (x y : Rec) : sameB x y = true ↔ x = y := by
  obtain ⟨c1, s1, k1, p1, t1, z1, h1, o1, d1, q1, i1, m1⟩ := x
  obtain ⟨c2, s2, k2, p2, t2, z2, h2, o2, d2, q2, i2, m2⟩ := y
  constructor
  · intro h
    unfold sameB part at h
    simp only at h
    have hd : ∀ (P : Prop) [Decidable P] (i j : Nat), i ≠ 12 → ((if P then i else j) == 12) = true → ¬ P ∧ (j == 12) = true := by
      intro P _ i j hi he
      by_cases hp : P
      · rw [if_pos hp] at he; exact absurd (by simpa using he) hi
      · rw [if_neg hp] at he; exact ⟨hp, he⟩
    obtain ⟨e0, h⟩ := hd _ _ _ (by decide) h
    obtain ⟨e1, h⟩ := hd _ _ _ (by decide) h
    obtain ⟨e2, h⟩ := hd _ _ _ (by decide) h
    obtain ⟨e3, h⟩ := hd _ _ _ (by decide) h
    obtain ⟨e4, h⟩ := hd _ _ _ (by decide) h
    obtain ⟨e5, h⟩ := hd _ _ _ (by decide) h
    obtain ⟨e6, h⟩ := hd _ _ _ (by decide) h
    obtain ⟨e7, h⟩ := hd _ _ _ (by decide) h
    obtain ⟨e8, h⟩ := hd _ _ _ (by decide) h
    obtain ⟨e9, h⟩ := hd _ _ _ (by decide) h
    obtain ⟨e10, h⟩ := hd _ _ _ (by decide) h
    obtain ⟨e11, h⟩ := hd _ _ _ (by decide) h
    simp only [ne_eq, Decidable.not_not] at e0 e1 e2 e3 e4 e5 e6 e7 e8 e9 e10 e11
    subst e0; subst e1; subst e2; subst e3; subst e4; subst e5; subst e6; subst e7; subst e8; subst e9; subst e10; subst e11
    rfl
  · intro h
    rw [h]
    simp [sameB, part]
/-- a move that a record of so much data may have -/
def mvB (n : Nat) (x : Mv) : Bool := decide (0 ≤ x.a ∧ x.a ≤ 16383 ∧ 0 ≤ x.f ∧ x.f ≤ 1024 ∧ 1 ≤ x.n ∧ x.n ≤ 1024 ∧ 0 ≤ x.t ∧ x.t ≤ (n : Int) - x.n)
def pathB (s : ByteArray) : Bool := (PathW.namesR s.data.toList).isSome
def formB (r : Rec) : Bool :=
  if r.k == 4 || r.k == 6 then pathB r.p && pathB r.t
  else if r.k == 7 then pathB r.p && decide (0 ≤ r.sz ∧ r.sz ≤ 8192)
  else if hasP r.k then pathB r.p
  else if r.k == 9 then decide (0 ≤ r.h ∧ r.h ≤ 16383)
  else if r.k == 10 then decide (0 ≤ r.h ∧ r.h ≤ 16383 ∧ 0 ≤ r.o ∧ r.o ≤ 8192 ∧ 1 ≤ r.d.size ∧ r.d.size ≤ 1024)
  else if r.k == 11 || r.k == 12 then decide (0 ≤ r.tk ∧ r.tk ≤ 1099511627776)
  else if r.k == 13 then decide (1 ≤ r.i ∧ r.i ≤ 2147483647 ∧ 1 ≤ r.m.length ∧ r.m.length ≤ 16 ∧ r.d.size ≤ 1024) && r.m.all (mvB r.d.size)
  else if r.k == 14 then decide (1 ≤ r.d.size ∧ r.d.size ≤ 1024 ∧ 1 ≤ r.sz ∧ r.sz ≤ 65536 ∧ 0 ≤ r.o ∧ r.o + r.d.size ≤ r.sz)
  else false
def headB (r : Rec) : Bool := decide (0 ≤ r.cl ∧ r.cl ≤ 7 ∧ 1 ≤ r.sq ∧ r.sq ≤ 2147483647)
def goodB (r : Rec) : Bool := headB r && formB r && sameB r (only r)
theorem formB_kind {r : Rec} (h : formB r = true) : 1 ≤ r.k ∧ r.k ≤ 14 := by
  unfold formB hasP at h
  simp only [Bool.or_eq_true, beq_iff_eq] at h
  repeat' (split at h; (first | omega | skip))
  cases h
end Go.Proofs.YtiffmigihhcgcaaGreatDoor.OpP
