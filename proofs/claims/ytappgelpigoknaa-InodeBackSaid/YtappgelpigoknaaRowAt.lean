/- Rows of structs of k cells, as they are read. -/
import Derived.Test.YtappgelpigoknaaRowK
import Derived.Test.YtappgelpigoknaaOpen
namespace Go.Proofs.Ytappgelpigoknaa
open Go.RowKit
/-- the j-th cell of a struct, as the walk spells it -/
def fieldOf (p : Addr) : Nat → Addr
  | 0 => p
  | j + 1 => ⟨p.block, p.off + (j + 1), none⟩
theorem fieldOf_block (p : Addr) (j : Nat) : (fieldOf p j).block = p.block := by cases j <;> rfl
theorem fieldOf_add (a : Addr) (i j : Nat) : a.add (i + j) = fieldOf (a.add i) j := by
  cases j with
  | zero => rfl
  | succ j => exact add_field a i j
section
variable {α : Type} {enc : α → List Value} {k : Nat} {T : TypeId}
/-- a slice, nil or not, of such structs, below block B -/
def KAt (enc : α → List Value) (k B : Nat) (oa : Option Addr) (l : List α) (w : World) : Prop :=
  ∀ i x, l[i]? = some x → ∃ a, oa = some a ∧ a.block < B ∧ ∀ j u, (enc x)[j]? = some u → w.cell? (fieldOf (a.add (i * k)) j) = some u
theorem KAt.below {B : Nat} {oa : Option Addr} {l : List α} {w w' : World} (h : KAt enc k B oa l w) (hb : Below B w w') : KAt enc k B oa l w' := by
  intro i x hx
  obtain ⟨a, h1, h2, h3⟩ := h i x hx
  refine ⟨a, h1, h2, fun j u hj => ?_⟩
  rw [← h3 j u hj]
  exact hb.cell (by rw [fieldOf_block, add_block]; exact h2)
theorem KAt.mono {B C : Nat} {oa : Option Addr} {l : List α} {w : World} (h : KAt enc k B oa l w) (hb : B ≤ C) : KAt enc k C oa l w := by
  intro i x hx
  obtain ⟨a, h1, h2, h3⟩ := h i x hx
  exact ⟨a, h1, Nat.lt_of_lt_of_le h2 hb, h3⟩
theorem KAt.grow {oa : Option Addr} {l : List α} {w w' : World} (h : KAt enc k w.heap.size oa l w) (hb : Below w.heap.size w w') : KAt enc k w'.heap.size oa l w' := (h.below hb).mono hb.size
theorem KAt.nil (B : Nat) (oa : Option Addr) (w : World) : KAt enc k B oa ([] : List α) w := fun i x hx => by simp at hx
theorem KAt.take {B : Nat} {oa : Option Addr} {l : List α} {w : World} (h : KAt enc k B oa l w) (n : Nat) : KAt enc k B oa (l.take n) w := fun i x hx => by
  rw [List.getElem?_take] at hx
  split at hx
  · exact h i x hx
  · cases hx
theorem KAt.only {B c : Nat} {oa : Option Addr} {l : List α} {w w' : World} (h : KAt enc k B oa l w) (ho : Only c w w') (hB : B ≤ w.heap.size) (hne : ∀ a, oa = some a → a.block ≠ c) : KAt enc k B oa l w' := by
  intro i x hx
  obtain ⟨a, h1, h2, h3⟩ := h i x hx
  refine ⟨a, h1, h2, fun j u hj => ?_⟩
  have hb : w'.heap[a.block]? = w.heap[a.block]? := ho.block _ (by omega) (fun e => hne a h1 (by injection e))
  rw [← h3 j u hj]
  unfold World.cell?
  rw [fieldOf_block, add_block, hb]
theorem RowK.pts {B : Nat} {w : World} {oa : Option Addr} {n cap : Nat} {l : List α} (hk : ∀ x, (enc x).length = k) (k0 : 0 < k) (h : RowK T enc k B w (.slice oa n cap) l) : KAt enc k w.heap.size oa l w := by
  intro i x hx
  obtain ⟨g, rfl, hB, hg, hc⟩ := h.at hk k0 hx
  refine ⟨_, rfl, hg, fun j u hj => ?_⟩
  have := hc j u hj
  have e : fieldOf ((⟨g, 0, none⟩ : Addr).add (i * k)) j = ⟨g, i * k + j, none⟩ := by
    rw [← fieldOf_add]
    unfold Addr.add
    split <;> simp_all
  rw [e]; exact this
theorem kat_news {B : Nat} {oa : Option Addr} {l : List α} {w : World} (hk : ∀ x, (enc x).length = k) (k0 : 0 < k) (h : KAt enc k B oa l w) : ∀ ad, oa = some ad → ∀ j u, (l.flatMap enc)[j]? = some u → w.cell? (ad.add j) = some u := by
  intro ad e j u hu
  rw [flat_get hk k0] at hu
  obtain ⟨x, hx, hu⟩ := Option.bind_eq_some_iff.1 hu
  obtain ⟨a, e', _, hc⟩ := h _ x hx
  obtain rfl : ad = a := by rw [e] at e'; simpa using e'
  have := hc _ u hu
  rw [← fieldOf_add, Nat.mul_comm, Nat.div_add_mod] at this
  exact this
theorem kat_news_drop {B : Nat} {ad : Addr} {l : List α} {w : World} (hk : ∀ x, (enc x).length = k) (k0 : 0 < k) (h : KAt enc k B (some ad) l w) (m : Nat) : ∀ j u, ((l.drop m).flatMap enc)[j]? = some u → w.cell? (ad.add (m * k + j)) = some u := by
  intro j u hu
  refine kat_news hk k0 h ad rfl _ u ?_
  rw [flat_get hk k0] at hu ⊢
  rw [List.getElem?_drop] at hu
  rw [Nat.mul_comm m k, Nat.mul_add_div k0, Nat.mul_add_mod]
  exact hu
end
end Go.Proofs.Ytappgelpigoknaa
