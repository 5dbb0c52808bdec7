/- Several texts in one, of what this seat needs. -/
import Derived.Test.YtiffmigihhcgcaaGreatDoorFrame
import Derived.Test.YtiffmigihhcgcaaGreatDoorOpen
namespace Go.Proofs.YtiffmigihhcgcaaGreatDoor
open Go.RowKit
section
variable {α : Type} {enc : α → List Value} {k : Nat} {T : TypeId}
theorem flat_len (hk : ∀ x, (enc x).length = k) : ∀ l : List α, (l.flatMap enc).length = l.length * k
  | [] => by simp
  | x :: l => by rw [List.flatMap_cons, List.length_append, flat_len hk l, hk, List.length_cons, Nat.add_mul]; omega
theorem flat_get (hk : ∀ x, (enc x).length = k) (k0 : 0 < k) : ∀ (l : List α) (t : Nat), (l.flatMap enc)[t]? = (l[t / k]?).bind fun x => (enc x)[t % k]?
  | [], t => by simp
  | x :: l, t => by
    rw [List.flatMap_cons]
    by_cases h : t < k
    · rw [List.getElem?_append_left (by rw [hk]; exact h), Nat.div_eq_of_lt h, Nat.mod_eq_of_lt h]
      simp
    · rw [List.getElem?_append_right (by rw [hk]; omega), hk, flat_get hk k0 l (t - k)]
      have h1 : t / k = (t - k) / k + 1 := by
        conv => lhs; rw [show t = (t - k) + k by omega]
        rw [Nat.add_div_right _ k0]
      have h2 : t % k = (t - k) % k := by
        conv => lhs; rw [show t = (t - k) + k by omega]
        rw [Nat.add_mod_right]
      rw [h1, h2]
      simp
/-- a row of such structs, from block B on -/
def RowK (T : TypeId) (enc : α → List Value) (k B : Nat) (w : World) (v : Value) (l : List α) : Prop := w.ownsRow B T k v l.length (l.flatMap enc)
variable {B : Nat} {w : World} {v : Value} {l : List α}
theorem RowK.nil (B : Nat) (w : World) : RowK T enc k B w (.slice none 0 0) ([] : List α) := World.ownsRow_nil _ _ _ _
theorem RowK.form (h : RowK T enc k B w v l) : ∃ oa cap, v = .slice oa l.length cap ∧ l.length ≤ cap ∧ cap ≤ maxLen ∧ (oa = none → l.length = 0 ∧ cap = 0) := by
  rcases h.2 with ⟨rfl, h0⟩ | ⟨g, cap, cur, rfl, _, _, h1, h2, _⟩
  · exact ⟨none, 0, by rw [h0], by omega, by simp, fun _ => ⟨h0, rfl⟩⟩
  · exact ⟨_, _, rfl, h1, h2, fun e => by cases e⟩
theorem RowK.grow {w' : World} (h : RowK T enc k B w v l) (hb : Below w.heap.size w w') : RowK T enc k B w' v l :=
  World.ownsRow.kept h (row := none) ⟨hb.os, hb.tape, hb.output, hb.size, fun k hk _ => hb.block k hk⟩ (by
    cases hv : v.ownBlock with
    | none => exact .inl rfl
    | some k => exact .inr (by simp))
theorem RowK.mono {C : Nat} (h : RowK T enc k B w v l) (hb : C ≤ B) : RowK T enc k C w v l := by
  refine ⟨h.1, ?_⟩
  rcases h.2 with h2 | ⟨g, cap, cur, h1, h2, h3⟩
  · exact .inl h2
  · exact .inr ⟨g, cap, cur, h1, Nat.le_trans hb h2, h3⟩
theorem RowK.snoc {oa : Option Addr} {n cap : Nat} {cs : Array Value} (x : α) (hx : cs.toList = enc x) (hn : n = l.length) (h : w.ownsRow B T k (.slice oa (n + 1) cap) (n + 1) (l.flatMap enc ++ cs.toList)) : RowK T enc k B w (.slice oa (n + 1) cap) (l ++ [x]) := by
  subst hn
  unfold RowK
  rw [List.length_append, List.flatMap_append, List.flatMap_singleton, ← hx]
  exact h
/-- one element's cells -/
theorem RowK.at {oa : Option Addr} {n cap : Nat} (hk : ∀ x, (enc x).length = k) (k0 : 0 < k) (h : RowK T enc k B w (.slice oa n cap) l) {i : Nat} {x : α} (hx : l[i]? = some x) :
    ∃ g, oa = some ⟨g, 0, none⟩ ∧ B ≤ g ∧ g < w.heap.size ∧ ∀ (j : Nat) (u : Value), (enc x)[j]? = some u → w.cell? ⟨g, i * k + j, none⟩ = some u := by
  have hi : i < l.length := (List.getElem?_eq_some_iff.1 hx).1
  rcases h.2 with ⟨e, h0⟩ | ⟨g, cap', cur, e, h1, h2, h3, h4, h5, h6⟩
  · omega
  · simp only [Value.slice.injEq] at e
    obtain ⟨rfl, rfl, rfl⟩ := e
    refine ⟨g, rfl, h1, lt_of_block h2, fun j u hj => ?_⟩
    have hjk : j < k := by have := (List.getElem?_eq_some_iff.1 hj).1; rwa [hk] at this
    have hlt : i * k + j < l.length * k := Nat.lt_of_lt_of_le (Nat.add_lt_add_left hjk _) (by rw [← Nat.succ_mul]; exact Nat.mul_le_mul_right _ hi)
    have e1 : (l.flatMap enc)[i * k + j]? = some u := by
      rw [flat_get hk k0, Nat.mul_comm i k, Nat.mul_add_div k0, Nat.div_eq_of_lt hjk, Nat.add_zero, Nat.mul_add_mod, Nat.mod_eq_of_lt hjk, hx]
      exact hj
    rw [← h6, List.getElem?_take, if_pos hlt] at e1
    rw [Lib.cell_of_heap h2]
    simpa using e1
variable [Inhabited α]
end
end Go.Proofs.YtiffmigihhcgcaaGreatDoor

namespace Go.Proofs.YtiffmigihhcgcaaGreatDoor
open Go.RowKit
/-- the j-th cell of a struct, as the walk spells it -/
def fieldOf (p : Addr) : Nat → Addr
  | 0 => p
  | j + 1 => ⟨p.block, p.off + (j + 1), none⟩
theorem fieldOf_block (p : Addr) (j : Nat) : (fieldOf p j).block = p.block := by cases j <;> rfl
theorem fieldOf_add (a : Addr) (i j : Nat) : a.add (i + j) = fieldOf (a.add i) j := by
  cases j with
  | zero => rfl
  | succ j => exact add_field a i j
section
variable {α : Type} {enc : α → List Value} {k : Nat} {T : TypeId}
/-- a slice, nil or not, of such structs, below block B -/
def KAt (enc : α → List Value) (k B : Nat) (oa : Option Addr) (l : List α) (w : World) : Prop :=
  ∀ i x, l[i]? = some x → ∃ a, oa = some a ∧ a.block < B ∧ ∀ j u, (enc x)[j]? = some u → w.cell? (fieldOf (a.add (i * k)) j) = some u
theorem KAt.below {B : Nat} {oa : Option Addr} {l : List α} {w w' : World} (h : KAt enc k B oa l w) (hb : Below B w w') : KAt enc k B oa l w' := by
  intro i x hx
  obtain ⟨a, h1, h2, h3⟩ := h i x hx
  refine ⟨a, h1, h2, fun j u hj => ?_⟩
  rw [← h3 j u hj]
  exact hb.cell (by rw [fieldOf_block, add_block]; exact h2)
theorem KAt.mono {B C : Nat} {oa : Option Addr} {l : List α} {w : World} (h : KAt enc k B oa l w) (hb : B ≤ C) : KAt enc k C oa l w := by
  intro i x hx
  obtain ⟨a, h1, h2, h3⟩ := h i x hx
  exact ⟨a, h1, Nat.lt_of_lt_of_le h2 hb, h3⟩
theorem KAt.grow {oa : Option Addr} {l : List α} {w w' : World} (h : KAt enc k w.heap.size oa l w) (hb : Below w.heap.size w w') : KAt enc k w'.heap.size oa l w' := (h.below hb).mono hb.size
theorem KAt.nil (B : Nat) (oa : Option Addr) (w : World) : KAt enc k B oa ([] : List α) w := fun i x hx => by simp at hx
theorem KAt.take {B : Nat} {oa : Option Addr} {l : List α} {w : World} (h : KAt enc k B oa l w) (n : Nat) : KAt enc k B oa (l.take n) w := fun i x hx => by
  rw [List.getElem?_take] at hx
  split at hx
  · exact h i x hx
  · cases hx
theorem KAt.only {B c : Nat} {oa : Option Addr} {l : List α} {w w' : World} (h : KAt enc k B oa l w) (ho : Only c w w') (hB : B ≤ w.heap.size) (hne : ∀ a, oa = some a → a.block ≠ c) : KAt enc k B oa l w' := by
  intro i x hx
  obtain ⟨a, h1, h2, h3⟩ := h i x hx
  refine ⟨a, h1, h2, fun j u hj => ?_⟩
  have hb : w'.heap[a.block]? = w.heap[a.block]? := ho.block _ (by omega) (fun e => hne a h1 (by injection e))
  rw [← h3 j u hj]
  unfold World.cell?
  rw [fieldOf_block, add_block, hb]
theorem RowK.pts {B : Nat} {w : World} {oa : Option Addr} {n cap : Nat} {l : List α} (hk : ∀ x, (enc x).length = k) (k0 : 0 < k) (h : RowK T enc k B w (.slice oa n cap) l) : KAt enc k w.heap.size oa l w := by
  intro i x hx
  obtain ⟨g, rfl, hB, hg, hc⟩ := h.at hk k0 hx
  refine ⟨_, rfl, hg, fun j u hj => ?_⟩
  have := hc j u hj
  have e : fieldOf ((⟨g, 0, none⟩ : Addr).add (i * k)) j = ⟨g, i * k + j, none⟩ := by
    rw [← fieldOf_add]
    unfold Addr.add
    split <;> simp_all
  rw [e]; exact this
theorem kat_news {B : Nat} {oa : Option Addr} {l : List α} {w : World} (hk : ∀ x, (enc x).length = k) (k0 : 0 < k) (h : KAt enc k B oa l w) : ∀ ad, oa = some ad → ∀ j u, (l.flatMap enc)[j]? = some u → w.cell? (ad.add j) = some u := by
  intro ad e j u hu
  rw [flat_get hk k0] at hu
  obtain ⟨x, hx, hu⟩ := Option.bind_eq_some_iff.1 hu
  obtain ⟨a, e', _, hc⟩ := h _ x hx
  obtain rfl : ad = a := by rw [e] at e'; simpa using e'
  have := hc _ u hu
  rw [← fieldOf_add, Nat.mul_comm, Nat.div_add_mod] at this
  exact this
theorem kat_news_drop {B : Nat} {ad : Addr} {l : List α} {w : World} (hk : ∀ x, (enc x).length = k) (k0 : 0 < k) (h : KAt enc k B (some ad) l w) (m : Nat) : ∀ j u, ((l.drop m).flatMap enc)[j]? = some u → w.cell? (ad.add (m * k + j)) = some u := by
  intro j u hu
  refine kat_news hk k0 h ad rfl _ u ?_
  rw [flat_get hk k0] at hu ⊢
  rw [List.getElem?_drop] at hu
  rw [Nat.mul_comm m k, Nat.mul_add_div k0, Nat.mul_add_mod]
  exact hu
end
end Go.Proofs.YtiffmigihhcgcaaGreatDoor
