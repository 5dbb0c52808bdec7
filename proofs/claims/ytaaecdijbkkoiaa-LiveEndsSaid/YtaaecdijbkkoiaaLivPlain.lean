/- How many bytes of each address count, plainly: a list that rises by address. -/
import Derived.Test.YtaaecdijbkkoiaaSl
import Derived.Test.YtaaecdijbkkoiaaGot
import Derived.Test.YtaaecdijbkkoiaaInoPlain
namespace Go.Proofs.Ytaaecdijbkkoiaa.LivP
open ExtW (Pt)
/-- an address, and how many of its bytes -/
structure U where
  a : Int
  n : Int
deriving DecidableEq
def il (x y : Int) : Prop := x < y
instance (x y : Int) : Decidable (il x y) := inferInstanceAs (Decidable (x < y))
theorem ilLin : Sl.Lin il := ⟨fun x => by unfold il; omega, fun x y z => by unfold il; omega, fun x y => by unfold il; omega⟩
theorem uKV : Sl.KV U.a U.n U.mk := ⟨fun _ _ => rfl, fun _ _ => rfl, fun _ => rfl⟩
def Rises (L : List U) : Prop := Sl.Rises U.a il L
def lk (L : List U) (x : Int) : Option Int := Sl.look U.a U.n L x
/-- some more bytes of an address -/
def addU (L : List U) (a n : Int) : List U :=
  match lk L a with
  | some v => L.map fun u => if u.a = a then ⟨a, v + n⟩ else u
  | none => Sl.ins U.a il L ⟨a, n⟩
theorem map_key (L : List U) (a m : Int) : (L.map fun u => if u.a = a then (⟨a, m⟩ : U) else u).map U.a = L.map U.a := by
  rw [List.map_map]
  refine List.map_congr_left fun u _ => ?_
  simp only [Function.comp]
  split
  · rename_i h; exact h.symm
  · rfl
theorem rises_keys (L : List U) : Rises L ↔ (L.map U.a).Pairwise (· < ·) := by
  unfold Rises Sl.Rises
  rw [List.pairwise_map]
  exact Iff.rfl
theorem addU_rises {L : List U} (h : Rises L) (a n : Int) : Rises (addU L a n) := by
  unfold addU
  cases hk : lk L a with
  | some v => simp only; rw [rises_keys, map_key, ← rises_keys]; exact h
  | none => exact Sl.rises_ins ilLin h ((Sl.look_none a).1 hk)
theorem lk_map (L : List U) (a m v : Int) (h : lk L a = some v) (z : Int) : lk (L.map fun u => if u.a = a then (⟨a, m⟩ : U) else u) z = if z = a then some m else lk L z := by
  unfold lk Sl.look at *
  induction L with
  | nil => simp at h
  | cons u L ih =>
    rw [List.map_cons, List.find?_cons]
    rw [List.find?_cons] at h
    by_cases hu : u.a = a
    · rw [if_pos hu]
      by_cases hz : z = a
      · rw [if_pos hz, show decide (a = z) = true from decide_eq_true hz.symm]; rfl
      · rw [if_neg hz, show decide (a = z) = false from decide_eq_false (fun e => hz e.symm), List.find?_cons, show decide (u.a = z) = false from decide_eq_false (fun e => hz (by rw [← e, hu]))]
        clear ih h
        induction L with
        | nil => rfl
        | cons y L ih =>
          rw [List.map_cons, List.find?_cons, List.find?_cons]
          by_cases hy : y.a = a
          · rw [if_pos hy, show decide (a = z) = false from decide_eq_false (fun e => hz e.symm), show decide (y.a = z) = false from decide_eq_false (fun e => hz (by rw [← e, hy]))]
            exact ih
          · rw [if_neg hy]
            cases decide (y.a = z) with
            | true => rfl
            | false => exact ih
    · rw [show decide (u.a = a) = false from decide_eq_false hu] at h
      rw [if_neg hu, List.find?_cons]
      by_cases hz : u.a = z
      · rw [show decide (u.a = z) = true from decide_eq_true hz, if_neg (by rw [← hz]; exact hu)]
      · rw [show decide (u.a = z) = false from decide_eq_false hz]
        exact ih h
theorem lk_add {L : List U} (h : Rises L) (a n : Int) : lk (addU L a n) = fun z => if z = a then some ((lk L a).getD 0 + n) else lk L z := by
  funext z
  unfold addU
  cases hk : lk L a with
  | some v => simp only; rw [lk_map L a (v + n) v hk]; rfl
  | none =>
    have := Sl.look_ins ilLin uKV h (a := ⟨a, n⟩) ((Sl.look_none a).1 hk)
    have := congrFun this z
    simp only at this ⊢
    unfold lk
    rw [this]
    simp
/-- all values lie between 0 and a number -/
def Fits (L : List U) (m : Int) : Prop := ∀ u ∈ L, 0 ≤ u.n ∧ u.n ≤ m
theorem fits_lk {L : List U} (h : Rises L) {m : Int} (hf : Fits L m) (hm : 0 ≤ m) (a : Int) : 0 ≤ (lk L a).getD 0 ∧ (lk L a).getD 0 ≤ m := by
  cases hk : lk L a with
  | none => simp; exact hm
  | some v => exact hf ⟨a, v⟩ ((Sl.look_iff ilLin uKV h a v).1 hk)
theorem addU_fits {L : List U} (h : Rises L) {m : Int} (hf : Fits L m) (hm : 0 ≤ m) {a n : Int} (hn : 0 ≤ n ∧ n ≤ 1024) : Fits (addU L a n) (m + 1024) := by
  have hb := fits_lk h hf hm a
  unfold addU
  intro u hu
  cases hk : lk L a with
  | some v =>
    rw [hk] at hu hb
    simp only [List.mem_map, Option.getD_some] at hu hb
    obtain ⟨x, hx, e⟩ := hu
    have := hf x hx
    split at e
    · rw [← e]; simp only; omega
    · rw [← e]; omega
  | none =>
    rw [hk] at hu
    rcases (Sl.mem_ins L ⟨a, n⟩ u).1 hu with rfl | hu
    · simp only; omega
    · have := hf u hu; omega
theorem addU_len (L : List U) (a n : Int) : (addU L a n).length ≤ L.length + 1 := by
  unfold addU
  cases lk L a with
  | some v => simp
  | none => simp only; rw [Sl.ins_length]; exact Nat.le_refl _
/-- of a list of parts, on top of what is there -/
def partsU (L : List U) (l : List Pt) : List U := l.foldl (fun L x => addU L x.a x.n) L
def allU (xs : List InoP.Ino) : List U := xs.foldl (fun L x => partsU L x.p) []
theorem partsU_snoc (L : List U) (l : List Pt) (x : Pt) : partsU L (l ++ [x]) = addU (partsU L l) x.a x.n := by unfold partsU; simp
theorem allU_snoc (xs : List InoP.Ino) (x : InoP.Ino) : allU (xs ++ [x]) = partsU (allU xs) x.p := by unfold allU; simp
structure Okay (L : List U) (c : Nat) : Prop where
  rises : Rises L
  fits : Fits L (1024 * c)
  len : L.length ≤ c
theorem okay_nil : Okay [] 0 := ⟨List.Pairwise.nil, fun u h => by simp at h, by simp⟩
theorem Okay.add {L : List U} {c : Nat} (h : Okay L c) {a n : Int} (hn : 0 ≤ n ∧ n ≤ 1024) : Okay (addU L a n) (c + 1) :=
  ⟨addU_rises h.rises a n, by have := addU_fits h.rises h.fits (by omega) (a := a) hn; rw [show (1024 : Int) * (c : Nat) + 1024 = 1024 * ((c + 1 : Nat) : Int) by omega] at this; exact this, by have := addU_len L a n; have := h.len; omega⟩
theorem Okay.mono {L : List U} {c d : Nat} (h : Okay L c) (hd : c ≤ d) : Okay L d := ⟨h.rises, fun u hu => by have := h.fits u hu; omega, by have := h.len; omega⟩
end Go.Proofs.Ytaaecdijbkkoiaa.LivP
