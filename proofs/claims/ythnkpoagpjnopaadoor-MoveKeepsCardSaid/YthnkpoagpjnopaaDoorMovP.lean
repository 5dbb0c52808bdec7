/- What move's Build comes to, plainly. -/
import Derived.Test.YthnkpoagpjnopaaDoorOpPlain
import Derived.Test.YthnkpoagpjnopaaDoorExtPlain
namespace Go.Proofs.YthnkpoagpjnopaaDoor.MovP
open OpP ExtW
/-- an address's data -/
structure Tx where
  a : Int
  s : ByteArray
def txt (D : List Tx) (a : Int) : Option ByteArray := D.foldl (fun o d => if d.a = a then some d.s else o) none
theorem txt_snoc (D : List Tx) (d : Tx) (a : Int) : txt (D ++ [d]) a = if d.a = a then some d.s else txt D a := by unfold txt; rw [List.foldl_append]; rfl
theorem txt_size {m : Nat} : ∀ {D : List Tx} (_ : ∀ d ∈ D, d.s.size ≤ m) {a : Int} {s : ByteArray}, txt D a = some s → s.size ≤ m := by
  intro D h a s hs
  have key : ∀ (D : List Tx) (o : Option ByteArray), (∀ d ∈ D, d.s.size ≤ m) → (∀ s, o = some s → s.size ≤ m) → ∀ s, D.foldl (fun o d => if d.a = a then some d.s else o) o = some s → s.size ≤ m := by
    intro D
    induction D with
    | nil => exact fun o _ h2 s hs => h2 s hs
    | cons d D ih =>
      intro o h1 h2 s hs
      rw [List.foldl_cons] at hs
      refine ih _ (fun x hx => h1 x (by simp [hx])) (fun s' hs' => ?_) s hs
      by_cases ha : d.a = a
      · rw [if_pos ha] at hs'
        injection hs' with hs'
        rw [← hs']; exact h1 d (by simp)
      · rw [if_neg ha] at hs'
        exact h2 _ hs'
  exact key D none h (fun s hs => by cases hs) s hs
/-- does a part go beyond a text? -/
def shortB (s : ByteArray) (x : Pt) : Bool := if 0 < x.n then decide ((s.size : Int) - x.n < x.f) else decide ((s.size : Int) < x.f ∧ (s.size : Int) < x.f + x.n)
def missB (D : List Tx) (x : Pt) : Bool := match txt D x.a with | none => true | some s => shortB s x
def badB (x : Pt) : Bool := decide (x.f < 0 ∨ x.n < 1)
theorem fits {D : List Tx} {x : Pt} (h1 : missB D x = false) (h2 : badB x = false) : ∃ s, txt D x.a = some s ∧ 0 ≤ x.f ∧ 1 ≤ x.n ∧ x.f + x.n ≤ s.size := by
  unfold missB at h1
  unfold badB at h2
  have h2 := of_decide_eq_false h2
  cases ht : txt D x.a with
  | none => rw [ht] at h1; cases h1
  | some s =>
    rw [ht] at h1
    simp only at h1
    unfold shortB at h1
    rw [if_pos (by omega)] at h1
    have := of_decide_eq_false h1
    exact ⟨s, rfl, by omega, by omega, by omega⟩
def piece (D : List Tx) (x : Pt) : ByteArray := ((txt D x.a).getD ⟨#[]⟩).extract x.f.toNat (x.f + x.n).toNat
theorem piece_size {D : List Tx} {x : Pt} (h1 : missB D x = false) (h2 : badB x = false) : ((piece D x).size : Int) = x.n := by
  obtain ⟨s, hs, h3, h4, h5⟩ := fits h1 h2
  unfold piece
  rw [hs, Option.getD_some, ByteArray.size_extract]
  omega
/-- the moves of parts, and where the next one would be -/
def mvF (l : List Pt) : List Mv × Int := l.foldl (fun p x => (p.1 ++ [⟨x.a, x.f, x.n, p.2⟩], p.2 + x.n)) ([], 0)
theorem mvF_snoc (l : List Pt) (x : Pt) : mvF (l ++ [x]) = ((mvF l).1 ++ [⟨x.a, x.f, x.n, (mvF l).2⟩], (mvF l).2 + x.n) := by unfold mvF; rw [List.foldl_append]; rfl
theorem mvF_len (l : List Pt) : (mvF l).1.length = l.length := by
  have key : ∀ (l : List Pt) (p : List Mv × Int), (l.foldl (fun p x => (p.1 ++ [⟨x.a, x.f, x.n, p.2⟩], p.2 + x.n)) p).1.length = p.1.length + l.length := by
    intro l
    induction l with
    | nil => intro p; rfl
    | cons x l ih => intro p; rw [List.foldl_cons, ih]; simp; omega
  have := key l ([], 0)
  simpa [mvF] using this
/-- the texts of parts, and all of them together -/
def txF (D : List Tx) (l : List Pt) : List ByteArray := l.map (piece D)
def datF (D : List Tx) (l : List Pt) : ByteArray := l.foldl (fun b x => b ++ piece D x) ⟨#[]⟩
theorem datF_snoc (D : List Tx) (l : List Pt) (x : Pt) : datF D (l ++ [x]) = datF D l ++ piece D x := by unfold datF; rw [List.foldl_append]; rfl
theorem txF_snoc (D : List Tx) (l : List Pt) (x : Pt) : txF D (l ++ [x]) = txF D l ++ [piece D x] := by unfold txF; simp
/-- in order: as long as the moves say -/
theorem dat_at {D : List Tx} : ∀ {l : List Pt}, (∀ x ∈ l, missB D x = false ∧ badB x = false) → ((datF D l).size : Int) = (mvF l).2 := by
  have key : ∀ (l : List Pt) (b : ByteArray) (p : List Mv × Int), (∀ x ∈ l, missB D x = false ∧ badB x = false) → (b.size : Int) = p.2 →
      ((l.foldl (fun b x => b ++ piece D x) b).size : Int) = (l.foldl (fun p x => (p.1 ++ [⟨x.a, x.f, x.n, p.2⟩], p.2 + x.n)) p).2 := by
    intro l
    induction l with
    | nil => exact fun b p _ h => h
    | cons x l ih =>
      intro b p h hb
      rw [List.foldl_cons, List.foldl_cons]
      refine ih _ _ (fun y hy => h y (by simp [hy])) ?_
      have hx := h x (by simp)
      have := piece_size hx.1 hx.2
      rw [ByteArray.size_append]
      simp only
      omega
  exact fun {l} h => key l _ _ h rfl
theorem dat_size {D : List Tx} {m : Nat} (hD : ∀ d ∈ D, d.s.size ≤ m) (l : List Pt) : (datF D l).size ≤ m * l.length := by
  have hp : ∀ x, (piece D x).size ≤ m := by
    intro x
    unfold piece
    rw [ByteArray.size_extract]
    cases ht : txt D x.a with
    | none => show min _ 0 - _ ≤ m; omega
    | some s =>
      have := txt_size hD ht
      rw [Option.getD_some]; omega
  have key : ∀ (l : List Pt) (b : ByteArray), (l.foldl (fun b x => b ++ piece D x) b).size ≤ b.size + m * l.length := by
    intro l
    induction l with
    | nil => intro b; simp
    | cons x l ih =>
      intro b
      rw [List.foldl_cons]
      have h1 := ih (b ++ piece D x)
      have h2 := hp x
      rw [ByteArray.size_append] at h1
      have h3 : m * (l.length + 1) = m * l.length + m := Nat.mul_succ _ _
      rw [List.length_cons, h3]
      omega
  have := key l ⟨#[]⟩
  have h0 : (⟨#[]⟩ : ByteArray).size = 0 := rfl
  rw [h0, Nat.zero_add] at this
  exact this
def zeroR : Rec := ⟨0, 0, 0, ⟨#[]⟩, ⟨#[]⟩, 0, 0, 0, ⟨#[]⟩, 0, 0, []⟩
def recR (c q i : Int) (D : List Tx) (l : List Pt) : Rec := ⟨c, q, 13, ⟨#[]⟩, ⟨#[]⟩, 0, 0, 0, datF D l, 0, i, (mvF l).1⟩
end Go.Proofs.YthnkpoagpjnopaaDoor.MovP
