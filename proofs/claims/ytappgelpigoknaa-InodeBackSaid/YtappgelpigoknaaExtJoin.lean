/- Parts of a file, plainly: joined, spread byte by byte, cut, put over, planned. -/
import Derived.Test.YtappgelpigoknaaExtPlain
namespace Go.Proofs.Ytappgelpigoknaa.ExtW
/-- one more behind parts that are joined -/
def snocJ (out : List Pt) (x : Pt) : List Pt :=
  match out.getLast? with
  | some p => if Joins p x then out.dropLast ++ [⟨p.o, p.n + x.n, p.a, p.f⟩] else out ++ [x]
  | none => out ++ [x]
def joinL (l : List Pt) : List Pt := l.foldl snocJ []
theorem snocJ_yes (out : List Pt) (p x : Pt) (h : Joins p x) : snocJ (out ++ [p]) x = out ++ [⟨p.o, p.n + x.n, p.a, p.f⟩] := by
  unfold snocJ; simp [h]
theorem snocJ_no (out : List Pt) (p x : Pt) (h : ¬ Joins p x) : snocJ (out ++ [p]) x = out ++ [p] ++ [x] := by
  unfold snocJ; simp [h]
theorem snocJ_nil (x : Pt) : snocJ [] x = [x] := rfl
theorem snocJ_ne (out : List Pt) (x : Pt) : snocJ out x ≠ [] := by
  unfold snocJ
  split
  · split <;> simp
  · simp
/-- a part byte by byte -/
def expN (o a f : Int) : Nat → List Pt
  | 0 => []
  | k + 1 => expN o a f k ++ [⟨o + k, 1, a, f + k⟩]
def exp (x : Pt) : List Pt := expN x.o x.a x.f x.n.toNat
theorem snoc_cases (out : List Pt) : out = [] ∨ ∃ l p, out = l ++ [p] := by
  rcases List.eq_nil_or_concat out with h | ⟨l, p, h⟩
  · exact .inl h
  · exact .inr ⟨l, p, by simpa using h⟩
theorem snocJ_unit (out : List Pt) (o a f : Int) (n : Nat) : snocJ (snocJ out ⟨o, n + 1, a, f⟩) ⟨o + (n + 1), 1, a, f + (n + 1)⟩ = snocJ out ⟨o, n + 1 + 1, a, f⟩ := by
  have hj : ∀ b : Int, Joins ⟨o, b, a, f⟩ ⟨o + b, 1, a, f + b⟩ := fun b => ⟨rfl, rfl, rfl⟩
  rcases snoc_cases out with rfl | ⟨l, p, rfl⟩
  · rw [snocJ_nil, snocJ_nil]
    exact snocJ_yes [] _ _ (hj _)
  · by_cases h : Joins p ⟨o, (n : Int) + 1, a, f⟩
    · have h' : Joins p ⟨o, (n : Int) + 1 + 1, a, f⟩ := h
      rw [snocJ_yes _ _ _ h, snocJ_yes _ _ _ h', snocJ_yes]
      · simp only [List.append_cancel_left_eq, List.cons.injEq, and_true, Pt.mk.injEq, true_and]
        omega
      · unfold Joins at h ⊢
        simp only at h ⊢
        omega
    · have h' : ¬ Joins p ⟨o, (n : Int) + 1 + 1, a, f⟩ := h
      rw [snocJ_no _ _ _ h, snocJ_no _ _ _ h', snocJ_yes _ _ _ (hj _)]
theorem fold_expN (out : List Pt) (o a f : Int) : ∀ k : Nat, (expN o a f (k + 1)).foldl snocJ out = snocJ out ⟨o, k + 1, a, f⟩
  | 0 => by
    show snocJ out ⟨o + ((0 : Nat) : Int), 1, a, f + ((0 : Nat) : Int)⟩ = _
    simp
  | k + 1 => by
    rw [expN, List.foldl_append, fold_expN out o a f k]
    have := snocJ_unit out o a f k
    simp only [List.foldl_cons, List.foldl_nil]
    rw [show ((k + 1 : Nat) : Int) = (k : Int) + 1 by omega]
    exact this
theorem fold_exp (out : List Pt) (x : Pt) (h : 1 ≤ x.n) : (exp x).foldl snocJ out = snocJ out x := by
  obtain ⟨o, n, a, f⟩ := x
  obtain ⟨k, rfl⟩ : ∃ k : Nat, n = k + 1 := ⟨(n - 1).toNat, by simp only at h; omega⟩
  unfold exp
  rw [show ((k : Int) + 1).toNat = k + 1 by omega]
  exact fold_expN out o a f k
theorem fold_flat : ∀ (l out : List Pt), (∀ x ∈ l, 1 ≤ x.n) → (l.flatMap exp).foldl snocJ out = l.foldl snocJ out
  | [], _, _ => rfl
  | x :: l, out, h => by
    rw [List.flatMap_cons, List.foldl_append, fold_exp out x (h x (by simp)), List.foldl_cons]
    exact fold_flat l _ fun y hy => h y (by simp [hy])
/-- each byte's part where there is one -/
def units (g : Int → Option (Int × Int)) (lo : Int) : Nat → List Pt
  | 0 => []
  | k + 1 => units g lo k ++ (match g (lo + k) with | some (a, f) => [⟨lo + k, 1, a, f⟩] | none => [])
theorem units_add (g : Int → Option (Int × Int)) (lo : Int) (j : Nat) : ∀ k : Nat, units g lo (j + k) = units g lo j ++ units g (lo + j) k
  | 0 => by simp [units]
  | k + 1 => by
    rw [← Nat.add_assoc, units, units, units_add g lo j k, List.append_assoc]
    rw [show lo + ((j + k : Nat) : Int) = lo + (j : Int) + (k : Int) by omega]
theorem units_congr {g h : Int → Option (Int × Int)} {lo : Int} : ∀ {k : Nat}, (∀ i, lo ≤ i → i < lo + k → g i = h i) → units g lo k = units h lo k
  | 0, _ => rfl
  | k + 1, e => by
    rw [units, units, units_congr (k := k) fun i h1 h2 => e i h1 (by omega), e (lo + k) (by omega) (by omega)]
theorem units_none (lo : Int) : ∀ k : Nat, units (fun _ => none) lo k = []
  | 0 => rfl
  | k + 1 => by rw [units, units_none lo k]; rfl
theorem units_exp (o a f : Int) : ∀ k : Nat, units (fun i => some (a, f + (i - o))) o k = expN o a f k
  | 0 => rfl
  | k + 1 => by
    rw [units, expN, units_exp o a f k]
    simp only
    rw [show f + (o + (k : Int) - o) = f + k by omega]
/-- where a byte lies -/
def look : List Pt → Int → Option (Int × Int)
  | [], _ => none
  | x :: l, i => if x.o ≤ i ∧ i < x.o + x.n then some (x.a, x.f + (i - x.o)) else look l i
/-- parts in order, none over another, between two places -/
def Sorted : Int → List Pt → Int → Prop
  | lo, [], hi => lo ≤ hi
  | lo, x :: l, hi => lo ≤ x.o ∧ 1 ≤ x.n ∧ Sorted (x.o + x.n) l hi
theorem Sorted.le : ∀ {lo : Int} {l : List Pt} {hi : Int}, Sorted lo l hi → lo ≤ hi
  | _, [], _, h => h
  | _, _ :: _, _, h => by have := Sorted.le h.2.2; have := h.1; have := h.2.1; omega
theorem Sorted.mono {lo lo' : Int} {l : List Pt} {hi : Int} (h : Sorted lo l hi) (k : lo' ≤ lo) : Sorted lo' l hi := by
  cases l with
  | nil => exact Int.le_trans k h
  | cons x l => exact ⟨Int.le_trans k h.1, h.2⟩
theorem Sorted.up : ∀ {lo : Int} {l : List Pt} {hi hi' : Int}, Sorted lo l hi → hi ≤ hi' → Sorted lo l hi'
  | _, [], _, _, h, k => Int.le_trans h k
  | _, _ :: _, _, _, h, k => ⟨h.1, h.2.1, Sorted.up h.2.2 k⟩
theorem Sorted.pos : ∀ {lo : Int} {l : List Pt} {hi : Int}, Sorted lo l hi → ∀ x ∈ l, 1 ≤ x.n
  | _, [], _, _, x, hx => by simp at hx
  | _, y :: l, _, h, x, hx => by
    rcases List.mem_cons.1 hx with rfl | hx
    · exact h.2.1
    · exact Sorted.pos h.2.2 x hx
theorem Sorted.append : ∀ {lo : Int} {l : List Pt} {mi : Int} {l' : List Pt} {hi : Int}, Sorted lo l mi → Sorted mi l' hi → Sorted lo (l ++ l') hi
  | _, [], _, _, _, h, k => k.mono h
  | _, _ :: _, _, _, _, h, k => ⟨h.1, h.2.1, Sorted.append h.2.2 k⟩
theorem look_low : ∀ {lo : Int} {l : List Pt} {hi : Int}, Sorted lo l hi → ∀ i, i < lo → look l i = none
  | _, [], _, _, _, _ => rfl
  | _, x :: l, _, h, i, hi => by
    have h1 := h.1
    have h2 := h.2.1
    rw [look, if_neg (by omega)]
    exact look_low h.2.2 i (by omega)
theorem look_high : ∀ {lo : Int} {l : List Pt} {hi : Int}, Sorted lo l hi → ∀ i, hi ≤ i → look l i = none
  | _, [], _, _, _, _ => rfl
  | _, x :: l, hi, h, i, hi' => by
    have h1 := h.1
    have h2 := h.2.1
    have h3 := h.2.2.le
    rw [look, if_neg (by omega)]
    exact look_high h.2.2 i hi'
theorem look_append : ∀ (l l' : List Pt) (i : Int), look (l ++ l') i = (look l i).or (look l' i)
  | [], _, _ => by simp [look]
  | x :: l, l', i => by
    simp only [List.cons_append, look]
    split
    · rfl
    · exact look_append l l' i
/-- parts byte by byte are the bytes that lie somewhere -/
theorem flat_units : ∀ {lo : Int} {l : List Pt} {hi : Int} (_ : Sorted lo l hi), l.flatMap exp = units (look l) lo (hi - lo).toNat
  | lo, [], hi, _ => by
    show [] = units (fun i => look [] i) lo _
    simp only [look]
    rw [units_none]
  | lo, x :: l, hi, h => by
    have h1 := h.1
    have h2 := h.2.1
    have h3 := h.2.2.le
    rw [show (hi - lo).toNat = (x.o - lo).toNat + (x.n.toNat + (hi - (x.o + x.n)).toNat) by omega, units_add, units_add]
    rw [show lo + ((x.o - lo).toNat : Int) = x.o by omega, show x.o + (x.n.toNat : Int) = x.o + x.n by omega]
    rw [List.flatMap_cons, flat_units h.2.2]
    rw [units_congr (g := look (x :: l)) (h := fun _ => none) (lo := lo) (fun i a b => look_low (lo := x.o) (l := x :: l) (hi := hi) ⟨Int.le_refl _, h.2⟩ i (by omega)), units_none, List.nil_append]
    rw [units_congr (g := look (x :: l)) (h := fun i => some (x.a, x.f + (i - x.o))) (lo := x.o) (fun i a b => by rw [look, if_pos (by omega)]), units_exp]
    rw [units_congr (g := look (x :: l)) (h := look l) (lo := x.o + x.n) (fun i a b => by rw [look, if_neg (by omega)])]
    rfl
/-- parts that were joined are the bytes, joined -/
theorem join_units {lo hi : Int} {l : List Pt} (h : Sorted lo l hi) : joinL l = joinL (units (look l) lo (hi - lo).toNat) := by
  rw [← flat_units h]
  exact (fold_flat l [] h.pos).symm
/-- those that are a chain are joined already -/
theorem fold_chain : ∀ (l out : List Pt), (∀ i, i < (out ++ l).length → OkAt (out ++ l) i) → l.foldl snocJ out = out ++ l
  | [], out, _ => by simp
  | x :: l, out, h => by
    have hx : (out ++ x :: l)[out.length]? = some x := by simp
    have hs : snocJ out x = out ++ [x] := by
      rcases snoc_cases out with rfl | ⟨o', p, rfl⟩
      · rfl
      · refine snocJ_no _ _ _ fun hj => ?_
        have := (h (o' ++ [p]).length (by simp) x hx).2 p (by simp) (by simp)
        exact this.2 hj
    rw [List.foldl_cons, hs, fold_chain l (out ++ [x]) (by simpa using h)]
    simp
theorem join_chain {l : List Pt} (h : Chain l) : joinL l = l := by
  have := fold_chain l [] (by simpa using (chain_iff l).1 h)
  simpa [joinL] using this
theorem chain_sorted : ∀ {l : List Pt}, Chain l → ∀ lo, (∀ x, l.head? = some x → lo ≤ x.o) → lo ≤ 8192 → Sorted lo l 8192
  | [], _, lo, _, h => h
  | [x], h, lo, h1, _ => by
    have := One.small (show One x from h)
    exact ⟨h1 x rfl, this.2.1, by show x.o + x.n ≤ 8192; omega⟩
  | x :: y :: l, h, lo, h1, _ => by
    obtain ⟨a, b, c⟩ := h
    have := a.small
    refine ⟨h1 x rfl, this.2.1, chain_sorted c _ (fun z hz => ?_) (by omega)⟩
    simp only [List.head?_cons, Option.some.injEq] at hz
    subst hz
    exact b.1
theorem chain_ones : ∀ {l : List Pt}, Chain l → ∀ x ∈ l, One x
  | [x], h, y, hy => by obtain rfl : y = x := by simpa using hy
                        exact h
  | x :: y :: l, h, z, hz => by
    rcases List.mem_cons.1 hz with rfl | hz
    · exact h.1
    · exact chain_ones h.2.2 z hz
theorem good_sorted {l : List Pt} (h : Good l) : Sorted 0 l 8192 :=
  chain_sorted h.2 0 (fun x hx => (chain_ones h.2 x (List.mem_of_mem_head? hx)).1.1) (by omega)
end Go.Proofs.Ytappgelpigoknaa.ExtW
