/- Parts of a file, plainly: a plan of a stretch; where parts end; a move. -/
import Derived.Test.YtappgelpigoknaaExtCut
namespace Go.Proofs.Ytappgelpigoknaa.ExtW
def holeL (at_ tt : Int) : List Pt := if at_ < tt then [⟨at_, tt - at_, -1, 0⟩] else []
/-- the plan's round -/
def planStep (off e : Int) (s : List Pt × Int) (x : Pt) : List Pt × Int :=
  if max x.o off < min (x.o + x.n) e then (s.1 ++ holeL s.2 (max x.o off) ++ [⟨max x.o off, min (x.o + x.n) e - max x.o off, x.a, x.f + max x.o off - x.o⟩], min (x.o + x.n) e) else s
def planF (off e : Int) (l : List Pt) : List Pt × Int := l.foldl (planStep off e) ([], off)
def planL (off e : Int) (l : List Pt) : List Pt := (planF off e l).1 ++ holeL (planF off e l).2 e
/-- pieces and holes, one behind the other, that say what g says -/
def Covers (g : Int → Option (Int × Int)) : Int → List Pt → Int → Prop
  | lo, [], hi => lo = hi
  | lo, x :: l, hi => x.o = lo ∧ 1 ≤ x.n ∧ (∀ j, lo ≤ j → j < lo + x.n → (x.a = -1 ∧ g j = none) ∨ (0 ≤ x.a ∧ g j = some (x.a, x.f + (j - lo)))) ∧ Covers g (lo + x.n) l hi
theorem Covers.append {g : Int → Option (Int × Int)} : ∀ {lo : Int} {l : List Pt} {mi : Int} {l' : List Pt} {hi : Int}, Covers g lo l mi → Covers g mi l' hi → Covers g lo (l ++ l') hi
  | _, [], _, _, _, h, k => by obtain rfl : _ = _ := h; exact k
  | _, _ :: _, _, _, _, h, k => ⟨h.1, h.2.1, h.2.2.1, Covers.append h.2.2.2 k⟩
theorem covers_hole {g : Int → Option (Int × Int)} {a b : Int} (h : a ≤ b) (k : ∀ j, a ≤ j → j < b → g j = none) : Covers g a (holeL a b) b := by
  unfold holeL
  split
  · exact ⟨rfl, by show 1 ≤ b - a; omega, fun j h1 h2 => .inl ⟨rfl, k j h1 (by simp only at h2; omega)⟩, by show a + (b - a) = b; omega⟩
  · show a = b; omega
theorem plan_fine (off e : Int) (g : Int → Option (Int × Int)) : ∀ (l out : List Pt) (lo at_ : Int), Sorted lo l 8192 → (∀ x ∈ l, 0 ≤ x.a) → off ≤ at_ → at_ ≤ e → at_ ≤ max lo off → Covers g off out at_ → (∀ j, at_ ≤ j → j < e → g j = look l j) →
    Covers g off ((l.foldl (planStep off e) (out, at_)).1 ++ holeL (l.foldl (planStep off e) (out, at_)).2 e) e
  | [], out, lo, at_, _, _, _, h2, _, h3, h4 => h3.append (covers_hole h2 fun j a b => by rw [h4 j a b]; rfl)
  | x :: l, out, lo, at_, hs, ha, h1, h2, h5, h3, h4 => by
    have s1 := hs.1
    have s2 := hs.2.1
    rw [List.foldl_cons]
    by_cases c : max x.o off < min (x.o + x.n) e
    · have e1 : planStep off e (out, at_) x = (out ++ holeL at_ (max x.o off) ++ [⟨max x.o off, min (x.o + x.n) e - max x.o off, x.a, x.f + max x.o off - x.o⟩], min (x.o + x.n) e) := if_pos c
      rw [e1]
      refine plan_fine off e g l _ (x.o + x.n) _ hs.2.2 (fun y hy => ha y (by simp [hy])) (by omega) (by omega) (by omega) ?_ fun j a b => ?_
      · refine (h3.append (covers_hole (by omega) fun j a b => ?_)).append ⟨rfl, ?_, fun j a b => .inr ⟨ha x (by simp), ?_⟩, ?_⟩
        · rw [h4 j a (by omega)]
          exact look_low (lo := x.o) (hi := 8192) (l := x :: l) ⟨Int.le_refl _, hs.2⟩ j (by omega)
        · show 1 ≤ min (x.o + x.n) e - max x.o off
          omega
        · simp only at b ⊢
          rw [h4 j (by omega) (by omega), look, if_pos (by omega)]
          congr 2; omega
        · show max x.o off + (min (x.o + x.n) e - max x.o off) = _
          omega
      · rw [h4 j (by omega) b, look, if_neg (by omega)]
    · have e1 : planStep off e (out, at_) x = (out, at_) := if_neg c
      rw [e1]
      refine plan_fine off e g l _ (x.o + x.n) _ hs.2.2 (fun y hy => ha y (by simp [hy])) h1 h2 (by omega) h3 fun j a b => ?_
      rw [h4 j a b, look, if_neg (by omega)]
theorem plan_covers {l : List Pt} (h : Good l) {off n : Int} (h1 : Whole off n 8192) : Covers (look l) off (planL off (off + n) l) (off + n) := by
  unfold Whole at h1
  exact plan_fine off (off + n) (look l) l [] 0 off (good_sorted h) (fun x hx => (chain_ones h.2 x hx).2.2.1) (by omega) (by omega) (by omega) rfl fun _ _ _ => rfl
theorem plan_len (off e : Int) : ∀ (l out : List Pt) (at_ : Int), (l.foldl (planStep off e) (out, at_)).1.length ≤ out.length + 2 * l.length
  | [], out, _ => by simp
  | x :: l, out, at_ => by
    rw [List.foldl_cons]
    have hh : ∀ a b, (holeL a b).length ≤ 1 := fun a b => by unfold holeL; split <;> simp
    by_cases c : max x.o off < min (x.o + x.n) e
    · have e1 : planStep off e (out, at_) x = (out ++ holeL at_ (max x.o off) ++ [⟨max x.o off, min (x.o + x.n) e - max x.o off, x.a, x.f + max x.o off - x.o⟩], min (x.o + x.n) e) := if_pos c
      rw [e1]
      refine Nat.le_trans (plan_len off e l _ _) ?_
      have := hh at_ (max x.o off)
      simp only [List.length_append, List.length_cons, List.length_nil]
      omega
    · have e1 : planStep off e (out, at_) x = (out, at_) := if_neg c
      rw [e1]
      refine Nat.le_trans (plan_len off e l _ _) ?_
      simp only [List.length_cons]
      omega
/-- where parts end -/
def endL (l : List Pt) : Int := match l.getLast? with | some x => x.o + x.n | none => 0
def endS (l : List Pt) : Int := if Good l then endL l else 0
theorem endL_snoc (l : List Pt) (x : Pt) : endL (l ++ [x]) = x.o + x.n := by unfold endL; simp
theorem snoc_end (out : List Pt) (x : Pt) : endL (snocJ out x) = endL (out ++ [x]) := by
  rcases snoc_cases out with rfl | ⟨l, p, rfl⟩
  · rfl
  · by_cases h : Joins p x
    · rw [snocJ_yes _ _ _ h, endL_snoc, endL_snoc]
      have := h.1
      simp only; omega
    · rw [snocJ_no _ _ _ h]
theorem fold_end : ∀ (l out : List Pt), endL (l.foldl snocJ out) = endL (out ++ l)
  | [], out => by simp
  | x :: l, out => by
    rw [List.foldl_cons, fold_end l]
    rcases snoc_cases l with rfl | ⟨l', p, rfl⟩
    · rw [List.append_nil]; exact snoc_end out x
    · have e1 := endL_snoc (snocJ out x ++ l') p
      have e2 := endL_snoc (out ++ x :: l') p
      simp only [List.append_assoc, List.cons_append] at e1 e2 ⊢
      rw [e1, e2]
theorem join_end (l : List Pt) : endL (joinL l) = endL l := by
  have := fold_end l []
  simpa [joinL] using this
theorem end_le : ∀ {lo : Int} {l : List Pt} {hi : Int}, Sorted lo l hi → l ≠ [] → endL l ≤ hi
  | _, [], _, _, h => absurd rfl h
  | _, [x], _, h, _ => h.2.2
  | _, x :: y :: l, _, h, _ => by
    have := end_le (l := y :: l) h.2.2 (by simp)
    unfold endL at this ⊢
    rwa [List.getLast?_cons_cons]
/-- bytes that were moved -/
def movG (g : Int → Option (Int × Int)) (ma mf mn mt tt : Int) (i : Int) : Option (Int × Int) :=
  match g i with
  | some (a, f) => if a = ma ∧ mf ≤ f ∧ f < mf + mn then some (tt, f - mf + mt) else some (a, f)
  | none => none
def movL (l : List Pt) (ma mf mn mt tt : Int) : List Pt := joinL (units (movG (look l) ma mf mn mt tt) 0 8192)
/-- a move may be -/
def May (ma mf mn mt tt : Int) : Prop := (0 ≤ ma ∧ ma < 16384) ∧ (0 ≤ tt ∧ tt < 16384) ∧ Whole mf mn 1024 ∧ Whole mt mn 1024
instance (ma mf mn mt tt : Int) : Decidable (May ma mf mn mt tt) := by unfold May; infer_instance
theorem units_sorted (g : Int → Option (Int × Int)) (lo : Int) : ∀ k : Nat, Sorted lo (units g lo k) (lo + k)
  | 0 => by show lo ≤ lo + ((0 : Nat) : Int); omega
  | k + 1 => by
    rw [units]
    refine (units_sorted g lo k).append ?_
    split
    · exact ⟨Int.le_refl _, Int.le_refl _, by show lo + (k : Int) + 1 ≤ lo + ((k + 1 : Nat) : Int); omega⟩
    · show lo + (k : Int) ≤ lo + ((k + 1 : Nat) : Int); omega
theorem units_mem (g : Int → Option (Int × Int)) (lo : Int) : ∀ (k : Nat) (x : Pt), x ∈ units g lo k → lo ≤ x.o ∧ x.o < lo + k ∧ x.n = 1 ∧ g x.o = some (x.a, x.f)
  | 0, x, hx => by simp [units] at hx
  | k + 1, x, hx => by
    rw [units, List.mem_append] at hx
    rcases hx with hx | hx
    · have := units_mem g lo k x hx
      exact ⟨this.1, by omega, this.2.2⟩
    · split at hx
      · rename_i a f hg
        simp only [List.mem_singleton] at hx
        subst hx
        exact ⟨by show lo ≤ lo + (k : Int); omega, by show lo + (k : Int) < lo + ((k + 1 : Nat) : Int); omega, rfl, hg⟩
      · simp at hx
theorem look_units (g : Int → Option (Int × Int)) (lo : Int) : ∀ (k : Nat) (i : Int), lo ≤ i → i < lo + k → look (units g lo k) i = g i
  | 0, i, h1, h2 => by omega
  | k + 1, i, h1, h2 => by
    rw [units, look_append]
    by_cases h : i < lo + k
    · rw [look_units g lo k i h1 h]
      cases hg : g i with
      | some y => rfl
      | none =>
        simp only [Option.none_or]
        split
        · rw [look, if_neg (by show ¬ (lo + (k : Int) ≤ i ∧ i < lo + (k : Int) + 1); omega), look]
        · rfl
    · obtain rfl : i = lo + k := by omega
      rw [look_high (units_sorted g lo k) _ (Int.le_refl _), Option.none_or]
      cases hg : g (lo + k) with
      | none => rfl
      | some y => obtain ⟨a, f⟩ := y; show look [⟨lo + k, 1, a, f⟩] (lo + k) = _; rw [look, if_pos (by show lo + (k : Int) ≤ lo + (k : Int) ∧ lo + (k : Int) < lo + (k : Int) + 1; omega)]; congr 2; show f + (lo + (k : Int) - (lo + k)) = f; omega
theorem look_some : ∀ {l : List Pt} {i a f : Int}, look l i = some (a, f) → ∃ x ∈ l, x.o ≤ i ∧ i < x.o + x.n ∧ a = x.a ∧ f = x.f + (i - x.o)
  | [], _, _, _, h => by simp [look] at h
  | x :: l, i, a, f, h => by
    rw [look] at h
    split at h
    · rename_i c
      simp only [Option.some.injEq, Prod.mk.injEq] at h
      exact ⟨x, by simp, c.1, c.2, h.1.symm, h.2.symm⟩
    · obtain ⟨y, hy, r⟩ := look_some h
      exact ⟨y, by simp [hy], r⟩
theorem mov_ones {l : List Pt} (h : Good l) {ma mf mn mt tt : Int} (hm : May ma mf mn mt tt) : ∀ x ∈ units (movG (look l) ma mf mn mt tt) 0 8192, One x := by
  intro x hx
  have := units_mem _ _ _ x hx
  obtain ⟨h1, h2, h3, h4⟩ := this
  unfold movG at h4
  unfold May Whole at hm
  cases hg : look l x.o with
  | none => rw [hg] at h4; cases h4
  | some y =>
    obtain ⟨a, f⟩ := y
    obtain ⟨p, hp, b1, b2, rfl, rfl⟩ := look_some hg
    have hps := (chain_ones h.2 p hp).small
    rw [hg] at h4
    simp only at h4
    split at h4
    · simp only [Option.some.injEq, Prod.mk.injEq] at h4
      unfold One Whole; omega
    · simp only [Option.some.injEq, Prod.mk.injEq] at h4
      unfold One Whole; omega
theorem mov_fine {l : List Pt} (h : Good l) {ma mf mn mt tt : Int} (hm : May ma mf mn mt tt) :
    Sorted 0 (movL l ma mf mn mt tt) 8192 ∧ Chain (movL l ma mf mn mt tt) ∧ ∀ i, look (movL l ma mf mn mt tt) i = movG (look l) ma mf mn mt tt i := by
  unfold movL
  have ho := mov_ones h hm
  obtain ⟨N, hN⟩ : ∃ N : Nat, N = 8192 := ⟨_, rfl⟩
  rw [← hN] at ho ⊢
  have hs := units_sorted (movG (look l) ma mf mn mt tt) 0 N
  rw [show (0 : Int) + (N : Int) = 8192 by omega] at hs
  obtain ⟨a, _, b, c⟩ := join_fine hs ho
  refine ⟨a, b, fun i => ?_⟩
  rw [c i]
  by_cases h1 : 0 ≤ i ∧ i < 8192
  · exact look_units _ 0 N i (by omega) (by omega)
  · have e1 : movG (look l) ma mf mn mt tt i = none := by
      have : look l i = none := by
        rcases Int.lt_or_le i 0 with h2 | h2
        · exact look_low (good_sorted h) i h2
        · exact look_high (good_sorted h) i (by omega)
      unfold movG; rw [this]
    rw [e1]
    rcases Int.lt_or_le i 0 with h2 | h2
    · exact look_low hs i h2
    · exact look_high hs i (by omega)
theorem units_end {g h : Int → Option (Int × Int)} (lo : Int) : ∀ k : Nat, (∀ i, (g i).isSome = (h i).isSome) → endL (units g lo k) = endL (units h lo k)
  | 0, _ => rfl
  | k + 1, e => by
    rw [units, units]
    have := e (lo + k)
    cases h1 : g (lo + k) with
    | none =>
      cases h2 : h (lo + k) with
      | none => simpa using units_end lo k e
      | some y => rw [h1, h2] at this; cases this
    | some x =>
      cases h2 : h (lo + k) with
      | none => rw [h1, h2] at this; cases this
      | some y =>
        obtain ⟨a, f⟩ := x
        obtain ⟨b, g'⟩ := y
        rw [endL_snoc, endL_snoc]
theorem mov_end {l : List Pt} (h : Good l) (ma mf mn mt tt : Int) : endL (movL l ma mf mn mt tt) = endL l := by
  unfold movL
  rw [join_end]
  have h1 := join_units0 (good_sorted h) (look l) fun _ => rfl
  rw [join_chain h.2] at h1
  rw [units_end (h := look l) 0 8192 (fun i => by
    unfold movG
    cases hg : look l i with
    | none => rfl
    | some y => obtain ⟨a, f⟩ := y; simp only; split <;> rfl)]
  rw [← join_end, ← h1]
end Go.Proofs.Ytappgelpigoknaa.ExtW
