/- Parts of a file, plainly: what is left below a size, what is behind, one put over all, a move, a plan. -/
import Derived.Test.YtappgelpigoknaaExtJoin
namespace Go.Proofs.Ytappgelpigoknaa.ExtW
/-- what lies below a size -/
def cutL : List Pt → Int → List Pt
  | [], _ => []
  | x :: l, s => if x.o < s then ⟨x.o, min x.n (s - x.o), x.a, x.f⟩ :: cutL l s else cutL l s
/-- what lies at or behind a place -/
def behL : List Pt → Int → List Pt
  | [], _ => []
  | x :: l, e => if max 0 (e - x.o) < x.n then ⟨x.o + max 0 (e - x.o), x.n - max 0 (e - x.o), x.a, x.f + max 0 (e - x.o)⟩ :: behL l e else behL l e
theorem look_cut : ∀ (l : List Pt) (s i : Int), look (cutL l s) i = if i < s then look l i else none
  | [], s, i => by simp [cutL, look]
  | x :: l, s, i => by
    have ih := look_cut l s i
    by_cases h : x.o < s
    · rw [cutL, if_pos h, look, ih]
      simp only
      by_cases h2 : i < s
      · rw [if_pos h2, if_pos h2, look]
        by_cases h3 : x.o ≤ i ∧ i < x.o + x.n
        · rw [if_pos h3, if_pos (by omega)]
        · rw [if_neg h3, if_neg (by omega)]
      · rw [if_neg h2, if_neg h2, if_neg (by omega)]
    · rw [cutL, if_neg h, ih]
      by_cases h2 : i < s
      · rw [if_pos h2, if_pos h2, look, if_neg (by omega)]
      · rw [if_neg h2, if_neg h2]
theorem look_beh : ∀ (l : List Pt) (e i : Int), look (behL l e) i = if e ≤ i then look l i else none
  | [], e, i => by simp [behL, look]
  | x :: l, e, i => by
    have ih := look_beh l e i
    by_cases h : max 0 (e - x.o) < x.n
    · rw [behL, if_pos h, look, ih]
      simp only
      by_cases h2 : e ≤ i
      · rw [if_pos h2, if_pos h2, look]
        by_cases h3 : x.o ≤ i ∧ i < x.o + x.n
        · rw [if_pos h3, if_pos (by omega)]
          congr 2; omega
        · rw [if_neg h3, if_neg (by omega)]
      · rw [if_neg h2, if_neg h2, if_neg (by omega)]
    · rw [behL, if_neg h, ih]
      by_cases h2 : e ≤ i
      · rw [if_pos h2, if_pos h2, look, if_neg (by omega)]
      · rw [if_neg h2, if_neg h2]
theorem cut_sorted : ∀ {lo : Int} {l : List Pt} {hi : Int} (_ : Sorted lo l hi) (s : Int), lo ≤ s → Sorted lo (cutL l s) s
  | _, [], _, _, _, h => h
  | lo, x :: l, hi, h, s, hs => by
    have h1 := h.1
    have h2 := h.2.1
    by_cases k : x.o < s
    · rw [cutL, if_pos k]
      refine ⟨h1, by show 1 ≤ min x.n (s - x.o); omega, ?_⟩
      show Sorted (x.o + min x.n (s - x.o)) (cutL l s) s
      by_cases m : x.o + x.n ≤ s
      · exact (cut_sorted h.2.2 s m).mono (by omega)
      · have : cutL l s = [] := by
          have : ∀ (l : List Pt) (lo hi : Int), Sorted lo l hi → s ≤ lo → cutL l s = [] := by
            intro l
            induction l with
            | nil => intros; rfl
            | cons y l ih =>
              intro lo hi a b
              have a1 := a.1
              have a2 := a.2.1
              rw [cutL, if_neg (by omega)]
              exact ih _ _ a.2.2 (by omega)
          exact this l _ _ h.2.2 (by omega)
        rw [this]
        show x.o + min x.n (s - x.o) ≤ s
        omega
    · rw [cutL, if_neg k]
      have : cutL l s = [] := by
        have : ∀ (l : List Pt) (lo hi : Int), Sorted lo l hi → s ≤ lo → cutL l s = [] := by
          intro l
          induction l with
          | nil => intros; rfl
          | cons y l ih =>
            intro lo hi a b
            have a1 := a.1
            have a2 := a.2.1
            rw [cutL, if_neg (by omega)]
            exact ih _ _ a.2.2 (by omega)
        exact this l _ _ h.2.2 (by omega)
      rw [this]; exact hs
theorem beh_sorted : ∀ {lo : Int} {l : List Pt} {hi : Int} (_ : Sorted lo l hi) (e : Int), e ≤ hi → Sorted (max lo e) (behL l e) hi
  | lo, [], hi, h, e, k => by
    have : lo ≤ hi := h
    show max lo e ≤ hi
    omega
  | lo, x :: l, hi, h, e, k => by
    have h1 := h.1
    have h2 := h.2.1
    have h3 := h.2.2.le
    have ih := beh_sorted h.2.2 e k
    by_cases m : max 0 (e - x.o) < x.n
    · rw [behL, if_pos m]
      refine ⟨by show max lo e ≤ x.o + max 0 (e - x.o); omega, by show 1 ≤ x.n - max 0 (e - x.o); omega, ?_⟩
      show Sorted (x.o + max 0 (e - x.o) + (x.n - max 0 (e - x.o))) _ _
      exact ih.mono (by omega)
    · rw [behL, if_neg m]
      exact ih.mono (by omega)
theorem cut_ones : ∀ {l : List Pt}, (∀ x ∈ l, One x) → ∀ s, ∀ x ∈ cutL l s, One x
  | [], _, _, x, hx => by simp [cutL] at hx
  | y :: l, h, s, x, hx => by
    have hy := (h y (by simp)).small
    have ih := cut_ones (l := l) (fun z hz => h z (by simp [hz])) s
    by_cases k : y.o < s
    · rw [cutL, if_pos k] at hx
      rcases List.mem_cons.1 hx with rfl | hx
      · unfold One Whole; simp only; omega
      · exact ih x hx
    · rw [cutL, if_neg k] at hx
      exact ih x hx
theorem beh_ones : ∀ {l : List Pt}, (∀ x ∈ l, One x) → ∀ s, ∀ x ∈ behL l s, One x
  | [], _, _, x, hx => by simp [behL] at hx
  | y :: l, h, s, x, hx => by
    have hy := (h y (by simp)).small
    have ih := beh_ones (l := l) (fun z hz => h z (by simp [hz])) s
    by_cases k : max 0 (s - y.o) < y.n
    · rw [behL, if_pos k] at hx
      rcases List.mem_cons.1 hx with rfl | hx
      · unfold One Whole; simp only; omega
      · exact ih x hx
    · rw [behL, if_neg k] at hx
      exact ih x hx
/-- what is left below a size is a chain still -/
theorem cut_chain : ∀ {l : List Pt}, Chain l → ∀ s, Chain (cutL l s)
  | [], _, s => by simp [cutL, Chain]
  | [x], h, s => by
    have h' := cut_ones (l := [x]) (fun y hy => by simp only [List.mem_singleton] at hy; subst hy; exact h) s
    by_cases k : x.o < s
    · rw [cutL, if_pos k] at h' ⊢
      exact h' _ (by simp)
    · rw [cutL, if_neg k]; simp [cutL, Chain]
  | x :: y :: l, h, s => by
    have ih := cut_chain h.2.2 s
    have h' := cut_ones (chain_ones h) s
    have hs := h.1.small
    have hn := h.2.1
    by_cases k : x.o < s
    · by_cases m : y.o < s
      · rw [cutL, if_pos k] at h' ⊢
        rw [cutL, if_pos m] at ih ⊢
        have e : min x.n (s - x.o) = x.n := by have := hn.1; omega
        rw [e]
        exact ⟨h.1, hn, ih⟩
      · have hy := h.2.1.1
        have : cutL (y :: l) s = [] := by
          have key : ∀ (l : List Pt) (lo hi : Int), Sorted lo l hi → s ≤ lo → cutL l s = [] := by
            intro l
            induction l with
            | nil => intros; rfl
            | cons y l ih =>
              intro lo hi a b
              have a1 := a.1
              have a2 := a.2.1
              rw [cutL, if_neg (by omega)]
              exact ih _ _ a.2.2 (by omega)
          have hc := chain_ones h y (by simp)
          have := hc.small
          exact key _ y.o 8192 (chain_sorted h.2.2 _ (fun z hz => by simp only [List.head?_cons, Option.some.injEq] at hz; subst hz; exact Int.le_refl _) (by omega)) (by omega)
        rw [cutL, if_pos k] at h' ⊢
        rw [this]
        exact h' _ (by simp)
    · rw [cutL, if_neg k]; exact ih
theorem cut_len : ∀ (l : List Pt) (s : Int), (cutL l s).length ≤ l.length
  | [], _ => by simp [cutL]
  | x :: l, s => by
    have := cut_len l s
    rw [cutL]
    split <;> simp <;> omega
theorem beh_len : ∀ (l : List Pt) (s : Int), (behL l s).length ≤ l.length
  | [], _ => by simp [behL]
  | x :: l, s => by
    have := beh_len l s
    rw [behL]
    split <;> simp <;> omega
theorem cut_good {l : List Pt} (h : Good l) (s : Int) : Good (cutL l s) := ⟨Nat.le_trans (cut_len l s) h.1, cut_chain h.2 s⟩
theorem join_units0 {l : List Pt} (h : Sorted 0 l 8192) (g : Int → Option (Int × Int)) (e : ∀ i, look l i = g i) : joinL l = joinL (units g 0 8192) := by
  have h1 := join_units h
  rw [show ((8192 : Int) - 0).toNat = 8192 by decide] at h1
  rw [h1, show look l = g from funext e]
/-- one put over all, not joined -/
def overL (l : List Pt) (x : Pt) : List Pt := cutL l x.o ++ [x] ++ behL l (x.o + x.n)
theorem over_sorted {l : List Pt} (h : Good l) {x : Pt} (hx : One x) : Sorted 0 (overL l x) 8192 := by
  have hs := hx.small
  have h1 := cut_sorted (good_sorted h) x.o (by omega)
  have h2 := beh_sorted (good_sorted h) (x.o + x.n) (by omega)
  rw [show max 0 (x.o + x.n) = x.o + x.n by omega] at h2
  unfold overL
  rw [List.append_assoc]
  exact h1.append ⟨Int.le_refl _, hs.2.1, h2⟩
theorem over_ones {l : List Pt} (h : Good l) {x : Pt} (hx : One x) : ∀ y ∈ overL l x, One y := by
  intro y hy
  unfold overL at hy
  simp only [List.append_assoc, List.mem_append, List.mem_singleton] at hy
  rcases hy with hy | rfl | hy
  · exact cut_ones (chain_ones h.2) _ y hy
  · exact hx
  · exact beh_ones (chain_ones h.2) _ y hy
theorem look_over (l : List Pt) (x : Pt) (i : Int) (hx : 1 ≤ x.n) : look (overL l x) i = if x.o ≤ i ∧ i < x.o + x.n then some (x.a, x.f + (i - x.o)) else look l i := by
  unfold overL
  rw [List.append_assoc, look_append, List.singleton_append, look, look_cut, look_beh]
  by_cases h : x.o ≤ i ∧ i < x.o + x.n
  · rw [if_pos h, if_neg (by omega), if_pos h]; rfl
  · rw [if_neg h, if_neg h]
    by_cases h2 : i < x.o
    · rw [if_pos h2, if_neg (by omega)]; simp
    · rw [if_neg h2, if_pos (by omega)]; simp
/-- bytes with some put over them -/
def overG (g : Int → Option (Int × Int)) (x : Pt) (i : Int) : Option (Int × Int) := if x.o ≤ i ∧ i < x.o + x.n then some (x.a, x.f + (i - x.o)) else g i
theorem put_units {l : List Pt} (h : Good l) {x : Pt} (hx : One x) : joinL (overL l x) = joinL (units (overG (look l) x) 0 8192) :=
  join_units0 (over_sorted h hx) _ fun i => look_over l x i hx.small.2.1
theorem cut_units {l : List Pt} (h : Good l) (s : Int) : cutL l s = joinL (units (fun i => if i < s then look l i else none) 0 8192) := by
  have hg := cut_good h s
  have h1 := join_units0 (good_sorted hg) _ fun i => look_cut l s i
  rwa [join_chain hg.2] at h1
/-- what joined parts are good for -/
theorem snoc_fine {out : List Pt} {x : Pt} {mi : Int} (h : Sorted 0 out mi) (ho : ∀ y ∈ out, One y) (hc : Chain out) (hx : One x) (hm : mi ≤ x.o) (i : Int) :
    Sorted 0 (snocJ out x) (x.o + x.n) ∧ (∀ y ∈ snocJ out x, One y) ∧ Chain (snocJ out x) ∧ look (snocJ out x) i = look (out ++ [x]) i := by
  have hxs := hx.small
  have hap : Sorted 0 (out ++ [x]) (x.o + x.n) := h.append ⟨hm, hxs.2.1, Int.le_refl _⟩
  rcases snoc_cases out with rfl | ⟨l, p, rfl⟩
  · exact ⟨hap, by simpa [snocJ] using hx, hx, rfl⟩
  · have hp := ho p (by simp)
    have hps := hp.small
    by_cases hj : Joins p x
    · rw [snocJ_yes _ _ _ hj]
      have hj' := hj
      unfold Joins at hj'
      have hone : One ⟨p.o, p.n + x.n, p.a, p.f⟩ := by unfold One Whole; simp only; omega
      refine ⟨?_, ?_, ?_, ?_⟩
      · have : ∀ (l : List Pt) (lo : Int), Sorted lo (l ++ [p]) mi → Sorted lo (l ++ [⟨p.o, p.n + x.n, p.a, p.f⟩]) (x.o + x.n) := by
          intro l
          induction l with
          | nil => intro lo a; exact ⟨a.1, by show 1 ≤ p.n + x.n; omega, by show p.o + (p.n + x.n) ≤ x.o + x.n; omega⟩
          | cons y l ih => intro lo a; exact ⟨a.1, a.2.1, ih _ a.2.2⟩
        exact this l 0 h
      · intro y hy
        simp only [List.mem_append, List.mem_singleton] at hy
        rcases hy with hy | rfl
        · exact ho y (by simp [hy])
        · exact hone
      · rw [chain_iff] at hc ⊢
        intro i hi y hy
        by_cases hil : i < l.length
        · have e1 : (l ++ [p])[i]? = some y := by
            rw [List.getElem?_append_left hil] at hy ⊢
            exact hy
          have := hc i (by simp; omega) y e1
          refine ⟨this.1, fun q h0 hq => this.2 q h0 ?_⟩
          rw [List.getElem?_append_left (by omega)] at hq ⊢
          exact hq
        · have e : i = l.length := by simp at hi; omega
          subst e
          have e2 : y = ⟨p.o, p.n + x.n, p.a, p.f⟩ := by simpa using hy.symm
          subst e2
          have := hc l.length (by simp) p (by simp)
          refine ⟨hone, fun q h0 hq => ?_⟩
          have h3 := this.2 q h0 (by rw [List.getElem?_append_left (by omega)] at hq ⊢; exact hq)
          exact h3
      · simp only [look_append, look, List.append_assoc, List.singleton_append]
        by_cases c1 : p.o ≤ i ∧ i < p.o + p.n
        · rw [if_pos c1, if_pos (by omega)]
        · rw [if_neg c1]
          by_cases c2 : x.o ≤ i ∧ i < x.o + x.n
          · rw [if_pos c2, if_pos (by omega)]
            congr 3 <;> omega
          · rw [if_neg c2, if_neg (by omega)]
    · rw [snocJ_no _ _ _ hj]
      refine ⟨hap, ?_, ?_, rfl⟩
      · intro y hy
        simp only [List.mem_append, List.mem_singleton] at hy
        rcases hy with hy | rfl
        · exact ho y (by simpa using hy)
        · exact hx
      · rw [chain_iff] at hc ⊢
        intro i hi y hy
        by_cases hil : i < (l ++ [p]).length
        · rw [List.getElem?_append_left hil] at hy
          have := hc i hil y hy
          refine ⟨this.1, fun q h0 hq => this.2 q h0 ?_⟩
          rw [List.getElem?_append_left (by omega)] at hq
          exact hq
        · have e : i = (l ++ [p]).length := by simp at hi hil ⊢; omega
          subst e
          have e2 : y = x := by simpa using hy.symm
          subst e2
          refine ⟨hx, fun q h0 hq => ?_⟩
          have e3 : p = q := by
            rw [List.getElem?_append_left (by simp)] at hq
            simpa using hq
          subst e3
          have : ∀ (l : List Pt) (lo : Int), Sorted lo (l ++ [p]) mi → p.o + p.n ≤ mi := by
            intro l
            induction l with
            | nil => intro lo a; exact a.2.2
            | cons y l ih => intro lo a; exact ih _ a.2.2
          have := this l 0 h
          exact ⟨by omega, hj⟩
theorem fold_fine : ∀ (l out : List Pt) (mi hi : Int), Sorted 0 out mi → (∀ y ∈ out, One y) → Chain out → Sorted mi l hi → (∀ y ∈ l, One y) → ∀ i,
    Sorted 0 (l.foldl snocJ out) hi ∧ (∀ y ∈ l.foldl snocJ out, One y) ∧ Chain (l.foldl snocJ out) ∧ look (l.foldl snocJ out) i = look (out ++ l) i
  | [], out, mi, hi, h1, h2, h3, h4, _, i => ⟨h1.up h4, h2, h3, by simp⟩
  | x :: l, out, mi, hi, h1, h2, h3, h4, h5, i => by
    obtain ⟨a, b, c, d⟩ := snoc_fine h1 h2 h3 (h5 x (by simp)) h4.1 i
    obtain ⟨a', b', c', d'⟩ := fold_fine l (snocJ out x) _ hi a b c h4.2.2 (fun y hy => h5 y (by simp [hy])) i
    refine ⟨a', b', c', ?_⟩
    rw [List.foldl_cons, d', look_append, d, ← look_append]
    simp
theorem join_fine {l : List Pt} (h : Sorted 0 l 8192) (ho : ∀ y ∈ l, One y) : Sorted 0 (joinL l) 8192 ∧ (∀ y ∈ joinL l, One y) ∧ Chain (joinL l) ∧ ∀ i, look (joinL l) i = look l i := by
  have key := fold_fine l [] 0 8192 (Int.le_refl _) (by simp) (by simp [Chain]) h ho
  exact ⟨(key 0).1, (key 0).2.1, (key 0).2.2.1, fun i => (key i).2.2.2⟩
end Go.Proofs.Ytappgelpigoknaa.ExtW
