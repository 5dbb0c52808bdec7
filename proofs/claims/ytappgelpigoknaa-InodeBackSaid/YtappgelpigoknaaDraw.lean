/- A region that draws its order and ends in one operation that waits for all others (a store): the others are walked under a condition on the world that need not hold behind the last one. -/
import Derived.Test.YtappgelpigoknaaStepApp
import Derived.OrdersHeld
namespace Go.Proofs.Ytappgelpigoknaa
open Go.RowKit
section
variable {P : Program} {ops : Array Oper} {Q : Exit → Act → World → Prop} {md : Region.Mode} {S : World → Prop} {last : Nat}
/-- whatever order is picked; S holds behind all but the last -/
def wpAnyL (P : Program) (md : Region.Mode) (ops : Array Oper) (Q : Exit → Act → World → Prop) (S : World → Prop) (last : Nat) : Nat → Array Bool → Act → World → Prop
  | 0, listed, a, w => Region.ready md ops listed = [] ∧ Q .normal a w
  | n + 1, listed, a, w => (Region.ready md ops listed = [] → Q .normal a w) ∧
    ∀ i, i ∈ Region.ready md ops listed → wpOp P ops Q i (fun a' w' => (i ≠ last → S w') ∧ wpAnyL P md ops Q S last n (listed.setIfInBounds i true) a' w') a w
theorem wpAnyL_any : ∀ (n : Nat) (listed : Array Bool) (a : Act) (w : World), wpAnyL P md ops Q S last n listed a w → wpAny P md ops Q n listed a w
  | 0, _, _, _, h => h
  | n + 1, _, _, _, h => ⟨h.1, fun i hi => wpOp_mono (fun a' w' k => wpAnyL_any n _ a' w' k.2) (h.2 i hi)⟩
/-- does the last one wait for number i? -/
def waitsB (md : Region.Mode) (ops : Array Oper) (last i : Nat) : Bool := ((ops[last]?).map fun o => o.after.any fun e => Region.binds md e && e.on == i).getD false
theorem waits_not {i : Nat} (h : waitsB md ops last i = true) {listed : Array Bool} (hi : i ∈ Region.ready md ops listed) : last ∉ Region.ready md ops listed := by
  intro hl
  obtain ⟨_, o, ho, hall⟩ := mem_ready.1 hl
  unfold waitsB at h
  rw [ho] at h
  simp only [Option.map_some, Option.getD_some, Array.any_eq_true] at h
  obtain ⟨k, hk, he⟩ := h
  simp only [Bool.and_eq_true, beq_iff_eq] at he
  have h1 := hall _ (Array.getElem_mem hk) he.1
  have h0 := (mem_ready.1 hi).1
  rw [he.2] at h1
  rcases Nat.lt_or_ge i listed.size with h' | h'
  · simp [h'] at h0 h1; rw [h0] at h1; cases h1
  · simp [Array.getElem?_eq_none h'] at h1
theorem firstL {i : Nat} {oi : Oper} {v : Value} (hi : ops[i]? = some oi) (hsel : ∀ (j : Nat) (o : Oper) cs b, ops[j]? = some o → o.op ≠ .select cs b) (hwt : waitsB md ops last i = true)
    (hQ : ∀ c a w, Q (.panic c) (a.put oi.dst v) w → Q (.panic c) a w) :
    ∀ (n : Nat) (listed : Array Bool) (a : Act) (w : World),
      (∀ j oj, ops[j]? = some oj → j ≠ i → listed.getD j true = false → (∀ e ∈ oj.after, Region.binds md e = true → e.on ≠ i) → oi.apart ops oj = true) →
      i ∈ Region.ready md ops listed → YieldsIf P ops S oi v a → S w →
      wpAnyL P md ops Q S last n (listed.setIfInBounds i true) (a.put oi.dst v) w → wpAnyL P md ops Q S last (n + 1) listed a w := by
  intro n
  induction n with
  | zero =>
    intro listed a w _ hr hy hS H
    refine ⟨fun h0 => (by rw [h0] at hr; cases hr), fun j hj => ?_⟩
    by_cases hji : j = i
    · subst hji; exact hy.wpOp hi hS ⟨fun _ => hS, H⟩
    · have h1 := ready_mono hj hji
      rw [H.1] at h1
      cases h1
  | succ n ih =>
    intro listed a w hfree hr hy hS H
    refine ⟨fun h0 => (by rw [h0] at hr; cases hr), fun j hj => ?_⟩
    by_cases hji : j = i
    · subst hji; exact hy.wpOp hi hS ⟨fun _ => hS, H⟩
    · have hjl : j ≠ last := fun e => waits_not hwt hr (e ▸ hj)
      have h1 := H.2 j (ready_mono hj hji)
      obtain ⟨hjun, oj, hoj, hall⟩ := mem_ready.1 hj
      have hnot : ∀ e ∈ oj.after, Region.binds md e = true → e.on ≠ i := fun e he hb heq => by
        have k1 := hall e he hb
        have k0 := (mem_ready.1 hr).1
        rw [heq] at k1
        rcases Nat.lt_or_ge i listed.size with h' | h'
        · simp [h'] at k0 k1; rw [k0] at k1; cases k1
        · simp [Array.getElem?_eq_none h'] at k1
      have h2 := wpOp_putIf hoj (hfree j oj hoj hji hjun hnot) (fun cs b => hsel i oi cs b hi) (fun cs b => hsel j oj cs b hoj) hQ hy h1
      refine wpOp_mono (fun a' w' h3 => ⟨fun _ => h3.2.1 hjl, ih (listed.setIfInBounds j true) a' w' (fun k ok hk hki hun hno => ?_) (ready_mono hr (Ne.symm hji)) h3.1 (h3.2.1 hjl) ?_⟩) h2
      · refine hfree k ok hk hki ?_ hno
        by_cases hjk : j = k
        · subst hjk; exact hjun
        · rw [getD_set_ne true hjk] at hun; exact hun
      · rw [Array.setIfInBounds_comm _ _ hji]
        exact h3.2.2
/-- take number i first: it only reads -/
theorem takeL (i : Nat) (d : Option Tmp) {oi : Oper} {v : Value} {n : Nat} {listed : Array Bool} {a : Act} {w : World} (hi : ops[i]? = some oi)
    (hs : Region.noSelect ops = true) (hf : Region.free md ops listed i = true) (hr : (Region.ready md ops listed).contains i = true) (hwt : waitsB md ops last i = true)
    (hQ : ∀ c a w, Q (.panic c) (a.put oi.dst v) w → Q (.panic c) a w) (hg : oi.guard = none) (hd : oi.dst = d) (hS : S w) (hv : ∀ w', S w' → (execOp a.eval oi).run P w' = .ok (.value v) w')
    (h : wpAnyL P md ops Q S last n (listed.setIfInBounds i true) (a.put d v) w) : wpAnyL P md ops Q S last (n + 1) listed a w := by
  subst hd
  exact firstL hi (Region.noSelect_spec hs) hwt hQ n listed a w (Region.free_spec hi hf) (by simpa using hr) (.inl ⟨by simp [Region.wanted, hg], hv⟩) hS h
/-- number i alone may come up -/
theorem oneL (i : Nat) {oi : Oper} {n : Nat} {listed : Array Bool} {a : Act} {w : World} (hr : Region.ready md ops listed = [i]) (hi : ops[i]? = some oi) (hg : oi.guard = none)
    (h : oi.wp P a w (fun a' w' => (i ≠ last → S w') ∧ wpAnyL P md ops Q S last n (listed.setIfInBounds i true) a' w') Q) : wpAnyL P md ops Q S last (n + 1) listed a w := by
  refine ⟨fun h0 => (by rw [hr] at h0; cases h0), fun j hj => ?_⟩
  rw [hr, List.mem_singleton] at hj
  subst hj
  unfold Go.wpOp
  simp only [hi]
  rw [if_pos (by simp [Region.wanted, hg])]
  exact .inl h
/-- two may -/
theorem twoL (i j : Nat) {oi oj : Oper} {n : Nat} {listed : Array Bool} {a : Act} {w : World} (hr : Region.ready md ops listed = [i, j]) (hi : ops[i]? = some oi) (hj : ops[j]? = some oj) (hg : oi.guard = none) (hg' : oj.guard = none)
    (h : oi.wp P a w (fun a' w' => (i ≠ last → S w') ∧ wpAnyL P md ops Q S last n (listed.setIfInBounds i true) a' w') Q)
    (h' : oj.wp P a w (fun a' w' => (j ≠ last → S w') ∧ wpAnyL P md ops Q S last n (listed.setIfInBounds j true) a' w') Q) : wpAnyL P md ops Q S last (n + 1) listed a w := by
  refine ⟨fun h0 => (by rw [hr] at h0; cases h0), fun k hk => ?_⟩
  rw [hr] at hk
  simp only [List.mem_cons, List.not_mem_nil, or_false] at hk
  rcases hk with rfl | rfl
  · unfold Go.wpOp
    simp only [hi]
    rw [if_pos (by simp [Region.wanted, hg])]
    exact .inl h
  · unfold Go.wpOp
    simp only [hj]
    rw [if_pos (by simp [Region.wanted, hg'])]
    exact .inl h'
theorem doneL {n : Nat} {listed : Array Bool} {a : Act} {w : World} (hr : Region.ready md ops listed = []) (h : Q .normal a w) : wpAnyL P md ops Q S last n listed a w := by
  cases n with
  | zero => exact ⟨hr, h⟩
  | succ n => exact ⟨fun _ => h, fun i hi => by rw [hr] at hi; cases hi⟩
theorem regionL (last n : Nat) {id : Nat} {a : Act} {w : World} (S : World → Prop) (hm : P.follows .mixedOrders = true) (hn : ops.size = n)
    (h : wpAnyL P .any ops Q S last n (Array.replicate n false) a w.drew) : (Code.region id ops true).wp P Q a w :=
  wp_region_any hm (by rw [hn]; exact wpAnyL_any _ _ _ _ h)
theorem wp_runs (d : Option Tmp) {o : Oper} {a : Act} {w w' : World} {v : Value} {K : Act → World → Prop} (hd : o.dst = d) (hr : (execOp a.eval o).run P w = .ok (.value v) w') (h : K (a.put d v) w') : o.wp P a w K Q := by
  subst hd
  unfold Oper.wp
  rw [hr]
  exact h
theorem wp_skips (d : Option Tmp) {o : Oper} {a : Act} {w w' : World} {K : Act → World → Prop} (hd : o.dst = d) (hr : (execOp a.eval o).run P w = .ok .skip w') (h : K (a.put d undef) w') : o.wp P a w K Q := by
  subst hd
  unfold Oper.wp
  rw [hr]
  exact h
end
theorem wp_append_both (d : Option Tmp) {P : Program} {o : Oper} {a : Act} {K : Act → World → Prop} {Q : Exit → Act → World → Prop} (hgd : o.guard = none) (hd : o.dst = d) (s x : Operand) (t : TypeId)
    (ho : o.op = .call { callee := .builtin .append, args := #[s, x], argTypes := #[t, t] })
    (base : Nat) (e : TypeId) (i : TypeInfo) (z : Value) (size bytes : Nat) (ht : P.underlying t = some (.slice e)) (hi : P.info? e = some i) (hz : i.zero = some z)
    (hsize : i.size = size) (hby : i.bytes = bytes) (hzs : z.cells.size = size) (hsz : 0 < size)
    (W : World) (v : Value) (n : Nat) (xs : List Value) (hs : a.eval s = v) (hown : W.ownsRow base e size v n xs)
    (oa : Option Addr) (m c : Nat) (news : List Value) (hx : a.eval x = .slice oa m c) (hn : oa = none → m = 0 ∧ c = 0)
    (hl : news.length = m * size) (hnews : ∀ ad, oa = some ad → ∀ j u, news[j]? = some u → W.cell? (ad.add j) = some u) (h1 : ∀ u ∈ news, u.oneCell' = true)
    (h63 : n + m ≤ maxLen) (hbytes : (n + m) * bytes ≤ 140737488355328) (hbase : base ≤ W.heap.size)
    (h : ∀ oa' cap' w', w'.ownsRow base e size (.slice oa' (n + m) cap') (n + m) (xs ++ news) → Below base W w' → W.grownBy w' v.ownBlock → K (a.put d (.slice oa' (n + m) cap')) w') : o.wp P a W K Q := by
  subst hd
  have := step_append_both (ops := #[]) (E := True) (Q := Q) hgd s x t ho base e i z size bytes ht hi hz hsize hby hzs hsz W v n xs hs hown oa m c news hx hn hl hnews h1 h63 hbytes hbase h
  rwa [if_pos (by simp [Region.wanted, hgd])] at this
section
variable {α : Type} {enc : α → List Value} {k : Nat}
theorem own_row {T : TypeId} {B n : Nat} {w : World} {v : Value} {xs : List Value} {l : List α} (h : w.ownsRow B T k v n xs) (e : xs = l.flatMap enc ∧ n = l.length) : RowK T enc k B w v l := by
  unfold RowK
  rw [← e.1, ← e.2]; exact h
/-- the cells of l[m:], as the walk spells the slice -/
theorem news_drop {B : Nat} {a : Addr} {l : List α} {w : World} {cap : Nat} (hk : ∀ x, (enc x).length = k) (k0 : 0 < k) (h : KAt enc k B (some a) l w) (hl : l.length ≤ cap) (m : Nat) :
    ∀ ad, (if cap = m then some a else some (a.add (m * k))) = some ad → ∀ j u, ((l.drop m).flatMap enc)[j]? = some u → w.cell? (ad.add j) = some u := by
  intro ad e j u hu
  by_cases hc : cap = m
  · have : l.drop m = [] := List.drop_eq_nil_of_le (by omega)
    rw [this] at hu; simp at hu
  · rw [if_neg hc] at e
    injection e with e
    rw [← e, Go.Deep.add_add]
    exact kat_news_drop hk k0 h m j u hu
theorem news_take {B : Nat} {a : Addr} {l : List α} {w : World} (hk : ∀ x, (enc x).length = k) (k0 : 0 < k) (h : KAt enc k B (some a) l w) (m : Nat) :
    ∀ ad, some a = some ad → ∀ j u, ((l.take m).flatMap enc)[j]? = some u → w.cell? (ad.add j) = some u := kat_news hk k0 (h.take m)
end
end Go.Proofs.Ytappgelpigoknaa
