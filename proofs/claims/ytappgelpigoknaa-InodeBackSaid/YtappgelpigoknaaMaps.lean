/- Maps as functions: what a map's block is good for, an iterator over it, and what the operations do with both. -/
import Derived.Test.YtappgelpigoknaaFrame
import Derived.Maps.OwnSet
import Derived.Maps.RangeWalk
import Derived.DeepKeys4
namespace Go.Proofs.Ytappgelpigoknaa
open Go.RowKit Go.MapKept Go.WideShapes Go.ChangeMaps
open Go.Maps (Keyed)
/-- values that are keys -/
structure MK (P : Program) (k : TypeId) {κ : Type} (mk : κ → Value) (ok : κ → Prop) : Prop where
  keyed : Keyed P k
  key : ∀ x, ok x → ∃ l, keyOf P k (mk x) = some l
  inj : ∀ x y, mk x = mk y → x = y
section
variable {κ β : Type} {mk : κ → Value} {ok : κ → Prop} {mv : β → Value}
/-- entries that say just what g says -/
def Ents (mk : κ → Value) (ok : κ → Prop) (mv : β → Value) (es : Array MapEntry) (g : κ → Option β) : Prop :=
  (∀ e ∈ es.toList, ∃ x y, e.key = mk x ∧ ok x ∧ e.val = mv y ∧ g x = some y) ∧ ∀ x y, g x = some y → ∃ e ∈ es.toList, e.key = mk x
/-- block b is a map of at most n entries that says what g says -/
def MapIs (mk : κ → Value) (ok : κ → Prop) (mv : β → Value) (w : World) (b n : Nat) (g : κ → Option β) : Prop :=
  ∃ es clock, w.heap[b]? = some (.map es clock) ∧ es.size ≤ n ∧ Stamped es clock ∧ Ents mk ok mv es g
/-- .. and block r goes over it: what was seen, and how many are left -/
def RangeIs (mk : κ → Value) (ok : κ → Prop) (mv : β → Value) (w : World) (b r n : Nat) (g : κ → Option β) (seen : κ → Bool) (cnt : Nat) : Prop :=
  ∃ es clock since sn c0, w.heap[b]? = some (.map es clock) ∧ es.size ≤ n ∧ Stamped es clock ∧ Ents mk ok mv es g ∧ w.heap[r]? = some (.mapIter (some b) since sn c0) ∧
    (∀ e ∈ es.toList, e.born < since) ∧ since ≤ c0 ∧ since ≤ clock ∧ cnt = (leftOf es sn).size ∧ ∀ e ∈ es.toList, ∀ x, e.key = mk x → sn.contains e.born = seen x
theorem MapIs.lt {w : World} {b n : Nat} {g : κ → Option β} (h : MapIs mk ok mv w b n g) : b < w.heap.size := by
  obtain ⟨es, clock, hb, _⟩ := h
  exact lt_of_block hb
theorem MapIs.made (w : World) : MapIs mk ok mv (w.alloc (.map #[] 0)) w.heap.size 0 (fun _ : κ => (none : Option β)) :=
  ⟨#[], 0, heap_alloc_new w _, Nat.le_refl _, stamped_empty 0, fun e he => by simp at he, fun x y h => by cases h⟩
theorem MapIs.mono {w : World} {b n n' : Nat} {g : κ → Option β} (h : MapIs mk ok mv w b n g) (hn : n ≤ n') : MapIs mk ok mv w b n' g := by
  obtain ⟨es, clock, hb, hs, r⟩ := h
  exact ⟨es, clock, hb, Nat.le_trans hs hn, r⟩
theorem MapIs.of_block {w w' : World} {b n : Nat} {g : κ → Option β} (h : MapIs mk ok mv w b n g) (hb : w'.heap[b]? = w.heap[b]?) : MapIs mk ok mv w' b n g := by
  obtain ⟨es, clock, hb1, r⟩ := h
  exact ⟨es, clock, hb.trans hb1, r⟩
theorem MapIs.keep {w w' : World} {b n : Nat} {g : κ → Option β} (h : MapIs mk ok mv w b n g) (k : Below w.heap.size w w') : MapIs mk ok mv w' b n g :=
  h.of_block (k.block b h.lt)
theorem MapIs.only {w w' : World} {b c n : Nat} {g : κ → Option β} (h : MapIs mk ok mv w b n g) (k : Only c w w') (hne : b ≠ c) : MapIs mk ok mv w' b n g :=
  h.of_block (k.block b h.lt (fun e => hne (by injection e)))
theorem MapIs.drewN {w : World} {b n : Nat} {g : κ → Option β} (h : MapIs mk ok mv w b n g) (m : Nat) : MapIs mk ok mv (w.drewN m) b n g := h.of_block rfl
theorem MapIs.drew {w : World} {b n : Nat} {g : κ → Option β} (h : MapIs mk ok mv w b n g) : MapIs mk ok mv w.drew b n g := h.of_block rfl
theorem MapIs.alloc {w : World} {b n : Nat} {g : κ → Option β} (h : MapIs mk ok mv w b n g) (o : Obj) : MapIs mk ok mv (w.alloc o) b n g := h.keep (below_alloc w o)
theorem MapIs.congr {w : World} {b n : Nat} {g g' : κ → Option β} (h : MapIs mk ok mv w b n g) (e : g = g') : MapIs mk ok mv w b n g' := e ▸ h
variable {P : Program} {k : TypeId}
theorem Ents.has {es : Array MapEntry} {g : κ → Option β} (M : MK P k mk ok) (h : Ents mk ok mv es g) {e : MapEntry} (he : e ∈ es.toList) {x : κ} (hx : e.key = mk x) : ∃ y, e.val = mv y ∧ g x = some y := by
  obtain ⟨x', y, h1, _, h2, h3⟩ := h.1 e he
  obtain rfl := M.inj _ _ (hx.symm.trans h1)
  exact ⟨y, h2, h3⟩
theorem Ents.keys {es : Array MapEntry} {g : κ → Option β} (M : MK P k mk ok) (h : Ents mk ok mv es g) : ∀ e ∈ es.toList, ∃ l, keyOf P k e.key = some l := fun e he => by
  obtain ⟨x, y, h1, h2, _⟩ := h.1 e he
  rw [h1]; exact M.key x h2
theorem same_entry {es : Array MapEntry} {clock : Nat} (h : Stamped es clock) {x e : MapEntry} (hx : x ∈ es.toList) (he : e ∈ es.toList) (hk : x.key = e.key) : x = e :=
  entry_eq_of_key ((stamped_iff es clock).1 h).2.2 hx he hk
/-- who stands in a list of which one entry was set anew -/
theorem mem_modify {es : Array MapEntry} {clock : Nat} (S : Stamped es clock) {j : Nat} {e0 : MapEntry} (h2 : es.toList[j]? = some e0) (v : Value) (e : MapEntry) :
    e ∈ (es.modify j fun e' => { e' with key := e0.key, val := v }).toList ↔ e = { e0 with val := v } ∨ (e ∈ es.toList ∧ e.key ≠ e0.key) := by
  have hjl : j < es.toList.length := (List.getElem?_eq_some_iff.1 h2).1
  have hlist : (es.modify j (fun e' => { e' with key := e0.key, val := v })).toList = es.toList.set j { e0 with val := v } := by
    rw [Array.toList_modify, modify_eq_set _ _ _ _ h2]
  rw [hlist]
  constructor
  · intro hx
    obtain ⟨i, hi, ex⟩ := List.getElem_of_mem hx
    rw [List.getElem_set] at ex
    split at ex
    · exact Or.inl ex.symm
    · rename_i hne
      have hi' : i < es.toList.length := by simpa using hi
      refine Or.inr ⟨ex ▸ List.getElem_mem hi', fun hk => hne ?_⟩
      have h4 := same_entry S (ex ▸ List.getElem_mem hi') (List.mem_of_getElem? h2) hk
      have hnd := ((stamped_iff es clock).1 S).2.1
      have h5 : (es.toList.map (·.born))[j]'(by simpa using hjl) = (es.toList.map (·.born))[i]'(by simpa using hi') := by
        rw [List.getElem_map, List.getElem_map, ex, h4]
        rw [List.getElem?_eq_getElem hjl] at h2
        injection h2 with h2
        rw [h2]
      exact (List.getElem_inj hnd).1 h5
  · rintro (rfl | ⟨hx, hne⟩)
    · exact List.mem_iff_getElem.2 ⟨j, by simpa using hjl, by simp⟩
    · obtain ⟨i, hi, rfl⟩ := List.getElem_of_mem hx
      refine List.mem_iff_getElem.2 ⟨i, by simpa using hi, ?_⟩
      rw [List.getElem_set, if_neg]
      rintro rfl
      rw [List.getElem?_eq_getElem hi] at h2
      injection h2 with h2
      exact hne (by rw [h2])
theorem heap_setB {w : World} {b i : Nat} (o' : Obj) (hi : i ≠ b) : (setBlock w b o').heap[i]? = w.heap[i]? := by
  simp [setBlock, Ne.symm hi]
theorem only_setBlock (w : World) (b : Nat) (o' : Obj) : Only b w (setBlock w b o') :=
  ⟨rfl, rfl, rfl, by simp [setBlock], fun i _ hi => heap_setB o' (fun e => hi (by rw [e]))⟩
theorem Ents.push [DecidableEq κ] {es : Array MapEntry} {g : κ → Option β} (h : Ents mk ok mv es g) {x : κ} {y : β} (hok : ok x) (hnew : ∀ e ∈ es.toList, e.key ≠ mk x) (c : Nat) :
    Ents mk ok mv (es.push ⟨mk x, mv y, c⟩) (fun z => if z = x then some y else g z) := by
  refine ⟨fun e he => ?_, fun z v hz => ?_⟩
  · simp only [Array.toList_push, List.mem_append, List.mem_singleton] at he
    rcases he with he | rfl
    · obtain ⟨x', y', h1, h2, h3, h4⟩ := h.1 e he
      refine ⟨x', y', h1, h2, h3, ?_⟩
      show (if x' = x then _ else _) = _
      rw [if_neg (fun e' => hnew e he (by rw [h1, e'])), h4]
    · exact ⟨x, y, rfl, hok, rfl, by show (if x = x then _ else _) = _; rw [if_pos rfl]⟩
  · simp only [Array.toList_push, List.mem_append, List.mem_singleton]
    replace hz : (if z = x then some y else g z) = some v := hz
    split at hz
    · rename_i e; subst e; exact ⟨_, .inr rfl, rfl⟩
    · obtain ⟨e, he, hk⟩ := h.2 z v hz
      exact ⟨e, .inl he, hk⟩
theorem Ents.set [DecidableEq κ] {es : Array MapEntry} {clock : Nat} {g : κ → Option β} (M : MK P k mk ok) (S : Stamped es clock) (h : Ents mk ok mv es g) {x : κ} {y : β} {j : Nat} {e0 : MapEntry} (h2 : es.toList[j]? = some e0) (h3 : e0.key = mk x) :
    Ents mk ok mv (es.modify j fun e' => { e' with key := mk x, val := mv y }) (fun z => if z = x then some y else g z) := by
  have h0 := List.mem_of_getElem? h2
  obtain ⟨ek, ev, eb⟩ := e0
  obtain rfl : ek = mk x := h3
  have hm := mem_modify S h2 (mv y)
  simp only at hm
  refine ⟨fun e he => ?_, fun z v hz => ?_⟩
  · rcases (hm e).1 he with rfl | ⟨he, hne⟩
    · obtain ⟨x', y', k1, k2, _⟩ := h.1 _ h0
      obtain rfl := M.inj _ _ k1
      exact ⟨x, y, rfl, k2, rfl, by show (if x = x then _ else _) = _; rw [if_pos rfl]⟩
    · obtain ⟨x', y', k1, k2, k3, k4⟩ := h.1 e he
      refine ⟨x', y', k1, k2, k3, ?_⟩
      show (if x' = x then _ else _) = _
      rw [if_neg (fun e' => hne (by rw [k1, e'])), k4]
  · replace hz : (if z = x then some y else g z) = some v := hz
    split at hz
    · rename_i e; subst e; exact ⟨_, (hm _).2 (.inl rfl), rfl⟩
    · rename_i hne
      obtain ⟨e, he, hk⟩ := h.2 z v hz
      exact ⟨e, (hm _).2 (.inr ⟨he, fun e' => hne (M.inj _ _ (hk.symm.trans e'))⟩), hk⟩
theorem key_or {es : Array MapEntry} {g : κ → Option β} (M : MK P k mk ok) (h : Ents mk ok mv es g) (w : World) {x : κ} (hok : ok x) :
    ((Instr.findKey k (mk x) es.toList).run P w = .ok none w ∧ (∀ e ∈ es.toList, e.key ≠ mk x) ∧ g x = none) ∨
    ∃ j e0 y, (Instr.findKey k (mk x) es.toList).run P w = .ok (some (j, mv y)) w ∧ es.toList[j]? = some e0 ∧ e0.key = mk x ∧ e0.val = mv y ∧ g x = some y := by
  obtain ⟨l, hl⟩ := M.key x hok
  rcases M.keyed.find w hl es.toList (h.keys M) with ⟨h1, h2⟩ | ⟨j, e0, h1, h2, h3⟩
  · refine .inl ⟨h1, h2, ?_⟩
    cases hg : g x with
    | none => rfl
    | some y =>
      obtain ⟨e, he, hk⟩ := h.2 x y hg
      exact absurd hk (h2 e he)
  · obtain ⟨y, hy, hg⟩ := h.has M (List.mem_of_getElem? h2) h3
    exact .inr ⟨j, e0, y, by rw [h1, hy], h2, h3, hy, hg⟩
/-- m[x] = y -/
theorem MapIs.store [DecidableEq κ] {w : World} {b n : Nat} {g : κ → Option β} {t e : TypeId} (h : MapIs mk ok mv w b n g) (M : MK P k mk ok) (ht : P.underlying t = some (.map k e)) (x : κ) (y : β) (hok : ok x) :
    ∃ w', (Instr.mapUpdate t (.map (some b)) (mk x) (mv y)).run P w = .ok () w' ∧ MapIs mk ok mv w' b (n + 1) (fun z => if z = x then some y else g z) ∧ Only b w w' ∧ w'.heap.size = w.heap.size := by
  obtain ⟨es, clock, hb, hs, S, E⟩ := h
  obtain ⟨l, hl⟩ := M.key x hok
  rcases key_or M E w hok with ⟨h1, h2, h3⟩ | ⟨j, e0, y0, h1, h2, h3, h4, h5⟩
  · refine ⟨setBlock w b (.map (es.push ⟨mk x, mv y, clock⟩) (clock + 1)), ?_, ⟨_, _, heap_setBlock_same hb _, by simp; omega, stamped_push S h2, E.push hok h2 _⟩, only_setBlock _ _ _, by simp [setBlock]⟩
    simp [Instr.mapUpdate, run_underlying ht, MapKept.run_getObj_map hb, M.keyed.check w false hl, h1, MapKept.run_setObj_map _ hb, Result.andThen, setBlock]
  · have hj : es[j]? = some e0 := by simpa using h2
    refine ⟨setBlock w b (.map (es.modify j fun e' => { e' with key := mk x, val := mv y }) clock), ?_, ⟨_, _, heap_setBlock_same hb _, by simp; omega,
      stamped_modify S _ _ (fun _ _ => rfl) (fun e' _ he' => by rw [hj] at he'; cases he'; exact h3.symm), E.set M S h2 h3⟩, only_setBlock _ _ _, by simp [setBlock]⟩
    simp [Instr.mapUpdate, run_underlying ht, MapKept.run_getObj_map hb, M.keyed.check w false hl, h1, hj, h3, M.keyed.stays w hl, MapKept.run_setObj_map _ hb, Result.andThen, setBlock]
/-- m[x], with and without ok -/
theorem MapIs.look {w : World} {b n : Nat} {g : κ → Option β} {t e : TypeId} (h : MapIs mk ok mv w b n g) (M : MK P k mk ok) (ht : P.underlying t = some (.map k e)) {z : Value} (hz : (zeroValue e).run P w = .ok z w) (x : κ) (hok : ok x) (c : Bool) :
    (Instr.lookup t (.map (some b)) (mk x) c).run P w = .ok (if c then .tuple #[((g x).map mv).getD z, .bool (g x).isSome] else ((g x).map mv).getD z) w := by
  obtain ⟨es, clock, hb, hs, S, E⟩ := h
  obtain ⟨l, hl⟩ := M.key x hok
  rcases key_or M E w hok with ⟨h1, h2, h3⟩ | ⟨j, e0, y0, h1, h2, h3, h4, h5⟩
  · simp [Instr.lookup, run_underlying ht, MapKept.run_getObj_map hb, M.keyed.check w _ hl, h1, hz, Result.andThen, h3]
  · simp [Instr.lookup, run_underlying ht, MapKept.run_getObj_map hb, M.keyed.check w _ hl, h1, Result.andThen, h5]
/-- range m -/
theorem MapIs.range {w : World} {b n : Nat} {g : κ → Option β} {t e : TypeId} (h : MapIs mk ok mv w b n g) (ht : P.underlying t = some (.map k e)) :
    ∃ w' cnt, (Instr.range t (.map (some b))).run P w = .ok (.pointer (some ⟨w.heap.size, 0, none⟩)) w' ∧ RangeIs mk ok mv w' b w.heap.size n g (fun _ => false) cnt ∧ cnt ≤ n ∧ Below w.heap.size w w' ∧ w'.heap.size = w.heap.size + 1 := by
  have hlt := h.lt
  obtain ⟨es, clock, hb, hs, S, E⟩ := h
  refine ⟨_, es.size, run_range_map w t k e b es clock ht hb, ⟨es, clock, clock, #[], clock, (heap_alloc_old w _ hlt).trans hb, hs, S, E, heap_alloc_new w _, S.1, Nat.le_refl _, Nat.le_refl _, ?_, ?_⟩, hs, below_alloc w _, by simp⟩
  · unfold leftOf; rw [Array.filter_eq_self.2 (fun x _ => by simp)]
  · intro e he x hx; simp
theorem RangeIs.map {w : World} {b r n cnt : Nat} {g : κ → Option β} {seen : κ → Bool} (h : RangeIs mk ok mv w b r n g seen cnt) : MapIs mk ok mv w b n g := by
  obtain ⟨es, clock, since, sn, c0, hb, hs, S, E, _⟩ := h
  exact ⟨es, clock, hb, hs, S, E⟩
theorem RangeIs.ne {w : World} {b r n cnt : Nat} {g : κ → Option β} {seen : κ → Bool} (h : RangeIs mk ok mv w b r n g seen cnt) : r ≠ b := by
  obtain ⟨es, clock, since, sn, c0, hb, _, _, _, hr, _⟩ := h
  rintro rfl
  rw [hb] at hr; cases hr
theorem RangeIs.lt {w : World} {b r n cnt : Nat} {g : κ → Option β} {seen : κ → Bool} (h : RangeIs mk ok mv w b r n g seen cnt) : r < w.heap.size := by
  obtain ⟨es, clock, since, sn, c0, hb, _, _, _, hr, _⟩ := h
  exact lt_of_block hr
theorem RangeIs.of_blocks {w w' : World} {b r n cnt : Nat} {g : κ → Option β} {seen : κ → Bool} (h : RangeIs mk ok mv w b r n g seen cnt) (h1 : w'.heap[b]? = w.heap[b]?) (h2 : w'.heap[r]? = w.heap[r]?) : RangeIs mk ok mv w' b r n g seen cnt := by
  obtain ⟨es, clock, since, sn, c0, hb, hs, S, E, hr, rest⟩ := h
  exact ⟨es, clock, since, sn, c0, h1.trans hb, hs, S, E, h2.trans hr, rest⟩
theorem RangeIs.keep {w w' : World} {b r n cnt : Nat} {g : κ → Option β} {seen : κ → Bool} (h : RangeIs mk ok mv w b r n g seen cnt) (k : Below w.heap.size w w') : RangeIs mk ok mv w' b r n g seen cnt :=
  h.of_blocks (k.block b h.map.lt) (k.block r h.lt)
theorem RangeIs.only {w w' : World} {b r c n cnt : Nat} {g : κ → Option β} {seen : κ → Bool} (h : RangeIs mk ok mv w b r n g seen cnt) (k : Only c w w') (h1 : b ≠ c) (h2 : r ≠ c) : RangeIs mk ok mv w' b r n g seen cnt :=
  h.of_blocks (k.block b h.map.lt (fun e => h1 (by injection e))) (k.block r h.lt (fun e => h2 (by injection e)))
/-- the step: nothing is left, and all keys were seen; or one comes that was not -/
theorem RangeIs.next [DecidableEq κ] {w : World} {b r n cnt : Nat} {g : κ → Option β} {seen : κ → Bool} (h : RangeIs mk ok mv w b r n g seen cnt) (M : MK P k mk ok) (ty : TypeId) :
    ((∀ x, g x ≠ none → seen x = true) ∧ (Instr.next (.pointer (some ⟨r, 0, none⟩)) false ty).run P w = .ok (.tuple #[.bool false]) w) ∨
    ∃ x y w' cnt', ok x ∧ g x = some y ∧ seen x = false ∧ (Instr.next (.pointer (some ⟨r, 0, none⟩)) false ty).run P w = .ok (.tuple #[.bool true, mk x, mv y]) w' ∧
      RangeIs mk ok mv w' b r n g (fun z => seen z || decide (z = x)) cnt' ∧ cnt' < cnt ∧ Only r w w' ∧ w'.heap.size = w.heap.size ∧ (Instr.entry (.pointer (some ⟨r, 0, none⟩))).run P w' = .ok (.tuple #[mk x, mv y]) w' := by
  have hne := h.ne
  obtain ⟨es, clock, since, sn, c0, hb, hs, S, E, hr, hold, hsc, hsk, rfl, hseen⟩ := h
  rcases run_next_at (P := P) w ty r b since c0 sn es clock hr hb hold hsc with ⟨h0, hrun⟩ | ⟨e, he, w1, hal, hrun⟩
  · refine .inl ⟨fun x hx => ?_, hrun⟩
    cases hg : g x with
    | none => exact absurd hg hx
    | some y =>
      obtain ⟨e, he, hk⟩ := E.2 x y hg
      rw [← hseen e he x hk]
      exact all_seen es sn h0 e he
  · obtain ⟨hem, hes⟩ := mem_left he
    obtain ⟨x, y, k1, k2, k3, k4⟩ := E.1 e hem
    have hr1 : w1.heap[r]? = some (.mapIter (some b) since sn c0) := by rcases hal with rfl | rfl <;> exact hr
    have hb1 : w1.heap[b]? = some (.map es clock) := by rcases hal with rfl | rfl <;> exact hb
    have hset := heap_set (o' := .mapIter (some b) since (sn.push e.born) clock) hr1
    have hb' : (setBlock w1 r (.mapIter (some b) since (sn.push e.born) clock)).heap[b]? = some (.map es clock) := (hset.2 b (fun e1 => hne e1.symm)).trans hb1
    have hst := (stamped_iff es clock).1 S
    have hen := run_entry_at (P := P) _ r b since sn es clock e hset.1 hb' hem hst.2.1
    rw [k1, k3] at hrun hen
    refine .inr ⟨x, y, _, _, k2, k4, by rw [← hseen e hem x k1]; exact hes, hrun, ⟨es, clock, since, sn.push e.born, clock, hb', hs, S, E, hset.1, hold, hsk, hsk, rfl, fun e' he' z hz => ?_⟩, left_shrinks es sn e he, ?_, ?_, hen⟩
    · rw [contains_push, hseen e' he' z hz]
      congr 1
      by_cases hzx : z = x
      · subst hzx
        rw [same_entry S he' hem (hz.trans k1.symm)]; simp
      · have : e'.born ≠ e.born := fun hbn => by
          have := born_inj hst.2.1 he' hem hbn
          subst this
          exact hzx (M.inj _ _ (hz.symm.trans k1))
        simp [hzx, this]
    · rcases hal with rfl | rfl
      · exact only_setBlock _ _ _
      · exact (Only.refl r w).drew.trans (only_setBlock _ _ _)
    · rcases hal with rfl | rfl <;> simp [setBlock]
/-- a store at a key that is there, into the map ranged over -/
theorem RangeIs.store [DecidableEq κ] {w : World} {b r n cnt : Nat} {g : κ → Option β} {seen : κ → Bool} {t e : TypeId} (h : RangeIs mk ok mv w b r n g seen cnt) (M : MK P k mk ok) (ht : P.underlying t = some (.map k e)) (x : κ) (y : β) (hok : ok x) (hg : g x ≠ none) :
    ∃ w', (Instr.mapUpdate t (.map (some b)) (mk x) (mv y)).run P w = .ok () w' ∧ RangeIs mk ok mv w' b r n (fun z => if z = x then some y else g z) seen cnt ∧ Only b w w' ∧ w'.heap.size = w.heap.size := by
  have hne := h.ne
  obtain ⟨es, clock, since, sn, c0, hb, hs, S, E, hr, hold, hsc, hsk, rfl, hseen⟩ := h
  obtain ⟨l, hl⟩ := M.key x hok
  rcases key_or M E w hok with ⟨h1, h2, h3⟩ | ⟨j, e0, y0, h1, h2, h3, h4, h5⟩
  · exact absurd h3 hg
  · have hj : es[j]? = some e0 := by simpa using h2
    have E' := E.set (y := y) M S h2 h3
    have hm := mem_modify S h2 (mv y)
    rw [h3] at hm
    have h0 := List.mem_of_getElem? h2
    refine ⟨setBlock w b (.map (es.modify j fun e' => { e' with key := mk x, val := mv y }) clock), ?_, ⟨_, clock, since, sn, c0, heap_setBlock_same hb _, by simp; omega,
      stamped_modify S _ _ (fun _ _ => rfl) (fun e' _ he' => by rw [hj] at he'; cases he'; exact h3.symm), E', (heap_setB _ hne).trans hr, fun e' he' => ?_, hsc, hsk, ?_, fun e' he' z hz => ?_⟩, only_setBlock _ _ _, by simp [setBlock]⟩
    · simp [Instr.mapUpdate, run_underlying ht, MapKept.run_getObj_map hb, M.keyed.check w false hl, h1, hj, h3, M.keyed.stays w hl, MapKept.run_setObj_map _ hb, Result.andThen, setBlock]
    · rcases (hm e').1 he' with rfl | ⟨he', _⟩
      · exact hold e0 h0
      · exact hold e' he'
    · have hlist : (es.modify j (fun e' => { e' with key := mk x, val := mv y })).toList = es.toList.set j { e0 with key := mk x, val := mv y } := by
        rw [Array.toList_modify, modify_eq_set _ _ _ _ h2]
      have ln : ∀ a : Array MapEntry, (leftOf a sn).size = a.toList.countP fun e => !sn.contains e.born := fun a => by
        unfold leftOf
        rw [← Array.length_toList, Array.toList_filter, ← List.countP_eq_length_filter]
      rw [ln, ln, hlist]
      have hjl : j < es.toList.length := (List.getElem?_eq_some_iff.1 h2).1
      have he0 : es.toList[j] = e0 := by rw [List.getElem?_eq_getElem hjl] at h2; injection h2
      rw [List.countP_set hjl, he0]
      cases hc : sn.contains e0.born with
      | true =>
        simp only [Bool.not_true, Bool.false_eq_true, if_false]; omega
      | false =>
        have : 0 < es.toList.countP (fun e => !sn.contains e.born) := List.countP_pos_iff.2 ⟨e0, h0, by rw [hc]; rfl⟩
        simp only [Bool.not_false, if_true]; omega
    · rcases (hm e').1 he' with rfl | ⟨he', _⟩
      · exact hseen e0 h0 z (h3.trans hz)
      · exact hseen e' he' z hz
end
section
variable {κ β : Type} {mk : κ → Value} {ok : κ → Prop} {mv : β → Value} {P : Program} {k : TypeId}
variable (w : World) {ops : Array Oper} {rest : List Oper} {o : Oper} {a : Act} {Q : Exit → Act → World → Prop}
/-- m[x] = y, at the operation -/
theorem wpList_map_store [DecidableEq κ] (hg : o.guard = none) (m x v : Operand) (t e : TypeId) (hop : o.op = Op.mapUpdate t m x v) (M : MK P k mk ok) (ht : P.underlying t = some (.map k e)) (b n : Nat) (g : κ → Option β)
    (h : MapIs mk ok mv w b n g) (hm : a.eval m = .map (some b)) (key : κ) (y : β) (hok : ok key) (hx : a.eval x = mk key) (hv : a.eval v = mv y)
    (hK : ∀ w', MapIs mk ok mv w' b (n + 1) (fun z => if z = key then some y else g z) → Only b w w' → w'.heap.size = w.heap.size → wpList P ops Q rest (a.put o.dst undef) w') :
    wpList P ops Q (o :: rest) a w := by
  refine wpList_plain hg fun K' hK' => ?_
  obtain ⟨w', hrun, r1, r2, r3⟩ := h.store M ht key y hok
  unfold Oper.wp
  simp [execOp, hop, hm, hx, hv, hrun, Result.andThen]
  exact hK' _ _ (hK w' r1 r2 r3)
theorem wpList_range_store [DecidableEq κ] (hg : o.guard = none) (m x v : Operand) (t e : TypeId) (hop : o.op = Op.mapUpdate t m x v) (M : MK P k mk ok) (ht : P.underlying t = some (.map k e)) (b r n cnt : Nat) (g : κ → Option β) (seen : κ → Bool)
    (h : RangeIs mk ok mv w b r n g seen cnt) (hm : a.eval m = .map (some b)) (key : κ) (y : β) (hok : ok key) (hgk : g key ≠ none) (hx : a.eval x = mk key) (hv : a.eval v = mv y)
    (hK : ∀ w', RangeIs mk ok mv w' b r n (fun z => if z = key then some y else g z) seen cnt → Only b w w' → w'.heap.size = w.heap.size → wpList P ops Q rest (a.put o.dst undef) w') :
    wpList P ops Q (o :: rest) a w := by
  refine wpList_plain hg fun K' hK' => ?_
  obtain ⟨w', hrun, r1, r2, r3⟩ := h.store M ht key y hok hgk
  unfold Oper.wp
  simp [execOp, hop, hm, hx, hv, hrun, Result.andThen]
  exact hK' _ _ (hK w' r1 r2 r3)
/-- m[x], v, ok := m[x] -/
theorem wpList_map_look (hg : o.guard = none) (m x : Operand) (t e : TypeId) (c : Bool) (hop : o.op = Op.lookup t m x c) (M : MK P k mk ok) (ht : P.underlying t = some (.map k e)) (z : Value) (hz : (zeroValue e).run P w = .ok z w) (b n : Nat) (g : κ → Option β)
    (h : MapIs mk ok mv w b n g) (hm : a.eval m = .map (some b)) (key : κ) (hok : ok key) (hx : a.eval x = mk key)
    (hK : wpList P ops Q rest (a.put o.dst (if c then .tuple #[((g key).map mv).getD z, .bool (g key).isSome] else ((g key).map mv).getD z)) w) :
    wpList P ops Q (o :: rest) a w := by
  refine wpList_plain hg fun K' hK' => ?_
  have hrun := h.look M ht hz key hok c
  generalize (if c then Value.tuple #[((g key).map mv).getD z, .bool (g key).isSome] else ((g key).map mv).getD z) = v at hrun hK
  unfold Oper.wp
  simp [execOp, hop, hm, hx, hrun, Result.andThen]
  exact hK' _ _ hK
theorem wpList_map_range (hg : o.guard = none) (m : Operand) (t e : TypeId) (hop : o.op = Op.range t m) (ht : P.underlying t = some (.map k e)) (b n : Nat) (g : κ → Option β) (h : MapIs mk ok mv w b n g) (hm : a.eval m = .map (some b))
    (hK : ∀ w' cnt, RangeIs mk ok mv w' b w.heap.size n g (fun _ => false) cnt → cnt ≤ n → Below w.heap.size w w' → w'.heap.size = w.heap.size + 1 → wpList P ops Q rest (a.put o.dst (.pointer (some ⟨w.heap.size, 0, none⟩))) w') :
    wpList P ops Q (o :: rest) a w := by
  refine wpList_plain hg fun K' hK' => ?_
  obtain ⟨w', cnt, hrun, r1, r2, r3, r4⟩ := h.range ht
  unfold Oper.wp
  simp [execOp, hop, hm, hrun, Result.andThen]
  exact hK' _ _ (hK w' cnt r1 r2 r3 r4)
theorem wpList_map_next [DecidableEq κ] (hg : o.guard = none) (it : Operand) (hop : o.op = Op.next it false) (M : MK P k mk ok) (b r n cnt : Nat) (g : κ → Option β) (seen : κ → Bool) (hit : a.eval it = .pointer (some ⟨r, 0, none⟩)) (h : RangeIs mk ok mv w b r n g seen cnt)
    (hDone : (∀ x, g x ≠ none → seen x = true) → wpList P ops Q rest (a.put o.dst (.tuple #[.bool false])) w)
    (hMore : ∀ (x : κ) (y : β) (w' : World) (cnt' : Nat), ok x → g x = some y → seen x = false → RangeIs mk ok mv w' b r n g (fun z => seen z || decide (z = x)) cnt' → cnt' < cnt → Only r w w' → w'.heap.size = w.heap.size →
      (Instr.entry (.pointer (some ⟨r, 0, none⟩))).run P w' = .ok (.tuple #[mk x, mv y]) w' → wpList P ops Q rest (a.put o.dst (.tuple #[.bool true, mk x, mv y])) w') :
    wpList P ops Q (o :: rest) a w := by
  refine wpList_plain hg fun K' hK' => ?_
  unfold Oper.wp
  rcases h.next M o.type with ⟨hl, hrun⟩ | ⟨x, y, w', cnt', h1, h2, h3, hrun, h4, h5, h6, h7, h8⟩
  · simp [execOp, hop, hit, hrun, Result.andThen]
    exact hK' _ _ (hDone hl)
  · simp [execOp, hop, hit, hrun, Result.andThen]
    exact hK' _ _ (hMore x y w' cnt' h1 h2 h3 h4 h5 h6 h7 h8)
/-- m[x] at a key that is there, at one that is not -/
theorem wpList_map_look_some (hg : o.guard = none) (m x : Operand) (t e : TypeId) (c : Bool) (hop : o.op = Op.lookup t m x c) (M : MK P k mk ok) (ht : P.underlying t = some (.map k e)) (z : Value) (hz : (zeroValue e).run P w = .ok z w) (b n : Nat) (g : κ → Option β)
    (h : MapIs mk ok mv w b n g) (hm : a.eval m = .map (some b)) (key : κ) (hok : ok key) (hx : a.eval x = mk key) (y : β) (hy : g key = some y) (v : Value) (hv : mv y = v)
    (hK : wpList P ops Q rest (a.put o.dst (if c then .tuple #[v, .bool true] else v)) w) : wpList P ops Q (o :: rest) a w := by
  refine wpList_map_look w hg m x t e c hop M ht z hz b n g h hm key hok hx ?_
  rw [hy]
  simpa [hv] using hK
theorem wpList_map_look_none (hg : o.guard = none) (m x : Operand) (t e : TypeId) (c : Bool) (hop : o.op = Op.lookup t m x c) (M : MK P k mk ok) (ht : P.underlying t = some (.map k e)) (z : Value) (hz : (zeroValue e).run P w = .ok z w) (b n : Nat) (g : κ → Option β)
    (h : MapIs mk ok mv w b n g) (hm : a.eval m = .map (some b)) (key : κ) (hok : ok key) (hx : a.eval x = mk key) (hy : g key = none)
    (hK : wpList P ops Q rest (a.put o.dst (if c then .tuple #[z, .bool false] else z)) w) : wpList P ops Q (o :: rest) a w := by
  refine wpList_map_look w hg m x t e c hop M ht z hz b n g h hm key hok hx ?_
  rw [hy]
  simpa using hK
end
/-- how many entries a range has yet to come to -/
def rangeLeft (w : World) (b r : Nat) : Nat :=
  match w.heap[b]?, w.heap[r]? with
  | some (.map es _), some (.mapIter _ _ sn _) => (leftOf es sn).size
  | _, _ => 0
theorem RangeIs.left {κ β : Type} {mk : κ → Value} {ok : κ → Prop} {mv : β → Value} {w : World} {b r n cnt : Nat} {g : κ → Option β} {seen : κ → Bool} (h : RangeIs mk ok mv w b r n g seen cnt) : rangeLeft w b r = cnt := by
  obtain ⟨es, clock, since, sn, c0, hb, hs, S, E, hr, h1, h2, h3, h4, h5⟩ := h
  unfold rangeLeft
  rw [hb, hr, h4]
end Go.Proofs.Ytappgelpigoknaa
