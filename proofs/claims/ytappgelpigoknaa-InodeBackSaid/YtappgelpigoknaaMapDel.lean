/- Maps as functions: delete, also from the map ranged over. -/
import Derived.Test.YtappgelpigoknaaMaps
namespace Go.Proofs.Ytappgelpigoknaa
open Go.RowKit Go.MapKept Go.WideShapes Go.ChangeMaps
open Go.Maps (Keyed)
section
variable {κ β : Type} {mk : κ → Value} {ok : κ → Prop} {mv : β → Value}
theorem erase_list {es : Array MapEntry} {j : Nat} {e0 : MapEntry} (h2 : es.toList[j]? = some e0) : (es.eraseIdxIfInBounds j).toList = es.toList.eraseIdx j := by
  have hjl : j < es.toList.length := (List.getElem?_eq_some_iff.1 h2).1
  have hjs : j < es.size := by simpa using hjl
  unfold Array.eraseIdxIfInBounds
  rw [dif_pos hjs]
  simp
/-- who stands in a list of which one entry was struck -/
theorem mem_erase {es : Array MapEntry} {clock : Nat} (S : Stamped es clock) {j : Nat} {e0 : MapEntry} (h2 : es.toList[j]? = some e0) (e : MapEntry) :
    e ∈ (es.eraseIdxIfInBounds j).toList ↔ e ∈ es.toList ∧ e.key ≠ e0.key := by
  rw [erase_list h2, List.mem_eraseIdx_iff_getElem?]
  constructor
  · rintro ⟨i, hi, he⟩
    have hm := List.mem_of_getElem? he
    refine ⟨hm, fun hk => hi ?_⟩
    have h4 := same_entry S hm (List.mem_of_getElem? h2) hk
    subst h4
    have hnd := ((stamped_iff es clock).1 S).2.1
    obtain ⟨hil, hie⟩ := List.getElem?_eq_some_iff.1 he
    obtain ⟨hjl, hje⟩ := List.getElem?_eq_some_iff.1 h2
    have h5 : (es.toList.map (·.born))[i]'(by simpa using hil) = (es.toList.map (·.born))[j]'(by simpa using hjl) := by
      rw [List.getElem_map, List.getElem_map, hie, hje]
    exact (List.getElem_inj hnd).1 h5
  · rintro ⟨hm, hk⟩
    obtain ⟨i, hi⟩ := List.getElem?_of_mem hm
    refine ⟨i, ?_, hi⟩
    rintro rfl
    rw [hi] at h2
    injection h2 with h2
    exact hk (by rw [h2])
variable {P : Program} {k : TypeId}
theorem Ents.erase [DecidableEq κ] {es : Array MapEntry} {clock : Nat} {g : κ → Option β} (M : MK P k mk ok) (S : Stamped es clock) (h : Ents mk ok mv es g) {x : κ} {j : Nat} {e0 : MapEntry} (h2 : es.toList[j]? = some e0) (h3 : e0.key = mk x) :
    Ents mk ok mv (es.eraseIdxIfInBounds j) (fun z => if z = x then none else g z) := by
  have hm := mem_erase S h2
  rw [h3] at hm
  refine ⟨fun e he => ?_, fun z v hz => ?_⟩
  · obtain ⟨he, hne⟩ := (hm e).1 he
    obtain ⟨x', y', k1, k2, k3, k4⟩ := h.1 e he
    refine ⟨x', y', k1, k2, k3, ?_⟩
    show (if x' = x then _ else _) = _
    rw [if_neg (fun e' => hne (by rw [k1, e'])), k4]
  · replace hz : (if z = x then none else g z) = some v := hz
    split at hz
    · cases hz
    · rename_i hne
      obtain ⟨e, he, hk⟩ := h.2 z v hz
      exact ⟨e, (hm e).2 ⟨he, fun e' => hne (M.inj _ _ (hk.symm.trans e'))⟩, hk⟩
theorem erase_none [DecidableEq κ] {g : κ → Option β} {x : κ} (h : g x = none) : (fun z => if z = x then none else g z) = g := by
  funext z
  split
  · rename_i e; rw [e, h]
  · rfl
/-- delete(m, x) -/
theorem MapIs.erase [DecidableEq κ] {w : World} {b n : Nat} {g : κ → Option β} {t e ty : TypeId} (h : MapIs mk ok mv w b n g) (M : MK P k mk ok) (ht : P.underlying t = some (.map k e)) (x : κ) (hok : ok x) :
    ∃ w', (Builtin.delete_ #[t, k] ty #[.map (some b), mk x]).run P w = .ok (.tuple #[]) w' ∧ MapIs mk ok mv w' b n (fun z => if z = x then none else g z) ∧ Only b w w' ∧ w'.heap.size = w.heap.size := by
  obtain ⟨es, clock, hb, hs, S, E⟩ := h
  obtain ⟨l, hl⟩ := M.key x hok
  rcases key_or M E w hok with ⟨h1, h2, h3⟩ | ⟨j, e0, y0, h1, h2, h3, h4, h5⟩
  · refine ⟨setBlock w b (.map es clock), ?_, ⟨es, clock, heap_setBlock_same hb _, hs, S, by rw [erase_none h3]; exact E⟩, only_setBlock _ _ _, by simp [setBlock]⟩
    simp [Builtin.delete_, run_underlying ht, MapKept.run_getObj_map hb, M.keyed.check w _ hl, h1, MapKept.run_setObj_map _ hb, Result.andThen, setBlock]
  · refine ⟨setBlock w b (.map (es.eraseIdxIfInBounds j) clock), ?_, ⟨_, clock, heap_setBlock_same hb _, Nat.le_trans (MapFrom.size_erase es j) hs, stamped_erase S j, E.erase M S h2 h3⟩, only_setBlock _ _ _, by simp [setBlock]⟩
    simp [Builtin.delete_, run_underlying ht, MapKept.run_getObj_map hb, M.keyed.check w _ hl, h1, MapKept.run_setObj_map _ hb, Result.andThen, setBlock]
/-- .. from the map ranged over -/
theorem RangeIs.erase [DecidableEq κ] {w : World} {b r n cnt : Nat} {g : κ → Option β} {seen : κ → Bool} {t e ty : TypeId} (h : RangeIs mk ok mv w b r n g seen cnt) (M : MK P k mk ok) (ht : P.underlying t = some (.map k e)) (x : κ) (hok : ok x) :
    ∃ w' cnt', (Builtin.delete_ #[t, k] ty #[.map (some b), mk x]).run P w = .ok (.tuple #[]) w' ∧ RangeIs mk ok mv w' b r n (fun z => if z = x then none else g z) seen cnt' ∧ cnt' ≤ cnt ∧ Only b w w' ∧ w'.heap.size = w.heap.size := by
  have hne := h.ne
  obtain ⟨es, clock, since, sn, c0, hb, hs, S, E, hr, hold, hsc, hsk, rfl, hseen⟩ := h
  obtain ⟨l, hl⟩ := M.key x hok
  rcases key_or M E w hok with ⟨h1, h2, h3⟩ | ⟨j, e0, y0, h1, h2, h3, h4, h5⟩
  · refine ⟨setBlock w b (.map es clock), _, ?_, ⟨es, clock, since, sn, c0, heap_setBlock_same hb _, hs, S, by rw [erase_none h3]; exact E, (heap_setB _ hne).trans hr, hold, hsc, hsk, rfl, hseen⟩, Nat.le_refl _, only_setBlock _ _ _, by simp [setBlock]⟩
    simp [Builtin.delete_, run_underlying ht, MapKept.run_getObj_map hb, M.keyed.check w _ hl, h1, MapKept.run_setObj_map _ hb, Result.andThen, setBlock]
  · have hm := mem_erase S h2
    refine ⟨setBlock w b (.map (es.eraseIdxIfInBounds j) clock), _, ?_, ⟨_, clock, since, sn, c0, heap_setBlock_same hb _, Nat.le_trans (MapFrom.size_erase es j) hs, stamped_erase S j, E.erase M S h2 h3,
      (heap_setB _ hne).trans hr, fun e' he' => hold e' ((hm e').1 he').1, hsc, hsk, rfl, fun e' he' => hseen e' ((hm e').1 he').1⟩, ?_, only_setBlock _ _ _, by simp [setBlock]⟩
    · simp [Builtin.delete_, run_underlying ht, MapKept.run_getObj_map hb, M.keyed.check w _ hl, h1, MapKept.run_setObj_map _ hb, Result.andThen, setBlock]
    · have ln : ∀ a : Array MapEntry, (leftOf a sn).size = a.toList.countP fun e => !sn.contains e.born := fun a => by
        unfold leftOf
        rw [← Array.length_toList, Array.toList_filter, ← List.countP_eq_length_filter]
      rw [ln, ln, erase_list h2]
      exact (List.eraseIdx_sublist _ _).countP_le
end
section
variable {κ β : Type} {mk : κ → Value} {ok : κ → Prop} {mv : β → Value} {P : Program} {k : TypeId}
variable (w : World) {ops : Array Oper} {rest : List Oper} {o : Oper} {a : Act} {Q : Exit → Act → World → Prop}
/-- delete(m, x), at the operation -/
theorem wpList_map_delete [DecidableEq κ] (hg : o.guard = none) (m x : Operand) (t e : TypeId) (hop : o.op = Op.call { callee := Callee.builtin Builtin.delete, args := #[m, x], argTypes := #[t, k] }) (M : MK P k mk ok) (ht : P.underlying t = some (.map k e)) (b n : Nat) (g : κ → Option β)
    (h : MapIs mk ok mv w b n g) (hm : a.eval m = .map (some b)) (key : κ) (hok : ok key) (hx : a.eval x = mk key)
    (hK : ∀ w', MapIs mk ok mv w' b n (fun z => if z = key then none else g z) → Only b w w' → w'.heap.size = w.heap.size → wpList P ops Q rest (a.put o.dst (.tuple #[])) w') :
    wpList P ops Q (o :: rest) a w := by
  refine wpList_plain hg fun K' hK' => ?_
  obtain ⟨w', hrun, r1, r2, r3⟩ := h.erase (ty := o.type) M ht key hok
  unfold Oper.wp
  simp [execOp, hop, resolve, invoke, builtin, hm, hx, hrun, Result.andThen]
  exact hK' _ _ (hK w' r1 r2 r3)
theorem wpList_range_delete [DecidableEq κ] (hg : o.guard = none) (m x : Operand) (t e : TypeId) (hop : o.op = Op.call { callee := Callee.builtin Builtin.delete, args := #[m, x], argTypes := #[t, k] }) (M : MK P k mk ok) (ht : P.underlying t = some (.map k e)) (b r n cnt : Nat) (g : κ → Option β) (seen : κ → Bool)
    (h : RangeIs mk ok mv w b r n g seen cnt) (hm : a.eval m = .map (some b)) (key : κ) (hok : ok key) (hx : a.eval x = mk key)
    (hK : ∀ w' cnt', RangeIs mk ok mv w' b r n (fun z => if z = key then none else g z) seen cnt' → cnt' ≤ cnt → Only b w w' → w'.heap.size = w.heap.size → wpList P ops Q rest (a.put o.dst (.tuple #[])) w') :
    wpList P ops Q (o :: rest) a w := by
  refine wpList_plain hg fun K' hK' => ?_
  obtain ⟨w', cnt', hrun, r1, r2, r3, r4⟩ := h.erase (ty := o.type) M ht key hok
  unfold Oper.wp
  simp [execOp, hop, resolve, invoke, builtin, hm, hx, hrun, Result.andThen]
  exact hK' _ _ (hK w' cnt' r1 r2 r3 r4)
end
end Go.Proofs.Ytappgelpigoknaa
