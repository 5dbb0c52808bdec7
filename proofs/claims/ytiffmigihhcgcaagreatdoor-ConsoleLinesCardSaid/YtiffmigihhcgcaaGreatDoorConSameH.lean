/- Two steps alike. -/
import Derived.Test.YtiffmigihhcgcaaGreatDoorConRRead
import Derived.Test.YtiffmigihhcgcaaGreatDoorOpKeep
import Derived.Test.YtiffmigihhcgcaaGreatDoorHeld
import Derived.Test.YtiffmigihhcgcaaGreatDoorConRParse
namespace Go.Proofs.YtiffmigihhcgcaaGreatDoor.ConW
set_option maxRecDepth 100000
set_option linter.constructorNameAsVariable false
set_option linter.unusedVariables false
open Go.RowKit ConP OpP OpW
set_option maxHeartbeats 3200000 in
theorem proj_any (za zb : Int) (pa pb : Option Addr) (pna pnb pca pcb : Nat) (hz : pna = pnb → pna = 0) (w : World) :
    Calls Tryz.prog 31 #[.agg #[.int .i64 za, .slice pa pna pca], .agg #[.int .i64 zb, .slice pb pnb pcb]] w fun e w' => e = .returned (.bool (za == zb && pna == pnb)) ∧ Below w.heap.size w w' := by
  have HB := Lib.hid (two_new w (.cells #[.int .i64 za, .slice pa pna pca] 29) (.cells #[.int .i64 zb, .slice pb pnb pcb] 29))
  by_cases h : za = zb
  · subst h
    by_cases h2 : pna = pnb
    · subst h2
      have h0 := hz rfl
      subst h0
      go_enter Tryz.func31, Tryz.ntmps31
      go_wp2_with fail
      go_loopw [5] (fun c wr => c = .int .i64 0 ∧ ((w.alloc (.cells #[.int .i64 za, .slice pa 0 pca] 29)).alloc (.cells #[.int .i64 za, .slice pb 0 pcb] 29)) = wr) (fun _ _ => 0)
      case atStart => exact ⟨rfl, rfl⟩
      case round =>
        obtain ⟨rfl, rfl⟩ := hrel
        go_wp2_with fail
        go_ret
        exact ⟨by simp, HB.out⟩
    · have hn : ((pna : Int) == (pnb : Int)) = false := by rw [beq_eq_false_iff_ne]; omega
      have hn2 : (pna == pnb) = false := by rw [beq_eq_false_iff_ne]; exact h2
      have HN := Lib.hid hn2
      clear h2 hz hn2
      go_enter Tryz.func31, Tryz.ntmps31
      go_wp2_with fail
      go_ret
      exact ⟨by rw [HN.out]; simp, HB.out⟩
  · have hn : (za == zb) = false := by rw [beq_eq_false_iff_ne]; exact h
    clear h hz
    go_enter Tryz.func31, Tryz.ntmps31
    go_wp2_with fail
    go_ret
    exact ⟨by rw [hn]; simp, HB.out⟩
theorem proj_is (za zb : Int) (v : Bool) (pa pb : Option Addr) (pna pnb pca pcb : Nat) (hv : (za == zb && pna == pnb) = v) (hz : pna = pnb → pna = 0) (w : World) :
    Calls Tryz.prog 31 #[.agg #[.int .i64 za, .slice pa pna pca], .agg #[.int .i64 zb, .slice pb pnb pcb]] w fun e w' => e = .returned (.bool v) ∧ Below w.heap.size w w' := by
  rw [← hv]; exact proj_any za zb pa pb pna pnb pca pcb hz w
theorem bytes_ne {a b : ByteArray} (h : a ≠ b) : (a.toList == b.toList) = false := by
  rw [Lib.toList_data, Lib.toList_data, beq_eq_false_iff_ne]
  intro e
  apply h
  apply ByteArray.ext
  exact Array.toList_inj.1 e
theorem cellsCm_one (a : Cal) {m : Value} {oa : Option Addr} {n c : Nat} (h : m = .slice oa n c) : (cellsC a m).all (·.oneCell') = true := by
  subst h; simp [cellsC, Value.oneCell']
theorem sbox_part {w : World} {b : Nat} {s : Stp} {m c : Value} {z : Int} (h : SBox w b s m z c) : ∀ (j : Nat) v, ((cellsC s.a m).toList)[j]? = some v → w.cell? ((⟨b, 4, none⟩ : Addr).add j) = some v := by
  intro j v hv
  have hj : j < 18 := (List.getElem?_eq_some_iff.1 hv).1
  have e : (⟨b, 4, none⟩ : Addr).add j = ⟨b, 4 + j, none⟩ := by
    unfold Addr.add
    by_cases h : j = 0
    · rw [if_pos h, h]
    · rw [if_neg h]
  rw [e]
  refine h.cell (4 + j) v ?_
  rw [← hv]
  have : ∀ i < 18, (cellsS s m z c)[4 + i]? = ((cellsC s.a m).toList)[i]? := by
    intro i hi
    have hc : i = 0 ∨ i = 1 ∨ i = 2 ∨ i = 3 ∨ i = 4 ∨ i = 5 ∨ i = 6 ∨ i = 7 ∨ i = 8 ∨ i = 9 ∨ i = 10 ∨ i = 11 ∨ i = 12 ∨ i = 13 ∨ i = 14 ∨ i = 15 ∨ i = 16 ∨ i = 17 := by omega
    rcases hc with rfl | rfl | rfl | rfl | rfl | rfl | rfl | rfl | rfl | rfl | rfl | rfl | rfl | rfl | rfl | rfl | rfl | rfl <;> rfl
  exact this j hj
/-- a step's cells that are looked at -/
def SFacts (W : World) (b : Nat) (s : Stp) (z : Int) (pa : Option Addr) (pn pc : Nat) : Prop :=
  W.cell? ⟨b, 0, none⟩ = some (.int .i64 s.k) ∧ W.cell? ⟨b, 1, none⟩ = some (.int .i64 s.c) ∧ W.cell? ⟨b, 2, none⟩ = some (.int .i64 s.n) ∧ W.cell? ⟨b, 3, none⟩ = some (.int .i64 s.f) ∧ W.cell? ⟨b, 22, none⟩ = some (.int .i64 z) ∧ W.cell? ⟨b, 23, none⟩ = some (.slice pa pn pc)
theorem sfacts {W : World} {b : Nat} {s : Stp} {m : Value} {z : Int} {pa : Option Addr} {pn pc : Nat} (h : SBox W b s m z (.slice pa pn pc)) : SFacts W b s z pa pn pc :=
  ⟨h.cell 0 _ rfl, h.cell 1 _ rfl, h.cell 2 _ rfl, h.cell 3 _ rfl, h.cell 22 _ rfl, h.cell 23 _ rfl⟩
def CFacts (W : World) (b : Nat) (a : Cal) (m : Value) : Prop :=
  W.cell? ⟨b, 0, none⟩ = some (.int .i64 a.k) ∧ W.cell? ⟨b, 1, none⟩ = some (.int .i64 a.o.cl) ∧ W.cell? ⟨b, 2, none⟩ = some (.int .i64 a.o.sq) ∧ W.cell? ⟨b, 3, none⟩ = some (.int .i64 a.o.k) ∧ W.cell? ⟨b, 4, none⟩ = some (.string a.o.p) ∧ W.cell? ⟨b, 5, none⟩ = some (.string a.o.t) ∧ W.cell? ⟨b, 6, none⟩ = some (.int .i64 a.o.sz) ∧ W.cell? ⟨b, 7, none⟩ = some (.int .i64 a.o.h) ∧ W.cell? ⟨b, 8, none⟩ = some (.int .i64 a.o.o) ∧ W.cell? ⟨b, 9, none⟩ = some (.string a.o.d) ∧ W.cell? ⟨b, 10, none⟩ = some (.int .i64 a.o.tk) ∧ W.cell? ⟨b, 11, none⟩ = some (.int .i64 a.o.i) ∧ W.cell? ⟨b, 12, none⟩ = some (m) ∧ W.cell? ⟨b, 13, none⟩ = some (.string a.p) ∧ W.cell? ⟨b, 14, none⟩ = some (.int .i64 a.h) ∧ W.cell? ⟨b, 15, none⟩ = some (.int .i64 a.f) ∧ W.cell? ⟨b, 16, none⟩ = some (.int .i64 a.s) ∧ W.cell? ⟨b, 17, none⟩ = some (.string a.d)
theorem cfacts {W : World} {b : Nat} {a : Cal} {m : Value} (h : W.heap[b]? = some (.cells (cellsC a m) 26 (0, 0))) : CFacts W b a m := by
  have e : ∀ i v, (cellsC a m)[i]? = some v → W.cell? ⟨b, i, none⟩ = some v := fun i v hv => by rw [Lib.cell_of_heap h]; exact hv
  exact ⟨e 0 _ rfl, e 1 _ rfl, e 2 _ rfl, e 3 _ rfl, e 4 _ rfl, e 5 _ rfl, e 6 _ rfl, e 7 _ rfl, e 8 _ rfl, e 9 _ rfl, e 10 _ rfl, e 11 _ rfl, e 12 _ rfl, e 13 _ rfl, e 14 _ rfl, e 15 _ rfl, e 16 _ rfl, e 17 _ rfl⟩
theorem run_load_part {o : Oper} {a : Act} {w : World} (ty : TypeId) (x : Operand) (ho : o.op = .load ty x) (p : Addr) (hx : a.eval x = .pointer (some p)) (cs : Array Value) {d : TypeDesc} (hc : ∀ (j : Nat) v, cs.toList[j]? = some v → w.cell? (p.add j) = some v)
    (hu : Tryz.prog.underlying ty = some d) (hd : (match d with | .struct _ | .array _ _ => true | _ => false) = true) (hi : (Tryz.prog.info? ty).map (·.size) = some cs.size) :
    (execOp a.eval o).run Tryz.prog w = .ok (.value (.agg cs)) w := by
  have := run_loadVar_part w p ty cs.toList d hc hu hd (by simpa using hi)
  unfold execOp
  simp only [ho, hx, Instr.loadAt, Instr.sureAddr, Sem.run_bind, Sem.run_pure, Result.andThen_ok, this]
theorem put_comm (a : Act) (d e : Nat) (u v : Value) (h : d ≠ e) : (a.put (some d) u).put (some e) v = (a.put (some e) v).put (some d) u := by
  simp only [Act.put]
  rw [Array.setIfInBounds_comm _ _ h]
theorem allocsL {P : Program} {ops : Array Oper} {Q : Exit → Act → World → Prop} {md : Region.Mode} {S : World → Prop} {last : Nat} (i j di dj : Nat) {oi oj : Oper} {n : Nat} {listed : Array Bool} {a : Act} {w : World} (hij : i ≠ j) (hdd : di ≠ dj)
    (hr : Region.ready md ops listed = [i, j]) (hri : Region.ready md ops (listed.setIfInBounds i true) = [j]) (hrj : Region.ready md ops (listed.setIfInBounds j true) = [i])
    (hi : ops[i]? = some oi) (hj : ops[j]? = some oj) (hg : oi.guard = none) (hg' : oj.guard = none) (hdi : oi.dst = some di) (hdj : oj.dst = some dj) {Ti Tj : TypeId} {zi zj : Array Value}
    (hvi : ∀ (a' : Act) (w' : World), (execOp a'.eval oi).run P w' = .ok (.value (.pointer (some ⟨w'.heap.size, 0, none⟩))) (w'.alloc (.cells zi Ti)))
    (hvj : ∀ (a' : Act) (w' : World), (execOp a'.eval oj).run P w' = .ok (.value (.pointer (some ⟨w'.heap.size, 0, none⟩))) (w'.alloc (.cells zj Tj)))
    (hil : i ≠ last) (hjl : j ≠ last) (hS : ∀ W, Below w.heap.size w W → S W)
    (h : ∀ (g g' : Nat) (W : World), g ≠ g' → w.heap.size ≤ g → w.heap.size ≤ g' → W.heap[g]? = some (.cells zi Ti (0, 0)) → W.heap[g']? = some (.cells zj Tj (0, 0)) → Below w.heap.size w W →
      wpAnyL P md ops Q S last n ((listed.setIfInBounds i true).setIfInBounds j true) ((a.put (some di) (.pointer (some ⟨g, 0, none⟩))).put (some dj) (.pointer (some ⟨g', 0, none⟩))) W) : wpAnyL P md ops Q S last (n + 2) listed a w := by
  refine twoL i j hr hi hj hg hg' ?_ ?_
  · refine wp_runs (some di) hdi (hvi a w) ⟨fun _ => hS _ (below_alloc _ _), ?_⟩
    refine oneL j hri hj hg' ?_
    refine wp_runs (some dj) hdj (hvj _ _) ⟨fun _ => hS _ (two_new _ _ _), ?_⟩
    exact h _ _ _ (by simp) (Nat.le_refl _) (by simp) ((heap_alloc_old _ _ (by simp)).trans (heap_alloc_new _ _)) (heap_alloc_new _ _) (two_new _ _ _)
  · refine wp_runs (some dj) hdj (hvj a w) ⟨fun _ => hS _ (below_alloc _ _), ?_⟩
    refine oneL i hrj hi hg ?_
    refine wp_runs (some di) hdi (hvi _ _) ⟨fun _ => hS _ (two_new _ _ _), ?_⟩
    rw [put_comm _ _ _ _ _ (fun e => hdd e.symm), Array.setIfInBounds_comm _ _ (fun e => hij e.symm)]
    exact h _ _ _ (by simp) (by simp) (Nat.le_refl _) (heap_alloc_new _ _) ((heap_alloc_old _ _ (by simp)).trans (heap_alloc_new _ _)) (two_new _ _ _)
theorem same_yes {a b : Stp} {za zb : Int} {pna pnb : Nat} (h0 : a.k = b.k) (h1 : a.c = b.c) (h2 : a.n = b.n) (h3 : a.f = b.f) (g0 : a.a.k = b.a.k) (g1 : sameB a.a.o b.a.o = true) (g2 : a.a.p = b.a.p) (g3 : a.a.h = b.a.h) (g4 : a.a.f = b.a.f) (g5 : a.a.s = b.a.s) (g6 : a.a.d = b.a.d) (z : za = zb) (p : pna = pnb) : (sameS a b && za == zb && pna == pnb) = true := by
  have e : a = b := by
    rw [sameB_iff] at g1
    obtain ⟨k, c, n, f, ⟨k2, o2, p2, q2, f2, s2, d2⟩⟩ := a
    obtain ⟨k', c', n', f', ⟨k2', o2', p2', q2', f2', s2', d2'⟩⟩ := b
    simp only at h0 h1 h2 h3 g0 g1 g2 g3 g4 g5 g6
    subst h0; subst h1; subst h2; subst h3; subst g0; subst g1; subst g2; subst g3; subst g4; subst g5; subst g6
    rfl
  rw [(sameS_iff a b).2 e, z, p]; simp
theorem same_no1 {a b : Stp} {za zb : Int} {pna pnb : Nat} (h : a ≠ b) : (sameS a b && za == zb && pna == pnb) = false := by
  cases hs : sameS a b with
  | true => exact absurd ((sameS_iff a b).1 hs) h
  | false => rfl
theorem same_no2 {a b : Stp} {za zb : Int} {pna pnb : Nat} (h : ¬ (za = zb ∧ pna = pnb)) : (sameS a b && za == zb && pna == pnb) = false := by
  cases hs : (sameS a b && za == zb && pna == pnb) with
  | false => rfl
  | true =>
    simp only [Bool.and_eq_true, beq_iff_eq] at hs
    exact absurd ⟨hs.1.2, hs.2⟩ h
end Go.Proofs.YtiffmigihhcgcaaGreatDoor.ConW
