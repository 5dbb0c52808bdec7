/- A step that came in by value; steps that are not too large: their lines are short. -/
import Derived.Test.YtiffmigihhcgcaaGreatDoorConLineW
import Derived.Test.YtiffmigihhcgcaaGreatDoorOpenN
import Derived.Test.YtiffmigihhcgcaaGreatDoorOpMisc
import Derived.Lib.ItoaLen
namespace Go.Proofs.YtiffmigihhcgcaaGreatDoor.ConW
set_option maxRecDepth 100000
set_option linter.constructorNameAsVariable false
set_option linter.unusedVariables false
open Go.RowKit Go.ChangeShapes Go.WideShapes Go.Deep ConP OpP OpW
/-- not too large -/
def SmallS (s : Stp) : Prop := Small s.a.o ∧ s.a.p.size ≤ 2000 ∧ s.a.d.size ≤ 5000
/-- numbers of 64 bits -/
def Ints (s : Stp) : Prop := ∀ p, -9223372036854775808 ≤ getN s p ∧ getN s p ≤ 9223372036854775807
theorem small_num {s : Stp} (h : SmallS s) (hi : Ints s) : Num s := ⟨hi, by have := h.2.2; omega⟩
theorem hexS_len (s : Bs) : (hexS s).length ≤ 2 * s.length + 1 := by
  unfold hexS
  split
  · simp only [List.length_cons, List.length_nil]; omega
  · rw [hexB_len]; omega
theorem getW_len {s : Stp} (h : SmallS s) (hi : Ints s) (p : Pl) : (getW s p).length ≤ 10001 := by
  obtain ⟨⟨h1, h2, _, _⟩, h3, h4⟩ := h
  have num : ∀ q, (Lib.itoa (getN s q)).length ≤ 10001 := fun q => Nat.le_trans (Lib.itoa_length_le _ (hi q).1 (hi q).2) (by omega)
  have hx := hexS_len s.a.d.data.toList
  have e : ∀ x : ByteArray, x.data.toList.length = x.size := fun x => by simp
  rw [e] at hx
  cases p
  all_goals first
    | exact num _
    | (show (hexS s.a.d.data.toList).length ≤ 10001; omega)
    | (show s.a.o.t.data.toList.length ≤ 10001; rw [e]; omega)
    | (show s.a.o.p.data.toList.length ≤ 10001; rw [e]; omega)
    | (show s.a.p.data.toList.length ≤ 10001; rw [e]; omega)
theorem joinW_len (B : Nat) : ∀ l : List Bs, (∀ a ∈ l, a.length ≤ B) → (joinW l).length ≤ l.length * (B + 1)
  | [], _ => by simp [joinW]
  | [a], h => by
    have := h a (.head _)
    simp only [joinW, List.length_cons, List.length_nil]; omega
  | a :: b :: l, h => by
    have h1 := h a (.head _)
    have h2 := joinW_len B (b :: l) fun x hx => h x (.tail _ hx)
    rw [joinW, List.length_append, List.length_cons, List.length_cons (a := a), Nat.succ_mul]
    omega
theorem word_len : ∀ x ∈ forms, x.w.length ≤ 10 ∧ x.ps.length ≤ 5 := by decide
theorem lineL_len {s : Stp} (h : SmallS s) (hi : Ints s) : ∀ x ∈ forms, x.key = s.key → (joinW (lineL x s)).length ≤ 1000000 := by
  intro x hx _
  have hw := (word_len x hx).1
  have hp := (word_len x hx).2
  have hc : (Lib.itoa s.c).length ≤ 10001 := getW_len h hi .cl
  have hps : ∀ a ∈ x.ps.map (getW s), a.length ≤ 10001 := by
    intro a ha
    obtain ⟨p, _, rfl⟩ := List.mem_map.1 ha
    exact getW_len h hi p
  have hl : (lineL x s).length ≤ 8 ∧ ∀ a ∈ lineL x s, a.length ≤ 10001 := by
    unfold lineL
    split
    · refine ⟨by simp only [List.length_cons, List.length_map]; omega, ?_⟩
      intro a ha
      rcases List.mem_cons.1 ha with rfl | ha
      · simp only [List.length_cons, List.length_nil]; omega
      · rcases List.mem_cons.1 ha with rfl | ha
        · exact hc
        · rcases List.mem_cons.1 ha with rfl | ha
          · omega
          · exact hps a ha
    · refine ⟨by simp only [List.length_cons, List.length_map]; omega, ?_⟩
      intro a ha
      rcases List.mem_cons.1 ha with rfl | ha
      · omega
      · exact hps a ha
  have h1 := joinW_len 10001 (lineL x s) hl.2
  have h2 : (lineL x s).length * (10001 + 1) ≤ 8 * (10001 + 1) := Nat.mul_le_mul_right _ hl.1
  omega
/-- the chains of a projection, as they stand -/
def ChAt (w : World) (pa : Option Addr) (n : Nat) : Prop := ∀ i, i < n → ∃ a, pa = some a ∧ a.block < w.heap.size ∧ ∃ oa l c, w.cell? (a.add i) = some (.slice oa l c)
theorem ChAt.keep {w w' : World} {pa : Option Addr} {n : Nat} (h : ChAt w pa n) (k : Below w.heap.size w w') : ChAt w' pa n := by
  intro i hi
  obtain ⟨a, ha, hb, oa, l, c, hc⟩ := h i hi
  exact ⟨a, ha, Nat.lt_of_lt_of_le hb k.size, oa, l, c, (k.cell (by rw [add_block]; exact hb)).trans hc⟩
section
variable {H : Type} {enc : TypeId × Value → H} {w : World} {base b0 : Nat} {spare : Nat → Bool} {held : Bool} {r : Reach} {v : Value} {d : DataW H} {p : List MemPlace}
theorem rows_t {P : Program} {fuel : Nat} {t e : TypeId} {fs : Array Field} {u : Value} {x : DataW H × List MemPlace} (ht : P.underlying t = some (.slice e)) (he : P.underlying e = some (.struct fs))
    (hone : oneCellFields P fs = true) (hC : P.cellsOf e = fs.size) (hf : DataW.trod enc P w base spare held fuel t [u] = some x) :
    ∃ (oa : Option Addr) (len cap : Nat), u = .slice oa len cap ∧ (oa = none → len = 0 ∧ cap = 0) ∧
      ∀ i, i < len → ∃ a n, oa = some a ∧ ∀ (j : Nat) (f : Field), fs[j]? = some f → ∃ (u : Value) (y : DataW H × List MemPlace), w.cell? (a.add (i * fs.size + j)) = some u ∧ DataW.trod enc P w base spare held n f.type [u] = some y := by
  rcases open_slice ht hf with ⟨hcs, _⟩ | ⟨a, len, cap, m, n, D, Pl, hcs, _, hl, hm, hmm, _, hi⟩
  · obtain rfl : u = .slice none 0 0 := by simpa using hcs
    exact ⟨none, 0, 0, rfl, fun _ => ⟨rfl, rfl⟩, fun i hi => absurd hi (Nat.not_lt_zero _)⟩
  · obtain rfl : u = .slice (some a) len cap := by simpa using hcs
    refine ⟨some a, len, cap, rfl, (fun h => by cases h), fun i hil => ?_⟩
    have him : i < m := by rw [hmm]; split <;> omega
    obtain ⟨cs', hc, ht'⟩ := hi i him
    rw [hC] at hc
    obtain ⟨ys, n', hn', hy, hlen, hyl, hfd⟩ := DataW.trod_struct he ht'
    obtain ⟨_, hcl, hat⟩ := World.cells?_some hc
    refine ⟨a, n', rfl, fun j f hj => ?_⟩
    obtain ⟨ho, hk⟩ := hone_of hone j f hj
    have hjl : j < fs.size := (Array.getElem?_eq_some_iff.1 hj).1
    have hcell := hat j hjl
    have h1 := hfd j f hj
    rw [ho, hk] at h1
    have hd : (cs'.drop j).take 1 = [cs'[j]'(by omega)] := by
      rw [List.drop_eq_getElem_cons (by omega)]; rfl
    rw [hd, List.getElem?_eq_getElem (by omega)] at h1
    refine ⟨_, _, ?_, h1⟩
    rw [← Go.Deep.add_add, hcell, List.getElem?_eq_getElem (by omega)]
theorem open_moves {fuel : Nat} {u : Value} {x : DataW H × List MemPlace} (h : DataW.trod enc Tryz.prog w base spare held fuel 22 [u] = some x) : ∃ (oa : Option Addr) (l : List Mv) (cap : Nat), u = .slice oa l.length cap ∧ (oa = none → l.length = 0 ∧ cap = 0) ∧ MvAt w oa l := by
  obtain ⟨oa, len, cap, rfl, hn, hi⟩ := rows_t Tryz.underlying22 Tryz.underlying96 (by kernel_rfl) (by kernel_rfl) h
  have key : ∀ i, ∃ s : Mv, i < len → ∃ a, oa = some a ∧ a.block < w.heap.size ∧ ∀ j u, (encM s)[j]? = some u → w.cell? (fieldOf (a.add (i * 4)) j) = some u := by
    intro i
    by_cases hil : i < len
    · obtain ⟨a, n, ha, hf⟩ := hi i hil
      obtain ⟨u0, y0, c0, t0⟩ := hf 0 _ rfl
      obtain ⟨u1, y1, c1, t1⟩ := hf 1 _ rfl
      obtain ⟨u2, y2, c2, t2⟩ := hf 2 _ rfl
      obtain ⟨u3, y3, c3, t3⟩ := hf 3 _ rfl
      obtain ⟨z0, e0, _, _⟩ := DataW.trod_int Tryz.underlying3 t0
      obtain ⟨z1, e1, _, _⟩ := DataW.trod_int Tryz.underlying3 t1
      obtain ⟨z2, e2, _, _⟩ := DataW.trod_int Tryz.underlying3 t2
      obtain ⟨z3, e3, _, _⟩ := DataW.trod_int Tryz.underlying3 t3
      obtain rfl : u0 = .int .i64 z0 := by simpa using e0
      obtain rfl : u1 = .int .i64 z1 := by simpa using e1
      obtain rfl : u2 = .int .i64 z2 := by simpa using e2
      obtain rfl : u3 = .int .i64 z3 := by simpa using e3
      refine ⟨⟨z0, z1, z2, z3⟩, fun _ => ⟨a, ha, ?_, ?_⟩⟩
      · have := World.block_lt_of_cell? _ _ c0
        rwa [add_block] at this
      · intro j u hj
        rw [← fieldOf_add]
        match j with
        | 0 => simp only [encM, List.getElem?_cons_zero, Option.some.injEq] at hj; rw [← hj]; exact c0
        | 1 => simp only [encM, List.getElem?_cons_succ, List.getElem?_cons_zero, Option.some.injEq] at hj; rw [← hj]; exact c1
        | 2 => simp only [encM, List.getElem?_cons_succ, List.getElem?_cons_zero, Option.some.injEq] at hj; rw [← hj]; exact c2
        | 3 => simp only [encM, List.getElem?_cons_succ, List.getElem?_cons_zero, Option.some.injEq] at hj; rw [← hj]; exact c3
        | j + 4 => simp [encM] at hj
    · exact ⟨⟨0, 0, 0, 0⟩, fun h => absurd h hil⟩
  refine ⟨oa, (List.range len).map (fun i => (key i).choose), cap, by simp, by simpa using hn, ?_⟩
  intro i x hx
  have hil : i < len := by have := (List.getElem?_eq_some_iff.1 hx).1; simpa using this
  obtain rfl : (key i).choose = x := by simpa [hil] using hx
  exact (key i).choose_spec hil
theorem open_chains {fuel : Nat} {u : Value} {x : DataW H × List MemPlace} (h : DataW.trod enc Tryz.prog w base spare held fuel 27 [u] = some x) : ∃ (pa : Option Addr) (n cap : Nat), u = .slice pa n cap ∧ ChAt w pa n := by
  rcases open_slice Tryz.underlying27 h with ⟨hcs, _⟩ | ⟨a, len, cap, m, n, D, Pl, hcs, _, hl, hm, hmm, _, hi⟩
  · obtain rfl : u = .slice none 0 0 := by simpa using hcs
    exact ⟨none, 0, 0, rfl, fun i hi => absurd hi (Nat.not_lt_zero _)⟩
  · obtain rfl : u = .slice (some a) len cap := by simpa using hcs
    refine ⟨some a, len, cap, rfl, fun i hil => ?_⟩
    have him : i < m := by rw [hmm]; split <;> omega
    obtain ⟨cs', hc, ht'⟩ := hi i him
    have c1 : Tryz.prog.cellsOf 59 = 1 := by kernel_rfl
    rw [c1] at hc
    obtain ⟨_, hcl, hat⟩ := World.cells?_some hc
    have h0 := hat 0 (by omega)
    match cs', hcl, h0, ht' with
    | [v], _, h0, ht' =>
      have hb : w.cell? (a.add (i * 1)) = some v := by
        have e : ∀ b : Addr, b.add 0 = b := fun b => rfl
        rw [e] at h0
        exact h0
      rw [Nat.mul_one] at hb
      rcases open_slice Tryz.underlying59 ht' with ⟨hcs, _⟩ | ⟨a', len', cap', _, _, _, _, hcs, _⟩
      · obtain rfl : v = .slice none 0 0 := by simpa using hcs
        exact ⟨a, rfl, by have := World.block_lt_of_cell? _ _ hb; rwa [add_block] at this, _, _, _, hb⟩
      · obtain rfl : v = .slice (some a') len' cap' := by simpa using hcs
        exact ⟨a, rfl, by have := World.block_lt_of_cell? _ _ hb; rwa [add_block] at this, _, _, _, hb⟩
end
end Go.Proofs.YtiffmigihhcgcaaGreatDoor.ConW
