/- The law None of dir; the steps that come in; fair. -/
import Derived.Test.YtffigodlfmnbpaaDirWakes
import Derived.Test.YtffigodlfmnbpaaOpenN
namespace Go.Proofs.Ytffigodlfmnbpaa.DirW
open Go.RowKit Go.ChangeShapes Go.WideShapes Go.Deep
open DirP (En)
set_option maxHeartbeats 1600000 in
theorem none_walk (s : Stp) (W : World) : Calls Try.prog 6 #[.agg (stCells s)] W fun e w' => e = .returned (.bool true) ∧ Below W.heap.size W w' := by
  unfold stCells
  have HB := Lib.hid (below_alloc W (.cells (stCells s) 30))
  unfold stCells at HB
  go_enter Try.func6, Try.ntmps6
  have p1 := alloc_cell W #[.int .i64 s.k, .int .i64 s.d, .int .i64 s.i, .string s.s] 30 1 _ rfl
  have p2 := alloc_cell W #[.int .i64 s.k, .int .i64 s.d, .int .i64 s.i, .string s.s] 30 2 _ rfl
  have p3 := alloc_cell W #[.int .i64 s.k, .int .i64 s.d, .int .i64 s.i, .string s.s] 30 3 _ rfl
  go_wp2_with (first
    | (go_at_call 12; refine (nfind _ _ _).mono ?_; rintro e w2 ⟨rfl, rfl⟩)
    | (go_at_call 10; refine (nadd _ _ _ _).mono ?_; rintro e w2 ⟨rfl, rfl⟩)
    | (go_at_call 11; refine (ndrop _ _ _).mono ?_; rintro e w2 ⟨rfl, rfl⟩)
    | (go_at_call 19; refine (nlist _ _).mono ?_; rintro e w3 ⟨rfl, hb3⟩; have q1 := cell_step hb3 p1; have q2 := cell_step hb3 p2; clear p1 p2 p3; have HB3 := Lib.hid (bstep HB.out hb3); clear hb3)
    | (go_at_call 13; refine (ncount _ _).mono ?_; rintro e w4 ⟨rfl, rfl⟩)
    | (go_at_call 14; refine (nof _ _).mono ?_; rintro e w5 ⟨rfl, hb5⟩; have HB5 := Lib.hid (bstep HB3.out hb5); clear hb5 q1 q2)
    | (go_at_call 24; refine (nall _).mono ?_; rintro e w6 ⟨rfl, hb6⟩; have HB6 := Lib.hid (bstep HB5.out hb6); clear hb6)
    | (go_at_call 9; refine (wakes_any _).mono ?_; rintro e w7 ⟨rfl, hb7⟩; have HB7 := Lib.hid (bstep HB6.out hb7); clear hb7))
  go_ret
  exact ⟨rfl, HB7.out⟩
section
variable {H : Type} {enc : TypeId × Value → H} {w : World} {base b0 : Nat} {spare : Nat → Bool} {held : Bool} {r : Reach} {v : Value} {d : DataW H} {p : List MemPlace}
theorem four {cs : Array Value} {fs : Array Field} (f0 f1 f2 f3 : Field) (he : fs = #[f0, f1, f2, f3]) (h0 : Try.prog.underlying f0.type = some (.int .i64)) (h1 : Try.prog.underlying f1.type = some (.int .i64)) (h2 : Try.prog.underlying f2.type = some (.int .i64)) (h3 : Try.prog.underlying f3.type = some .string)
    (hf : ∀ (j : Nat) (f : Field), fs[j]? = some f → ∃ (u : Value) (n : Nat) (y : DataW H × List MemPlace), cs[j]? = some u ∧ DataW.trod enc Try.prog w base spare held n f.type [u] = some y) :
    ∃ s : Stp, cs[0]? = some (.int .i64 s.k) ∧ cs[1]? = some (.int .i64 s.d) ∧ cs[2]? = some (.int .i64 s.i) ∧ cs[3]? = some (.string s.s) ∧ deOk (s.d, s.s) := by
  subst he
  obtain ⟨v0, n0, y0, c0, t0⟩ := hf 0 f0 rfl
  obtain ⟨v1, n1, y1, c1, t1⟩ := hf 1 f1 rfl
  obtain ⟨v2, n2, y2, c2, t2⟩ := hf 2 f2 rfl
  obtain ⟨v3, n3, y3, c3, t3⟩ := hf 3 f3 rfl
  obtain ⟨z0, e0, _, _⟩ := DataW.trod_int h0 t0
  obtain ⟨z1, e1, _, w1⟩ := DataW.trod_int h1 t1
  obtain ⟨z2, e2, _, _⟩ := DataW.trod_int h2 t2
  obtain ⟨z3, e3, _, w3⟩ := DataW.trod_string h3 t3
  obtain rfl : v0 = .int .i64 z0 := by simpa using e0
  obtain rfl : v1 = .int .i64 z1 := by simpa using e1
  obtain rfl : v2 = .int .i64 z2 := by simpa using e2
  obtain rfl : v3 = .string z3 := by simpa using e3
  exact ⟨⟨z0, z1, z2, z3⟩, c0, c1, c2, c3, w1, w3⟩
theorem open_step (hv : Value.okWide Try.prog w r b0 30 v) (h : DataW.Trod enc Try.prog w base spare held 30 v d p) : ∃ s : Stp, v = .agg (stCells s) ∧ deOk (s.d, s.s) := by
  obtain ⟨cs, rfl, hsz, hf⟩ := open_one Try.underlying30 (by kernel_rfl) (by kernel_rfl) hv h
  obtain ⟨s, c0, c1, c2, c3, hk⟩ := four _ _ _ _ rfl Try.underlying3 Try.underlying3 Try.underlying3 Try.underlying9 hf
  refine ⟨s, ?_, hk⟩
  congr 1
  simp only [List.size_toArray, List.length_cons, List.length_nil] at hsz
  apply Array.ext_getElem?
  intro j
  match j with
  | 0 => exact c0
  | 1 => exact c1
  | 2 => exact c2
  | 3 => exact c3
  | j + 4 => rw [Array.getElem?_eq_none (by omega), Array.getElem?_eq_none (by simp [stCells])]
theorem none_walk2 (s : Stp) (_ : deOk (s.d, s.s)) (W : World) : Calls Try.prog 6 #[.agg (stCells s)] W fun e w' => e = .returned (.bool true) ∧ Below W.heap.size W w' := none_walk s W
/-- steps that came in -/
structure Steps (w : World) (oa : Option Addr) (l : List Stp) : Prop where
  pts : KAt encSt 4 w.heap.size oa l w
  ok : ∀ s ∈ l, deOk (s.d, s.s)
theorem open_steps (hv : Value.okWide Try.prog w r b0 22 v) (h : DataW.Trod enc Try.prog w base spare held 22 v d p) :
    ∃ (oa : Option Addr) (cap : Nat) (l : List Stp), v = .slice oa l.length cap ∧ Steps w oa l ∧ l.length ≤ maxLen := by
  obtain ⟨oa, len, cap, rfl, hl, hm, hn, hi⟩ := open_rows Try.underlying22 Try.underlying30 (by kernel_rfl) (by kernel_rfl) hv h
  have key : ∀ i, ∃ s : Stp, deOk (s.d, s.s) ∧ (i < len → ∃ a, oa = some a ∧ a.block < w.heap.size ∧ ∀ j u, (encSt s)[j]? = some u → w.cell? (fieldOf (a.add (i * 4)) j) = some u) := by
    intro i
    by_cases hil : i < len
    · obtain ⟨a, n, ha, hf⟩ := hi i hil
      obtain ⟨u0, y0, c0, t0⟩ := hf 0 _ rfl
      obtain ⟨u1, y1, c1, t1⟩ := hf 1 _ rfl
      obtain ⟨u2, y2, c2, t2⟩ := hf 2 _ rfl
      obtain ⟨u3, y3, c3, t3⟩ := hf 3 _ rfl
      obtain ⟨z0, e0, _, _⟩ := DataW.trod_int Try.underlying3 t0
      obtain ⟨z1, e1, _, w1⟩ := DataW.trod_int Try.underlying3 t1
      obtain ⟨z2, e2, _, _⟩ := DataW.trod_int Try.underlying3 t2
      obtain ⟨z3, e3, _, w3⟩ := DataW.trod_string Try.underlying9 t3
      obtain rfl : u0 = .int .i64 z0 := by simpa using e0
      obtain rfl : u1 = .int .i64 z1 := by simpa using e1
      obtain rfl : u2 = .int .i64 z2 := by simpa using e2
      obtain rfl : u3 = .string z3 := by simpa using e3
      refine ⟨⟨z0, z1, z2, z3⟩, ⟨w1, w3⟩, fun _ => ⟨a, ha, ?_, ?_⟩⟩
      · have := World.block_lt_of_cell? _ _ c0
        rwa [add_block] at this
      · intro j u hj
        rw [← fieldOf_add]
        match j with
        | 0 => simp only [encSt, List.getElem?_cons_zero, Option.some.injEq] at hj; rw [← hj]; exact c0
        | 1 => simp only [encSt, List.getElem?_cons_succ, List.getElem?_cons_zero, Option.some.injEq] at hj; rw [← hj]; exact c1
        | 2 => simp only [encSt, List.getElem?_cons_succ, List.getElem?_cons_zero, Option.some.injEq] at hj; rw [← hj]; exact c2
        | 3 => simp only [encSt, List.getElem?_cons_succ, List.getElem?_cons_zero, Option.some.injEq] at hj; rw [← hj]; exact c3
        | j + 4 => simp [encSt] at hj
    · exact ⟨⟨0, 0, 0, sa⟩, ⟨by decide, by decide⟩, fun h => absurd h hil⟩
  refine ⟨oa, cap, (List.range len).map (fun i => (key i).choose), by simp, ⟨?_, ?_⟩, by simp; omega⟩
  · intro i x hx
    have hil : i < len := by have := (List.getElem?_eq_some_iff.1 hx).1; simpa using this
    obtain rfl : (key i).choose = x := by simpa [hil] using hx
    exact (key i).choose_spec.2 hil
  · intro s hs
    obtain ⟨i, _, rfl⟩ := List.mem_map.1 hs
    exact (key i).choose_spec.1
end
theorem st_at {B : Nat} {oa : Option Addr} {l : List Stp} {w : World} (h : KAt encSt 4 B oa l w) {i : Nat} {x : Stp} (hx : l[i]? = some x) :
    ∃ a, oa = some a ∧ a.block < B ∧ w.cell? (a.add (i * 4)) = some (.int .i64 x.k) ∧ w.cell? ⟨(a.add (i * 4)).block, (a.add (i * 4)).off + 1, none⟩ = some (.int .i64 x.d) ∧ w.cell? ⟨(a.add (i * 4)).block, (a.add (i * 4)).off + 2, none⟩ = some (.int .i64 x.i) ∧ w.cell? ⟨(a.add (i * 4)).block, (a.add (i * 4)).off + 3, none⟩ = some (.string x.s) := by
  obtain ⟨a, h1, h2, h3⟩ := h i x hx
  exact ⟨a, h1, h2, h3 0 _ rfl, h3 1 _ rfl, h3 2 _ rfl, h3 3 _ rfl⟩
/-- no name too long, not too many steps -/
def FairL (l : List Stp) : Prop := (∀ s ∈ l, s.s.size ≤ 1000) ∧ l.length ≤ 200
instance (l : List Stp) : Decidable (FairL l) := inferInstanceAs (Decidable (_ ∧ _))
set_option maxHeartbeats 800000 in
theorem fair_any (oa : Option Addr) (cap : Nat) (l : List Stp) (hl : l.length ≤ 9223372036854775807) (W : World) (h : KAt encSt 4 W.heap.size oa l W) :
    Calls Try.prog 8 #[.slice oa l.length cap] W fun e w' => e = .returned (.bool (decide (FairL l))) ∧ W = w' := by
  have HP := Lib.hid h
  clear h
  go_enter Try.func8, Try.ntmps8
  go_wp2_with fail
  go_loop [3] (fun i => ∃ m : Nat, m ≤ l.length ∧ i = .int .i64 (m : Int) ∧ ∀ (k : Nat) (s : Stp), k < m → l[k]? = some s → s.s.size ≤ 1000) (fun i => (l.length - intOf i).toNat)
  case atStart => exact ⟨0, by omega, rfl, fun k s hk => absurd hk (by omega)⟩
  case round =>
    obtain ⟨m, hm, rfl, hall⟩ := hrel
    have HA := Lib.hid hall
    clear hall
    by_cases hlt : m < l.length
    · obtain ⟨x, hx⟩ : ∃ x, l[m]? = some x := ⟨_, List.getElem?_eq_getElem hlt⟩
      obtain ⟨a, rfl, _, _, _, _, c3⟩ := st_at HP.out hx
      have hi1 : (m : Int) < (l.length : Int) := by omega
      have HX := Lib.hid hx
      clear hx
      by_cases hs : x.s.size ≤ 1000
      · have hs1 : ¬ ((x.s.size : Int) > 1000) := by omega
        have HS := Lib.hid hs
        clear hs
        go_wp2_with fail
        refine ⟨⟨m + 1, by omega, by simp, fun k s hk he => ?_⟩, by simp [intOf]; omega⟩
        by_cases e : k = m
        · subst e; rw [HX.out] at he; rw [← Option.some.inj he]; exact HS.out
        · exact HA.out k s (by omega) he
      · have hs1 : (x.s.size : Int) > 1000 := by omega
        have HF : Hid (decide (FairL l) = false) := Lib.hid (decide_eq_false fun h => hs (h.1 x (List.mem_of_getElem? HX.out)))
        clear hs
        go_wp2_with fail
        go_ret
        exact ⟨by rw [HF.out]; rfl, rfl⟩
    · have hi1 : ¬ ((m : Int) < (l.length : Int)) := by omega
      obtain rfl : m = l.length := by omega
      have HF : Hid (decide (FairL l) = decide ((l.length : Int) ≤ 200)) := Lib.hid (by
        rw [decide_eq_decide]
        refine ⟨fun h => by have := h.2; omega, fun h => ⟨fun s hs => ?_, by omega⟩⟩
        obtain ⟨k, hk, rfl⟩ := List.getElem_of_mem hs
        exact HA.out k _ hk (List.getElem?_eq_getElem hk))
      clear hlt hm
      go_wp2_with fail
      go_ret
      exact ⟨by rw [HF.out]; rfl, rfl⟩
end Go.Proofs.Ytffigodlfmnbpaa.DirW
