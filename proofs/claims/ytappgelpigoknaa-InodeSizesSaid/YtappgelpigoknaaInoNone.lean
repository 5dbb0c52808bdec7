/- A table that nobody made. -/
import Derived.Test.YtappgelpigoknaaInoWakes
import Derived.Test.YtappgelpigoknaaOpenN
import Derived.Test.YtappgelpigoknaaLaw
namespace Go.Proofs.Ytappgelpigoknaa.InoW
set_option maxRecDepth 100000
open Go.RowKit InoP ExtW Go.ChangeShapes Go.WideShapes Go.Deep
set_option maxHeartbeats 400000 in
theorem nget (i : Int) (w : World) : Calls Try.prog 30 #[.pointer none, .int .i64 i] w fun e w' => e = .returned (.tuple #[.agg #[.int .i64 0, .int .i64 0, .int .i64 0, .int .i64 0, .int .i64 0, .slice none 0 0], .bool false]) ∧ Below w.heap.size w w' := by
  go_enter Try.func30, Try.ntmps30
  go_wp2_with fail
  try simp only [Exit.inBlock, Exit.then]
  refine ret_row (p := 4) (u := 5) rfl rfl rfl (heap_alloc_new w _) Try.underlying62 rfl inoSize ?_
  exact ⟨rfl, below_alloc w _⟩
set_option maxHeartbeats 400000 in
theorem nfile (i : Int) (w : World) : Calls Try.prog 32 #[.pointer none, .int .i64 i] w fun e w' => e = .returned (.tuple #[.agg #[.int .i64 0, .int .i64 0, .int .i64 0, .int .i64 0, .int .i64 0, .slice none 0 0], .int .i64 1]) ∧ Below w.heap.size w w' := by
  go_enter Try.func32, Try.ntmps32
  go_wp2_with fail
  try simp only [Exit.inBlock, Exit.then]
  refine ret_row (p := 4) (u := 5) rfl rfl rfl (heap_alloc_new w _) Try.underlying62 rfl inoSize ?_
  exact ⟨rfl, below_alloc w _⟩
set_option maxHeartbeats 400000 in
theorem nmake (k : Int) (w : World) : Calls Try.prog 7 #[.pointer none, .int .i64 k] w fun e w' => e = .returned (.tuple #[.int .i64 0, .int .i64 1]) ∧ Below w.heap.size w w' := by
  go_enter Try.func7, Try.ntmps7
  go_wp2_with fail
  go_ret2
  exact ⟨rfl, Below.refl _ _⟩
set_option maxHeartbeats 400000 in
theorem nstat (i : Int) (w : World) : Calls Try.prog 11 #[.pointer none, .int .i64 i] w fun e w' => e = .returned (.tuple #[.agg #[.int .i64 0, .int .i64 0, .int .i64 0, .int .i64 0], .bool false]) ∧ Below w.heap.size w w' := by
  have HB0 := Lib.hid (below_alloc w (.cells #[.int .i64 0, .int .i64 0, .int .i64 0, .int .i64 0] 34))
  go_enter Try.func11, Try.ntmps11
  go_wp2_with (first
    | (go_at_call 30; refine (nget _ _).mono ?_; rintro e w2 ⟨rfl, hb2⟩; have HB2 := Lib.hid hb2; clear hb2)
    | (refine wpList_store_row rfl 34 (Operand.tmp 4) _ rfl w.heap.size _ rfl rfl 34 _ ((heap_alloc_old _ _ (lt_of_block (new_kept HB2.out))).trans (new_kept HB2.out)) statSize rfl (by simp [Value.oneCell']) ?_))
  try simp only [Exit.inBlock, Exit.then]
  refine ret_row (p := 4) (u := 5) rfl rfl rfl (setRow_heap _ _ _ _ _ _ ((heap_alloc_old _ _ (lt_of_block (new_kept HB2.out))).trans (new_kept HB2.out))) Try.underlying34 rfl statSize ?_
  exact ⟨rfl, below_setRow (bstep (bstep HB0.out HB2.out) (below_alloc _ _)) (Nat.le_refl _) _⟩
set_option maxHeartbeats 400000 in
theorem nlink (i d : Int) (w : World) : Calls Try.prog 8 #[.pointer none, .int .i64 i, .int .i64 d] w fun e w' => e = .returned (.int .i64 1) ∧ Below w.heap.size w w' := by
  go_enter Try.func8, Try.ntmps8
  go_wp2_with fail
  go_ret
  exact ⟨rfl, Below.refl _ _⟩
set_option maxHeartbeats 400000 in
theorem nopen (i d : Int) (w : World) : Calls Try.prog 26 #[.pointer none, .int .i64 i, .int .i64 d] w fun e w' => e = .returned (.int .i64 1) ∧ Below w.heap.size w w' := by
  go_enter Try.func26, Try.ntmps26
  go_wp2_with fail
  go_ret
  exact ⟨rfl, Below.refl _ _⟩
set_option maxHeartbeats 400000 in
theorem nwrite (i off n a : Int) (w : World) : Calls Try.prog 10 #[.pointer none, .int .i64 i, .int .i64 off, .int .i64 n, .int .i64 a] w fun e w' => e = .returned (.int .i64 1) ∧ Below w.heap.size w w' := by
  go_enter Try.func10, Try.ntmps10
  go_wp2_with (go_at_call 32; refine (nfile _ _).mono ?_; rintro e w2 ⟨rfl, hb2⟩; have HB2 := Lib.hid hb2; clear hb2)
  go_ret
  exact ⟨rfl, bstep HB2.out (below_alloc _ _)⟩
set_option maxHeartbeats 400000 in
theorem ntrunc (i s : Int) (w : World) : Calls Try.prog 12 #[.pointer none, .int .i64 i, .int .i64 s] w fun e w' => e = .returned (.int .i64 1) ∧ Below w.heap.size w w' := by
  go_enter Try.func12, Try.ntmps12
  go_wp2_with (go_at_call 32; refine (nfile _ _).mono ?_; rintro e w2 ⟨rfl, hb2⟩; have HB2 := Lib.hid hb2; clear hb2)
  go_ret
  exact ⟨rfl, bstep HB2.out (below_alloc _ _)⟩
set_option maxHeartbeats 400000 in
theorem nmove (i : Int) (oa : Option Addr) (n c : Nat) (a : Int) (w : World) : Calls Try.prog 27 #[.pointer none, .int .i64 i, .slice oa n c, .int .i64 a] w fun e w' => e = .returned (.int .i64 1) ∧ Below w.heap.size w w' := by
  go_enter Try.func27, Try.ntmps27
  go_wp2_with (go_at_call 32; refine (nfile _ _).mono ?_; rintro e w2 ⟨rfl, hb2⟩; have HB2 := Lib.hid hb2; clear hb2)
  go_ret
  exact ⟨rfl, bstep HB2.out (below_alloc _ _)⟩
set_option maxHeartbeats 400000 in
theorem nopens (i : Int) (w : World) : Calls Try.prog 28 #[.pointer none, .int .i64 i] w fun e w' => e = .returned (.int .i64 0) ∧ Below w.heap.size w w' := by
  go_enter Try.func28, Try.ntmps28
  go_wp2_with (go_at_call 30; refine (nget _ _).mono ?_; rintro e w2 ⟨rfl, hb2⟩; have HB2 := Lib.hid hb2; clear hb2)
  go_ret
  exact ⟨rfl, bstep HB2.out (below_alloc _ _)⟩
set_option maxHeartbeats 400000 in
theorem clone_nil (w : World) : Calls Try.prog 36 #[.slice none 0 0] w fun e w' => e = .returned (.slice none 0 0) ∧ w = w' := by
  have q37 : ∀ (w : World) (a : Option Addr) (n c n' c' : Nat), (binOp .eql 37 (.slice a n c) (.slice none n' c')).run Try.prog w = .ok (.bool a.isNone) w := fun w a n c n' c' => Lib.run_eql_slice_nil w _ _ a n c n' c' Try.underlying37
  go_enter Try.func36, Try.ntmps36
  go_wp2_with fail
  go_ret
  exact ⟨rfl, rfl⟩
set_option maxHeartbeats 400000 in
theorem nparts (i : Int) (w : World) : Calls Try.prog 13 #[.pointer none, .int .i64 i] w fun e w' => e = .returned (.slice none 0 0) ∧ Below w.heap.size w w' := by
  go_enter Try.func13, Try.ntmps13
  go_wp2_with (first
    | (go_at_call 30; refine (nget _ _).mono ?_; rintro e w2 ⟨rfl, hb2⟩; have HB2 := Lib.hid hb2; clear hb2)
    | (go_at_call 36; go_loud (refine (clone_nil _).mono ?_; rintro e w3 ⟨rfl, rfl⟩)))
  go_ret
  exact ⟨rfl, bstep HB2.out (below_alloc _ _)⟩
set_option maxHeartbeats 400000 in
theorem nall (w : World) : Calls Try.prog 29 #[.pointer none] w fun e w' => e = .returned (.slice none 0 0) ∧ Below w.heap.size w w' := by
  go_enter Try.func29, Try.ntmps29
  go_wp2_with fail
  go_ret
  exact ⟨rfl, Below.refl _ _⟩
set_option maxHeartbeats 400000 in
theorem nnext (w : World) : Calls Try.prog 22 #[.pointer none] w fun e w' => e = .returned (.int .i64 0) ∧ Below w.heap.size w w' := by
  go_enter Try.func22, Try.ntmps22
  go_wp2_with fail
  go_ret
  exact ⟨rfl, Below.refl _ _⟩
set_option maxHeartbeats 400000 in
theorem nload (oa : Option Addr) (n c : Nat) (k : Int) (w : World) : Calls Try.prog 20 #[.pointer none, .slice oa n c, .int .i64 k] w fun e w' => e = .returned (.int .i64 1) ∧ Below w.heap.size w w' := by
  go_enter Try.func20, Try.ntmps20
  go_wp2_with fail
  go_ret
  exact ⟨rfl, Below.refl _ _⟩
set_option maxHeartbeats 400000 in
theorem ndump (w : World) : Calls Try.prog 19 #[.pointer none] w fun e w' => e = .returned (.slice none 0 0) ∧ Below w.heap.size w w' := by
  go_enter Try.func19, Try.ntmps19
  go_wp2_with (go_at_call 29; refine (nall _).mono ?_; rintro e w2 ⟨rfl, hb2⟩; have HB2 := Lib.hid hb2; clear hb2)
  go_loop [3, 10] (fun v i => v = .slice none 0 0 ∧ i = .int .i64 0) (fun _ _ => 0)
  case atStart => exact ⟨rfl, rfl⟩
  case round =>
    obtain ⟨rfl, rfl⟩ := hrel
    go_wp2_with fail
    go_ret
    exact ⟨rfl, HB2.out⟩
theorem box6 {w1 : World} {b : Nat} {u0 u1 u2 u3 u4 u5 : Value} {t : TypeId} (h : w1.heap[b]? = some (.cells #[u0, u1, u2, u3, u4, u5] t (0, 0))) :
    w1.cell? ⟨b, 0, none⟩ = some u0 ∧ w1.cell? ⟨b, 1, none⟩ = some u1 ∧ w1.cell? ⟨b, 2, none⟩ = some u2 ∧ w1.cell? ⟨b, 3, none⟩ = some u3 ∧ w1.cell? ⟨b, 4, none⟩ = some u4 ∧ w1.cell? ⟨b, 5, none⟩ = some u5 :=
  ⟨(new_cells h 0 (by simp)).1, (new_cells h 1 (by simp)).1, (new_cells h 2 (by simp)).1, (new_cells h 3 (by simp)).1, (new_cells h 4 (by simp)).1, (new_cells h 5 (by simp)).1⟩
set_option maxHeartbeats 1600000 in
theorem none_walk (k i N off a : Int) (oa : Option Addr) (m c : Nat) (W : World) (_ : True) :
    Calls Try.prog 5 #[.agg #[.int .i64 k, .int .i64 i, .int .i64 N, .int .i64 off, .int .i64 a, .slice oa m c]] W fun e w' => e = .returned (.bool true) ∧ Below W.heap.size W w' := by
  have XB : Hid ((W.alloc (.cells #[.int .i64 k, .int .i64 i, .int .i64 N, .int .i64 off, .int .i64 a, .slice oa m c] 48)).heap[W.heap.size]? = some (.cells #[.int .i64 k, .int .i64 i, .int .i64 N, .int .i64 off, .int .i64 a, .slice oa m c] 48 (0, 0))) := Lib.hid (heap_alloc_new W _)
  have HB := Lib.hid (below_alloc W (.cells #[.int .i64 k, .int .i64 i, .int .i64 N, .int .i64 off, .int .i64 a, .slice oa m c] 48))
  by_cases hm : 30 < m
  · have hm1 : (30 : Int) < (m : Int) := by omega
    clear hm
    go_enter Try.func5, Try.ntmps5
    go_wp2_with (go_at_call 9; refine (wakes_any _).mono ?_; rintro e w9 ⟨rfl, hb9⟩; have HB9 := Lib.hid (bstep HB.out hb9); clear hb9)
    go_ret
    exact ⟨rfl, HB9.out⟩
  · have hm1 : decide ((30 : Int) < (m : Int)) = false := decide_eq_false (by omega)
    clear hm
    go_enter Try.func5, Try.ntmps5
    go_wp2_with (first
    | (go_at_call 7; go_loud (refine (nmake N _).mono ?_; rintro e wn ⟨rfl, hb⟩; have HB := Lib.hid (bstep HB.out hb); have XB := Lib.hid ((hb.block _ (lt_of_block XB.out)).trans XB.out); obtain ⟨x0, x1, x2, x3, x4, x5⟩ := box6 XB.out; clear hb))
    | (go_at_call 11; go_loud (refine (nstat i _).mono ?_; rintro e wn ⟨rfl, hb⟩; have hb := bstep hb (below_alloc wn (.cells #[.int .i64 0, .int .i64 0, .int .i64 0, .int .i64 0] 34)); have HB := Lib.hid (bstep HB.out hb); have XB := Lib.hid ((hb.block _ (lt_of_block XB.out)).trans XB.out); obtain ⟨x0, x1, x2, x3, x4, x5⟩ := box6 XB.out; clear hb))
    | (go_at_call 8; go_loud (refine (nlink i 1 _).mono ?_; rintro e wn ⟨rfl, hb⟩; have HB := Lib.hid (bstep HB.out hb); have XB := Lib.hid ((hb.block _ (lt_of_block XB.out)).trans XB.out); obtain ⟨x0, x1, x2, x3, x4, x5⟩ := box6 XB.out; clear hb))
    | (go_at_call 26; go_loud (refine (nopen i 1 _).mono ?_; rintro e wn ⟨rfl, hb⟩; have HB := Lib.hid (bstep HB.out hb); have XB := Lib.hid ((hb.block _ (lt_of_block XB.out)).trans XB.out); obtain ⟨x0, x1, x2, x3, x4, x5⟩ := box6 XB.out; clear hb))
    | (go_at_call 10; go_loud (refine (nwrite i 0 1 0 _).mono ?_; rintro e wn ⟨rfl, hb⟩; have HB := Lib.hid (bstep HB.out hb); have XB := Lib.hid ((hb.block _ (lt_of_block XB.out)).trans XB.out); obtain ⟨x0, x1, x2, x3, x4, x5⟩ := box6 XB.out; clear hb))
    | (go_at_call 12; go_loud (refine (ntrunc i 0 _).mono ?_; rintro e wn ⟨rfl, hb⟩; have HB := Lib.hid (bstep HB.out hb); have XB := Lib.hid ((hb.block _ (lt_of_block XB.out)).trans XB.out); obtain ⟨x0, x1, x2, x3, x4, x5⟩ := box6 XB.out; clear hb))
    | (go_at_call 27; go_loud (refine (nmove i oa m c 0 _).mono ?_; rintro e wn ⟨rfl, hb⟩; have HB := Lib.hid (bstep HB.out hb); have XB := Lib.hid ((hb.block _ (lt_of_block XB.out)).trans XB.out); obtain ⟨x0, x1, x2, x3, x4, x5⟩ := box6 XB.out; clear hb))
    | (go_at_call 28; go_loud (refine (nopens i _).mono ?_; rintro e wn ⟨rfl, hb⟩; have HB := Lib.hid (bstep HB.out hb); have XB := Lib.hid ((hb.block _ (lt_of_block XB.out)).trans XB.out); obtain ⟨x0, x1, x2, x3, x4, x5⟩ := box6 XB.out; clear hb))
    | (go_at_call 13; go_loud (refine (nparts i _).mono ?_; rintro e wn ⟨rfl, hb⟩; have HB := Lib.hid (bstep HB.out hb); have XB := Lib.hid ((hb.block _ (lt_of_block XB.out)).trans XB.out); obtain ⟨x0, x1, x2, x3, x4, x5⟩ := box6 XB.out; clear hb))
    | (go_at_call 29; go_loud (refine (nall _).mono ?_; rintro e wn ⟨rfl, hb⟩; have HB := Lib.hid (bstep HB.out hb); have XB := Lib.hid ((hb.block _ (lt_of_block XB.out)).trans XB.out); obtain ⟨x0, x1, x2, x3, x4, x5⟩ := box6 XB.out; clear hb))
    | (go_at_call 22; go_loud (refine (nnext _).mono ?_; rintro e wn ⟨rfl, hb⟩; have HB := Lib.hid (bstep HB.out hb); have XB := Lib.hid ((hb.block _ (lt_of_block XB.out)).trans XB.out); obtain ⟨x0, x1, x2, x3, x4, x5⟩ := box6 XB.out; clear hb))
    | (go_at_call 20; go_loud (refine (nload none 0 0 2 _).mono ?_; rintro e wn ⟨rfl, hb⟩; have HB := Lib.hid (bstep HB.out hb); have XB := Lib.hid ((hb.block _ (lt_of_block XB.out)).trans XB.out); obtain ⟨x0, x1, x2, x3, x4, x5⟩ := box6 XB.out; clear hb))
    | (go_at_call 19; go_loud (refine (ndump _).mono ?_; rintro e wn ⟨rfl, hb⟩; have HB := Lib.hid (bstep HB.out hb); have XB := Lib.hid ((hb.block _ (lt_of_block XB.out)).trans XB.out); obtain ⟨x0, x1, x2, x3, x4, x5⟩ := box6 XB.out; clear hb))
    | (go_at_call 9; refine (wakes_any _).mono ?_; rintro e w9 ⟨rfl, hb9⟩; have HB9 := Lib.hid (bstep HB.out hb9); clear hb9))
    go_ret
    exact ⟨rfl, HB9.out⟩
section
variable {H : Type} {enc : TypeId × Value → H} {w : World} {base b0 : Nat} {spare : Nat → Bool} {held : Bool} {r : Reach} {v : Value} {d : DataW H} {p : List MemPlace}
theorem slice_of {t e : TypeId} {fuel : Nat} {u : Value} {x : DataW H × List MemPlace} (ht : Try.prog.underlying t = some (.slice e)) (h : DataW.trod enc Try.prog w base spare held fuel t [u] = some x) : ∃ oa n c, u = .slice oa n c := by
  rcases open_slice ht h with ⟨hcs, _⟩ | ⟨a, len, cap, m, n, D, Pl, hcs, _⟩
  · exact ⟨none, 0, 0, by simpa using hcs⟩
  · exact ⟨some a, len, cap, by simpa using hcs⟩
theorem open_step (hv : Value.okWide Try.prog w r b0 48 v) (h : DataW.Trod enc Try.prog w base spare held 48 v d p) :
    ∃ (k i N off a : Int) (oa : Option Addr) (m c : Nat), v = .agg #[.int .i64 k, .int .i64 i, .int .i64 N, .int .i64 off, .int .i64 a, .slice oa m c] ∧ True := by
  obtain ⟨cs, rfl, hsz, hf⟩ := open_one Try.underlying48 (by kernel_rfl) (by kernel_rfl) hv h
  obtain ⟨u0, n0, y0, c0, t0⟩ := hf 0 _ rfl
  obtain ⟨u1, n1, y1, c1, t1⟩ := hf 1 _ rfl
  obtain ⟨u2, n2, y2, c2, t2⟩ := hf 2 _ rfl
  obtain ⟨u3, n3, y3, c3, t3⟩ := hf 3 _ rfl
  obtain ⟨u4, n4, y4, c4, t4⟩ := hf 4 _ rfl
  obtain ⟨u5, n5, y5, c5, t5⟩ := hf 5 _ rfl
  obtain ⟨z0, e0, _, _⟩ := DataW.trod_int Try.underlying3 t0
  obtain ⟨z1, e1, _, _⟩ := DataW.trod_int Try.underlying3 t1
  obtain ⟨z2, e2, _, _⟩ := DataW.trod_int Try.underlying3 t2
  obtain ⟨z3, e3, _, _⟩ := DataW.trod_int Try.underlying3 t3
  obtain ⟨z4, e4, _, _⟩ := DataW.trod_int Try.underlying3 t4
  obtain ⟨oa, m, c, rfl⟩ := slice_of Try.underlying46 t5
  obtain rfl : u0 = .int .i64 z0 := by simpa using e0
  obtain rfl : u1 = .int .i64 z1 := by simpa using e1
  obtain rfl : u2 = .int .i64 z2 := by simpa using e2
  obtain rfl : u3 = .int .i64 z3 := by simpa using e3
  obtain rfl : u4 = .int .i64 z4 := by simpa using e4
  refine ⟨z0, z1, z2, z3, z4, oa, m, c, ?_, trivial⟩
  congr 1
  simp only [List.size_toArray, List.length_cons, List.length_nil] at hsz
  apply Array.ext_getElem?
  intro j
  match j with
  | 0 => exact c0
  | 1 => exact c1
  | 2 => exact c2
  | 3 => exact c3
  | 4 => exact c4
  | 5 => exact c5
  | j + 6 => rw [Array.getElem?_eq_none (by omega), Array.getElem?_eq_none (by simp)]
end
end Go.Proofs.Ytappgelpigoknaa.InoW
