/- The walk of InodeSizes. -/
import Derived.Test.YtappgelpigoknaaInoNone
import Derived.Test.YtappgelpigoknaaRowAt
import Derived.Test.YtappgelpigoknaaHeld
namespace Go.Proofs.Ytappgelpigoknaa.InoW
set_option maxRecDepth 100000
open Go.RowKit InoP ExtW Go.ChangeShapes Go.WideShapes Go.Deep
def encP (k : IntKind) (x : Int × Int) : List Value := [.int k x.1, .int k x.2]
section
variable {H : Type} {enc : TypeId × Value → H} {P : Program} {w : World} {base b0 : Nat} {spare : Nat → Bool} {held : Bool} {r : Reach} {v : Value} {d : DataW H} {p : List MemPlace}
/-- pairs of numbers that came in -/
theorem open_pairs {k : IntKind} {t e ei : TypeId} (ht : P.underlying t = some (.slice e)) (he : P.underlying e = some (.array 2 ei)) (hei : P.underlying ei = some (.int k)) (hcei : P.cellsOf ei = 1) (hce : P.cellsOf e = 2)
    (hv : Value.okWide P w r b0 t v) (h : DataW.Trod enc P w base spare held t v d p) :
    ∃ (oa : Option Addr) (cap : Nat) (l : List (Int × Int)), v = .slice oa l.length cap ∧ KAt (encP k) 2 w.heap.size oa l w ∧ (∀ x ∈ l, (Lit.int k x.1).wf = true ∧ (Lit.int k x.2).wf = true) ∧ l.length ≤ maxLen := by
  obtain ⟨oa, len, cap, rfl⟩ := okWide_slice ht hv
  obtain ⟨fuel, hf⟩ := h
  rcases open_slice ht hf with ⟨hcs, _⟩ | ⟨a, len', cap', m, n, D, Pl, hcs, _, hl, hm, hmm, _, hi⟩
  · simp [Value.cells] at hcs
    obtain ⟨rfl, rfl, rfl⟩ := hcs
    exact ⟨none, 0, [], rfl, KAt.nil _ _ _, by simp, by simp⟩
  · simp [Value.cells] at hcs
    obtain ⟨rfl, rfl, rfl⟩ := hcs
    have key : ∀ i, ∃ x : Int × Int, ((Lit.int k x.1).wf = true ∧ (Lit.int k x.2).wf = true) ∧ (i < len → a.block < w.heap.size ∧ ∀ j u, (encP k x)[j]? = some u → w.cell? (fieldOf (a.add (i * 2)) j) = some u) := by
      intro i
      by_cases hil : i < len
      · have him : i < m := by rw [hmm]; split <;> omega
        obtain ⟨cs', hc, ht'⟩ := hi i him
        rw [hce] at hc
        obtain ⟨_, hcl, hat⟩ := World.cells?_some hc
        obtain ⟨xs, n', _, _, hl2, hxl, hg⟩ := DataW.trod_array he ht'
        rw [hcei] at hg
        have g0 := hg 0 (by omega)
        have g1 := hg 1 (by omega)
        match cs', hcl with
        | [u0, u1], _ =>
          simp only [Nat.zero_mul, List.drop_zero, List.take_succ_cons, List.take_zero, Nat.one_mul, List.drop_succ_cons] at g0 g1
          rw [List.getElem?_eq_getElem (by omega)] at g0 g1
          obtain ⟨z0, e0, _, w0⟩ := DataW.trod_int hei g0
          obtain ⟨z1, e1, _, w1⟩ := DataW.trod_int hei g1
          obtain rfl : u0 = .int k z0 := by simpa using e0
          obtain rfl : u1 = .int k z1 := by simpa using e1
          have c0 := hat 0 (by omega)
          have c1 := hat 1 (by omega)
          refine ⟨(z0, z1), ⟨w0, w1⟩, fun _ => ⟨?_, ?_⟩⟩
          · have := World.block_lt_of_cell? _ _ c0
            rw [add_block, add_block] at this
            exact this
          · intro j u hj
            rw [← fieldOf_add, ← Go.Deep.add_add]
            match j with
            | 0 => simp only [encP, List.getElem?_cons_zero, Option.some.injEq] at hj; rw [← hj]; exact c0
            | 1 => simp only [encP, List.getElem?_cons_succ, List.getElem?_cons_zero, Option.some.injEq] at hj; rw [← hj]; exact c1
            | j + 2 => simp [encP] at hj
      · have z : (Lit.int k 0).wf = true := by cases k <;> decide
        exact ⟨(0, 0), ⟨z, z⟩, fun h => absurd h hil⟩
    refine ⟨some a, cap, (List.range len).map (fun i => (key i).choose), by simp, fun i x hx => ?_, fun x hx => ?_, by simp; omega⟩
    · have hil : i < len := by have := (List.getElem?_eq_some_iff.1 hx).1; simpa using this
      obtain rfl : (key i).choose = x := by simpa [hil] using hx
      obtain ⟨h1, h2⟩ := (key i).choose_spec.2 hil
      exact ⟨a, rfl, h1, h2⟩
    · obtain ⟨i, _, rfl⟩ := List.mem_map.1 hx
      exact (key i).choose_spec.1
end
theorem open_u16s {H : Type} {enc : TypeId × Value → H} {w : World} {base b0 : Nat} {spare : Nat → Bool} {held : Bool} {r : Reach} {v : Value} {d : DataW H} {p : List MemPlace} (hv : Value.okWide Try.prog w r b0 22 v) (h : DataW.Trod enc Try.prog w base spare held 22 v d p) :
    ∃ (oa : Option Addr) (cap : Nat) (l : List (Int × Int)), v = .slice oa l.length cap ∧ KAt (encP .u16) 2 w.heap.size oa l w ∧ (∀ x ∈ l, (Lit.int .u16 x.1).wf = true ∧ (Lit.int .u16 x.2).wf = true) ∧ l.length ≤ maxLen :=
  open_pairs Try.underlying22 Try.underlying31 Try.underlying23 (by kernel_rfl) (by kernel_rfl) hv h
theorem pr_at {k : IntKind} {B : Nat} {oa : Option Addr} {l : List (Int × Int)} {w : World} (h : KAt (encP k) 2 B oa l w) {i : Nat} {x : Int × Int} (hx : l[i]? = some x) :
    ∃ a, oa = some a ∧ a.block < B ∧ w.cell? (a.add (i * 2)) = some (.int k x.1) ∧ w.cell? ⟨(a.add (i * 2)).block, (a.add (i * 2)).off + 1, none⟩ = some (.int k x.2) := by
  obtain ⟨a, h1, h2, h3⟩ := h i x hx
  exact ⟨a, h1, h2, h3 0 _ rfl, h3 1 _ rfl⟩
/-- the table with one file -/
def fileT (s : Int) (p : List Pt) : List Ino := [root, ⟨2, 2, 1, 0, s, p⟩]
theorem fileT_find (s : Int) (p : List Pt) : find (fileT s p) 2 = some ⟨2, 2, 1, 0, s, p⟩ := rfl
theorem cut_mem : ∀ {l : List Pt} {s : Int} {y : Pt}, y ∈ cutL l s → y.o + y.n ≤ s ∧ ∃ x ∈ l, y.o = x.o ∧ y.n ≤ x.n
  | [], _, _, h => by simp [cutL] at h
  | x :: l, s, y, h => by
    by_cases c : x.o < s
    · rw [cutL, if_pos c] at h
      rcases List.mem_cons.1 h with rfl | h
      · refine ⟨?_, x, by simp, rfl, ?_⟩
        · show x.o + min x.n (s - x.o) ≤ s; omega
        · show min x.n (s - x.o) ≤ x.n; omega
      · obtain ⟨h1, z, hz, h2⟩ := cut_mem h
        exact ⟨h1, z, by simp [hz], h2⟩
    · rw [cutL, if_neg c] at h
      obtain ⟨h1, z, hz, h2⟩ := cut_mem h
      exact ⟨h1, z, by simp [hz], h2⟩
/-- so far -/
structure Sz (w W : World) (tb b : Nat) (k : Nat) (s : Int) (p : List Pt) : Prop where
  t : TIs w tb b (fileT s p) 3
  few : p.length ≤ 2 * k
  below : Below W.heap.size W w
  s0 : 0 ≤ s ∧ s ≤ 8192
theorem Sz.write {w W : World} {tb b k : Nat} {s : Int} {p : List Pt} (h : Sz w W tb b k s p) (hk : k < 31) {off n : Int} (ho : 0 ≤ off ∧ off < 4000) (hn : 1 ≤ n ∧ n ≤ 1024) :
    writeE (fileT s p) 2 off n k = 0 ∧ ∃ p', writeL (fileT s p) 2 off n k = fileT (max s (off + n)) p' ∧ p'.length ≤ 2 * (k + 1) := by
  have hg : ExtW.Good p := (h.t.good.all ⟨2, 2, 1, 0, s, p⟩ (by simp [fileT])).p
  have h1 : ExtW.One ⟨off, n, k, 0⟩ := by unfold ExtW.One Whole; simp only; omega
  have hf := h.few
  obtain ⟨e, hl⟩ := put_few hg h1 (by omega)
  have hm : mayW off n = true := decide_eq_true ⟨ho.1, hn.1, hn.2, by omega⟩
  have e2 : writeE (fileT s p) 2 off n k = 0 := by
    show (if (2 : Int) = 1 then 63 else if mayW off n then spaceE (putE p ⟨off, n, k, 0⟩) else 67) = 0
    rw [if_neg (by decide), if_pos hm, e]; rfl
  refine ⟨e2, putL p ⟨off, n, k, 0⟩, ?_, by omega⟩
  unfold writeL
  rw [fileT_find]
  exact if_pos e2
theorem Sz.only {w w' W : World} {tb b k : Nat} {s : Int} {p : List Pt} (h : Sz w W tb b k s p) {k' : Nat} {s' : Int} {p' : List Pt} (ht : TIs w' tb b (fileT s' p') 3) (ho : Only b w w') (hb : W.heap.size ≤ b) (hf : p'.length ≤ 2 * k') (hs : 0 ≤ s' ∧ s' ≤ 8192) : Sz w' W tb b k' s' p' :=
  ⟨ht, hf, h.below.trans (ho.below hb h.below.size), hs⟩
theorem Sz.grow {w w' W : World} {tb b k : Nat} {s : Int} {p : List Pt} (h : Sz w W tb b k s p) (hb : Below w.heap.size w w') : Sz w' W tb b k s p :=
  ⟨h.t.grow hb, h.few, bstep h.below hb, h.s0⟩
theorem trunc_file (s : Int) (p : List Pt) (c : Int) (hc : 0 ≤ c ∧ c ≤ 8192) : truncE (fileT s p) 2 c = 0 ∧ truncL (fileT s p) 2 c = fileT c (cutL p c) := by
  have e : truncE (fileT s p) 2 c = 0 := by
    show (if (2 : Int) = 1 then 63 else if c < 0 ∨ 8192 < c then 67 else 0) = (0 : Int)
    rw [if_neg (by decide), if_neg (by omega)]
  refine ⟨e, ?_⟩
  unfold truncL
  rw [fileT_find]
  exact if_pos e
theorem wk_link1 : linkL wl1 2 1 = fileT 0 [] := by decide +kernel
set_option maxHeartbeats 3200000 in
theorem sizes_walk (oa : Option Addr) (cap : Nat) (l : List (Int × Int)) (hwf : ∀ x ∈ l, (Lit.int .u16 x.1).wf = true ∧ (Lit.int .u16 x.2).wf = true) (hlen : l.length ≤ maxLen) (cut : Int) (hcut : (Lit.int .u16 cut).wf = true) (W : World) (h : KAt (encP .u16) 2 W.heap.size oa l W) :
    Calls Try.prog 3 #[.slice oa l.length cap, .int .u16 cut] W fun e w' => e = .returned (.bool true) ∧ Below W.heap.size W w' := by
  have HP := Lib.hid h
  have HK := Lib.hid ok2
  have HL : Hid ((∀ x ∈ l, (Lit.int .u16 x.1).wf = true ∧ (Lit.int .u16 x.2).wf = true) ∧ l.length ≤ maxLen) := Lib.hid ⟨hwf, hlen⟩
  have hmx := hlen
  unfold maxLen at hmx
  clear h hwf hlen
  by_cases hbig : 30 < l.length
  · have hb1 : (30 : Int) < (l.length : Int) := by omega
    clear hbig
    go_enter Try.func3, Try.ntmps3
    go_wp2_with (first
      | (go_at_call 6; refine (new_any _).mono ?_; rintro e w1 ⟨rfl, h1, hb1⟩; have H1 := Lib.hid h1; have HB1 := Lib.hid hb1; clear h1 hb1)
      | (go_at_call 7; refine (make_any 2 _ H1.out).mono ?_; rintro e w2 ⟨rfl, h2, ho2⟩; rw [wk_make.1, wk_make.2.1]; rw [wk_make.2.2.1, wk_make.2.2.2] at h2; have H2 := Lib.hid h2; have HB2 := Lib.hid (HB1.out.trans (ho2.below (by omega) (by omega) HB1.out.size)); clear h2 ho2)
      | (go_at_call 8; refine (link_any 2 1 HK.out _ H2.out).mono ?_; rintro e w3 ⟨rfl, h3, ho3⟩; rw [wk_link.1]; have HB3 := Lib.hid (HB2.out.trans (ho3.below (by omega) HB2.out.size)); clear h3 ho3)
      | (go_at_call 9; refine (wakes_any _).mono ?_; rintro e w9 ⟨rfl, hb9⟩; have HB9 := Lib.hid (bstep HB3.out hb9); clear hb9))
    go_ret
    exact ⟨rfl, HB9.out⟩
  · have hb1 : decide ((30 : Int) < (l.length : Int)) = false := decide_eq_false (by omega)
    have HL30 : Hid (l.length ≤ 30) := Lib.hid (by omega)
    clear hbig hmx
    obtain ⟨hc1, hc2⟩ := u16_bd hcut
    clear hcut
    go_enter Try.func3, Try.ntmps3
    go_wp2_with (first
      | (go_at_call 6; refine (new_any _).mono ?_; rintro e w1 ⟨rfl, h1, hb1⟩; have H1 := Lib.hid h1; have HB1 := Lib.hid hb1; clear h1 hb1)
      | (go_at_call 7; refine (make_any 2 _ H1.out).mono ?_; rintro e w2 ⟨rfl, h2, ho2⟩; rw [wk_make.1, wk_make.2.1]; rw [wk_make.2.2.1, wk_make.2.2.2] at h2; have H2 := Lib.hid h2; have HB2 := Lib.hid (HB1.out.trans (ho2.below (by omega) (by omega) HB1.out.size)); clear h2 ho2)
      | (go_at_call 8; refine (link_any 2 1 HK.out _ H2.out).mono ?_; rintro e w3 ⟨rfl, h3, ho3⟩; rw [wk_link.1]; rw [wk_link1] at h3; have H3 : Hid (Sz w3 W (W.heap.size + 1) W.heap.size 0 0 []) := Lib.hid ⟨h3, by simp, HB2.out.trans (ho3.below (by omega) HB2.out.size), by omega⟩; clear h3 ho3))
    generalize W.heap.size + 1 = tb at *
    obtain ⟨b, hbb⟩ : ∃ b, b = W.heap.size := ⟨_, rfl⟩
    have HBB : Hid (W.heap.size ≤ b) := Lib.hid (by omega)
    have HZ : Hid (Sz w3 W tb b 0 0 []) := Lib.hid (by rw [hbb]; exact H3.out)
    clear H1 H2 H3 HB1 HB2 hbb
    go_loopw [8, 9] (fun sz i wr => ∃ (k : Nat) (s : Int) (p : List Pt), k ≤ l.length ∧ i = .int .i64 (k : Int) ∧ sz = .int .i64 s ∧ Sz wr W tb b k s p) (fun _ i _ => (l.length - intOf i).toNat)
    case atStart => exact ⟨0, 0, [], by omega, rfl, rfl, HZ.out⟩
    case round =>
      obtain ⟨k, s, p, hk, rfl, rfl, hz⟩ := hrel
      have HS := Lib.hid hz
      have hs := hz.s0
      have hl30 := HL30.out
      clear hz
      by_cases hlt : k < l.length
      · have hlt1 : (k : Int) < (l.length : Int) := by omega
        obtain ⟨x, hx⟩ : ∃ x, l[k]? = some x := ⟨_, List.getElem?_eq_getElem hlt⟩
        obtain ⟨x1, x2⟩ := x
        obtain ⟨a, rfl, hab, c0, c1⟩ := pr_at (HP.out.below HS.out.below) hx
        simp only at c0 c1
        obtain ⟨q1, q2⟩ := HL.out.1 _ (List.mem_of_getElem? hx)
        obtain ⟨q1a, q1b⟩ := u16_bd q1
        obtain ⟨q2a, q2b⟩ := u16_bd q2
        obtain ⟨off, hoff⟩ : ∃ off, (IntKind.i64.wrap x1).tmod 4000 = off := ⟨_, rfl⟩
        obtain ⟨n, hn⟩ : ∃ n, IntKind.i64.wrap (1 + (IntKind.i64.wrap x2).tmod 1024) = n := ⟨_, rfl⟩
        have HOFF : Hid (0 ≤ off ∧ off < 4000) := Lib.hid (by rw [← hoff, IntWalk.i64_in _ (by omega), Int.tmod_eq_emod_of_nonneg q1a]; omega)
        have HN : Hid (1 ≤ n ∧ n ≤ 1024) := Lib.hid (by
          have e : (IntKind.i64.wrap x2).tmod 1024 = x2 % 1024 := by rw [IntWalk.i64_in _ (by omega), Int.tmod_eq_emod_of_nonneg q2a]
          rw [← hn, e, IntWalk.i64_in _ (by omega)]; omega)
        have HE1 := Lib.hid hoff
        have HE2 := Lib.hid hn
        obtain ⟨s2, hs2⟩ : ∃ s2, max s (off + n) = s2 := ⟨_, rfl⟩
        have HW := Lib.hid (HS.out.write (by have := HL30.out; omega) HOFF.out HN.out)
        have HW1 := Lib.hid HW.out.1
        obtain ⟨p', hp', hpl⟩ := HW.out.2
        rw [hs2] at hp'
        have HW2 := Lib.hid hp'
        have HW3 := Lib.hid hpl
        have hwr : IntKind.i64.wrap (off + n) = off + n := IntWalk.i64_in _ (by have := HOFF.out; have := HN.out; omega)
        have hmx : (if s < off + n then off + n else s) = s2 := by rw [← hs2]; split <;> omega
        have HS2 : Hid (0 ≤ s2 ∧ s2 ≤ 8192) := Lib.hid (by have := HOFF.out; have := HN.out; omega)
        have HST : Hid (statX (fileT s2 p') 2 = ⟨2, 2, 1, 0, s2, p'⟩ ∧ statB (fileT s2 p') 2 = true) := Lib.hid ⟨rfl, rfl⟩
        clear hx q1 q2 hoff hn hp' hpl hs HW
        go_wp2_with fail
        refine held_below (by kernel_rfl) (by kernel_rfl) ?_
        repeat first
          | (refine held_skip ?_ ?_; (· first | rfl | (go_simp; done)); simp only [Act.put, List.setIfInBounds_toArray, List.set_cons_zero, List.set_cons_succ])
          | (refine held_val (v := ?_) ?_ ?_ ?_
             rotate_left
             · first | rfl | (go_simp; done)
             · intro wq hq
               have g0 := cell_step hq c0
               have g1 := cell_step hq c1
               go_simp
               with_reducible rfl
             simp only [Act.put, List.setIfInBounds_toArray, List.set_cons_zero, List.set_cons_succ])
        refine held_nil ?_
        intro w2 hb2
        rw [HE1.out, HE2.out]
        have HS3 := Lib.hid (HS.out.grow hb2)
        clear hb2 c0 c1
        go_wp2_with (first
          | (go_at_call 10; go_loud (refine (write_any 2 off n k HK.out _ HS3.out.t).mono ?_; rintro e w5 ⟨rfl, h5, ho5⟩; rw [HW1.out]; rw [HW2.out] at h5; have HS5 := Lib.hid (HS3.out.only (k' := k + 1) h5 ho5 HBB.out HW3.out HS2.out); clear h5 ho5))
          | (go_at_call 11; go_loud (refine (stat_any 2 HK.out _ HS5.out.t).mono ?_; rintro e w6 ⟨rfl, hb6⟩; rw [HST.out.1, HST.out.2]; have HS6 := Lib.hid (HS5.out.grow (bstep hb6 (below_alloc w6 (.cells #[.int .i64 2, .int .i64 2, .int .i64 1, .int .i64 s2] 34)))); clear hb6)))
        exact ⟨⟨k + 1, s2, p', by omega, by simp, rfl, HS6.out⟩, by simp [intOf]; omega⟩
      · obtain rfl : k = l.length := by omega
        have hwc : IntKind.i64.wrap cut = cut := IntWalk.i64_in _ (by omega)
        obtain ⟨c, hc⟩ : ∃ c, cut.tmod 8193 = c := ⟨_, rfl⟩
        have HC : Hid (0 ≤ c ∧ c ≤ 8192) := Lib.hid (by rw [← hc, Int.tmod_eq_emod_of_nonneg hc1]; omega)
        have HT1 : Hid (truncE (fileT s p) 2 c = 0 ∧ truncL (fileT s p) 2 c = fileT c (cutL p c)) := Lib.hid (trunc_file s p c HC.out)
        have HT2 : Hid (truncE (fileT c (cutL p c)) 2 8192 = 0 ∧ truncL (fileT c (cutL p c)) 2 8192 = fileT 8192 (cutL (cutL p c) 8192)) := Lib.hid (trunc_file _ _ 8192 (by omega))
        obtain ⟨pp, hpp⟩ : ∃ pp, cutL (cutL p c) 8192 = pp := ⟨_, rfl⟩
        rw [hpp] at HT2
        have HGP : Hid (ExtW.Good p) := Lib.hid (HS.out.t.good.all ⟨2, 2, 1, 0, s, p⟩ (by simp [fileT])).p
        have HPP : Hid (∀ y ∈ pp, (0 ≤ y.o ∧ 1 ≤ y.n ∧ y.n ≤ 1024) ∧ y.o + y.n ≤ c) := Lib.hid fun y hy => by
          rw [← hpp] at hy
          have h1 := (cut_ones (cut_ones (chain_ones HGP.out.2) c) 8192 y hy).small
          obtain ⟨_, z, hz, e1, e2⟩ := cut_mem hy
          obtain ⟨h3, x, hx, e3, e4⟩ := cut_mem hz
          omega
        have HPL : Hid (pp.length ≤ 64) := Lib.hid (by rw [← hpp]; have := cut_len (cutL p c) 8192; have := cut_len p c; have := HGP.out.1; omega)
        have HPART : Hid (partsL (fileT 8192 pp) 2 = pp) := Lib.hid rfl
        have HST : Hid (statX (fileT 8192 pp) 2 = ⟨2, 2, 1, 0, 8192, pp⟩ ∧ statB (fileT 8192 pp) 2 = true) := Lib.hid ⟨rfl, rfl⟩
        clear hlt hc1 hc2 hpp hs
        go_wp2_with (first
          | (with_reducible (have hz := HS5.out); go_at_call 12; go_loud (refine (trunc_any 2 8192 HK.out _ HS5.out.t).mono ?_; rintro e w6 ⟨rfl, h6, ho6⟩; rw [HT2.out.1]; rw [HT2.out.2] at h6; have HS6 := Lib.hid (HS5.out.only (k' := 32) h6 ho6 HBB.out (by have := HPL.out; omega) (by omega)); clear h6 ho6 hz))
          | (go_at_call 12; go_loud (refine (trunc_any 2 c HK.out _ HS.out.t).mono ?_; rintro e w5 ⟨rfl, h5, ho5⟩; rw [HT1.out.1]; rw [HT1.out.2] at h5; have HS5 := Lib.hid (HS.out.only (k' := 32) h5 ho5 HBB.out (by have := cut_len p c; have := HGP.out.1; omega) HC.out); clear h5 ho5))
          | (go_at_call 13; go_loud (refine (parts_any 2 HK.out _ HS6.out.t).mono ?_; rintro e w7 ⟨oa7, cap7, rfl, hr7, hb7⟩; rw [HPART.out] at hr7 ⊢; have HS7 := Lib.hid (HS6.out.grow hb7); have HPT := Lib.hid hr7.pts; clear hb7 hr7)))
        go_loopw [16] (fun i wr => ∃ m : Nat, m ≤ pp.length ∧ i = .int .i64 (m : Int) ∧ Below w7.heap.size w7 wr) (fun i _ => (pp.length - intOf i).toNat)
        case atStart => exact ⟨0, by omega, rfl, Below.refl _ _⟩
        case round =>
          obtain ⟨m, hm, rfl, hbm⟩ := hrel
          have HBM := Lib.hid hbm
          clear hbm
          have hl64 := HPL.out
          by_cases hlt : m < pp.length
          · have hlt1 : (m : Int) < (pp.length : Int) := by omega
            obtain ⟨y, hy⟩ : ∃ y, pp[m]? = some y := ⟨_, List.getElem?_eq_getElem hlt⟩
            obtain ⟨a7, rfl, ha7, d0, d1, _, _⟩ := (HPT.out.below HBM.out) m y hy
            obtain ⟨⟨y1, y2, y4⟩, y3⟩ := HPP.out y (List.mem_of_getElem? hy)
            have hcc := HC.out
            have hwy : IntKind.i64.wrap (y.o + y.n) = y.o + y.n := IntWalk.i64_in _ (by omega)
            have hyc : decide (c < y.o + y.n) = false := decide_eq_false (by omega)
            clear hy y1 y2 y3 y4 hcc
            go_wp2_with fail
            refine held_below (by kernel_rfl) (by kernel_rfl) ?_
            repeat first
              | (refine held_skip ?_ ?_; (· first | rfl | (go_simp; done)); simp only [Act.put, List.setIfInBounds_toArray, List.set_cons_zero, List.set_cons_succ])
              | (refine held_val (v := ?_) ?_ ?_ ?_
                 rotate_left
                 · first | rfl | (go_simp; done)
                 · intro wq hq
                   have g0 := cell_step hq d0
                   have g1 := cell_step hq d1
                   go_simp
                   with_reducible rfl
                 simp only [Act.put, List.setIfInBounds_toArray, List.set_cons_zero, List.set_cons_succ])
            refine held_nil ?_
            intro w2 hb2
            have HBM2 := Lib.hid (bstep HBM.out hb2)
            clear hb2 d0 d1
            go_wp2_with fail
            exact ⟨⟨m + 1, by omega, by simp, HBM2.out⟩, by simp [intOf]; omega⟩
          · have HS8 := Lib.hid (HS7.out.grow HBM.out)
            obtain rfl : m = pp.length := by omega
            clear hlt
            go_wp2_with (first
              | (go_at_call 11; go_loud (refine (stat_any 2 HK.out _ HS8.out.t).mono ?_; rintro e w9 ⟨rfl, hb9⟩; rw [HST.out.1, HST.out.2]; have HB9 := Lib.hid (bstep HS8.out.below (bstep hb9 (below_alloc w9 (.cells #[.int .i64 2, .int .i64 2, .int .i64 1, .int .i64 8192] 34)))); clear hb9))
              | (go_at_call 9; refine (wakes_any _).mono ?_; rintro e w10 ⟨rfl, hb10⟩; have HB10 := Lib.hid (bstep HB9.out hb10); clear hb10))
            go_ret
            exact ⟨rfl, HB10.out⟩
end Go.Proofs.Ytappgelpigoknaa.InoW
