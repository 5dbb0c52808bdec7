/- The table of inodes: Make, file, space, Stat, Next. -/
import Derived.Test.YtappgelpigoknaaInbLink
namespace Go.Proofs.Ytappgelpigoknaa.InoW
set_option maxRecDepth 100000
open Go.RowKit InoP ExtW
/-- only blocks c and b have turned, and what is new -/
structure Only2 (c b : Nat) (w w' : World) : Prop where
  os : w'.os = w.os
  tape : w'.tape = w.tape
  output : w'.output = w.output
  size : w.heap.size ≤ w'.heap.size
  block : ∀ k, k < w.heap.size → k ≠ c → k ≠ b → w'.heap[k]? = w.heap[k]?
theorem Only2.of {c b : Nat} {w w' : World} (h : Only b w w') : Only2 c b w w' := ⟨h.os, h.tape, h.output, h.size, fun k hk _ hb => h.block k hk (fun e => hb (by injection e))⟩
theorem Only2.ofC {c b : Nat} {w w' : World} (h : Only c w w') : Only2 c b w w' := ⟨h.os, h.tape, h.output, h.size, fun k hk hc _ => h.block k hk (fun e => hc (by injection e))⟩
theorem Only2.trans {c b : Nat} {a w x : World} (h : Only2 c b a w) (k : Only2 c b w x) : Only2 c b a x :=
  ⟨k.os.trans h.os, k.tape.trans h.tape, k.output.trans h.output, Nat.le_trans h.size k.size, fun i hi hc hb => (k.block i (Nat.lt_of_lt_of_le hi h.size) hc hb).trans (h.block i hi hc hb)⟩
theorem Only2.below {c b B : Nat} {w w' : World} (h : Only2 c b w w') (hc : B ≤ c) (hb : B ≤ b) (hw : B ≤ w.heap.size) : Below B w w' :=
  ⟨h.os, h.tape, h.output, h.size, fun k hk => h.block k (by omega) (by omega) (by omega)⟩
variable {tb b : Nat} {L : List Ino} {next : Int}
theorem space_any (e : Int) (w : World) : Calls Try.prog 34 #[.int .i64 e] w fun r w' => r = .returned (.int .i64 (spaceE e)) ∧ w = w' := by
  by_cases h : e = 3
  · subst h
    go_enter Try.func34, Try.ntmps34
    go_wp2_with fail
    go_ret
    exact ⟨rfl, rfl⟩
  · have h2 : (e == 3) = false := by rw [beq_eq_false_iff_ne]; exact h
    have HE : Hid (spaceE e = e) := Lib.hid (if_neg h)
    clear h
    go_enter Try.func34, Try.ntmps34
    go_wp2_with fail
    go_ret
    exact ⟨ret_int HE.out.symm, rfl⟩
theorem next_any (w : World) (h : TIs w tb b L next) : Calls Try.prog 22 #[.pointer (some ⟨tb, 0, none⟩)] w fun e w' => e = .returned (.int .i64 next) ∧ w = w' := by
  have h1 := h.m0.2.1
  clear h
  go_enter Try.func22, Try.ntmps22
  go_wp2_with fail
  go_ret
  exact ⟨rfl, rfl⟩
theorem make_no {k : Int} (e : Int) (h : makeE L next k = e) (h0 : e ≠ 0) : makeE L next k = e ∧ makeI L next k = 0 ∧ makeL L next k = L ∧ makeN L next k = next := by
  unfold makeI makeL makeN
  rw [h, if_neg h0, if_neg h0, if_neg h0]
  exact ⟨rfl, rfl, rfl, rfl⟩
theorem make_yes {k : Int} (h : makeE L next k = 0) : makeE L next k = 0 ∧ makeI L next k = next ∧ makeL L next k = L ++ [⟨next, k, 0, 0, 0, []⟩] ∧ makeN L next k = next + 1 := by
  unfold makeI makeL makeN
  rw [h]
  exact ⟨rfl, rfl, rfl, rfl⟩
theorem TIs.made {w w5 : World} {n m : Nat} {g : Int → Option IV} {k : Int} (h : TIs w tb b L next) (o : Op w tb b n g L next) (hk : k = 1 ∨ k = 2) (hl : L.length < 64 ∧ next < 2147483647)
    (hm : TmIs w5 b m (fun z => if z = next then some ⟨next, k, 0, 0, 0, none, 0, 0⟩ else g z)) (ho : Only b w w5) :
    TIs (w5.setCell ⟨tb, 1, none⟩ (.int .i64 (next + 1))) tb b (L ++ [⟨next, k, 0, 0, 0, []⟩]) (next + 1) ∧ Only2 tb b w (w5.setCell ⟨tb, 1, none⟩ (.int .i64 (next + 1))) := by
  have hh := Only.heap ho h.head h.ne
  have hos : Only tb w5 (w5.setCell ⟨tb, 1, none⟩ (.int .i64 (next + 1))) := (Only.refl tb w5).setCell 1 _
  have e := find_snoc L ⟨next, k, 0, 0, 0, []⟩ h.good.find_next
  refine ⟨⟨?_, ⟨m, _, MapIs.only hm hos (fun e => h.ne e.symm), fun i hi => ?_, fun i x hx => ?_⟩, h.good.snoc hk hl.1 hl.2⟩, (Only2.of ho).trans (Only2.ofC hos)⟩
  · rw [heap_setCell_same w5 tb 1 _ _ _ hh]; rfl
  · rw [e] at hi
    by_cases c : i = next
    · simp [c] at hi
    · simp only [if_neg c] at hi ⊢; exact o.no i hi
  · rw [e] at hx
    by_cases c : i = next
    · simp only [if_pos c] at hx ⊢
      injection hx with hx
      exact ⟨_, rfl, hx ▸ ⟨rfl, rfl, rfl, rfl, rfl, rfl, fun j z hz => by simp at hz, fun a ha => by simp at ha, fun _ => ⟨rfl, rfl⟩, fun a ha => by simp at ha⟩⟩
    · simp only [if_neg c] at hx ⊢
      obtain ⟨y, hy, hr⟩ := o.yes i x hx
      exact ⟨y, hy, (hr.only ho (.inr rfl)).only hos (.inl rfl)⟩
set_option maxHeartbeats 1600000 in
theorem make_any (k : Int) (w : World) (h : TIs w tb b L next) :
    Calls Try.prog 7 #[.pointer (some ⟨tb, 0, none⟩), .int .i64 k] w fun e w' => e = .returned (.tuple #[.int .i64 (makeI L next k), .int .i64 (makeE L next k)]) ∧ TIs w' tb b (makeL L next k) (makeN L next k) ∧ Only2 tb b w w' := by
  have H := Lib.hid h
  obtain ⟨n, g, o⟩ := h.op
  have OP := Lib.hid o
  have hlm := h.len
  obtain ⟨m0, m1, f0, f1⟩ := h.m0
  have hnx := h.good.next
  clear h o
  by_cases hk : k = 1 ∨ k = 2
  · by_cases hfull : 64 ≤ L.length ∨ 2147483647 ≤ next
    · have HE : Hid (makeE L next k = 67 ∧ makeI L next k = 0 ∧ makeL L next k = L ∧ makeN L next k = next) := Lib.hid (make_no 67 (by unfold makeE; exact (if_pos hk).trans (if_pos hfull)) (by decide))
      have hcs : (64 : Int) ≤ (L.length : Nat) ∨ decide ((64 : Int) ≤ (L.length : Nat)) = false ∧ 2147483647 ≤ next := by
        by_cases hc : (64 : Int) ≤ (L.length : Nat)
        · exact .inl hc
        · exact .inr ⟨decide_eq_false hc, by omega⟩
      clear hfull
      rcases hk with rfl | rfl
      all_goals
        rcases hcs with h1 | ⟨h1, h2⟩
        all_goals
          go_enter Try.func7, Try.ntmps7
          go_wp2_with fail
          go_ret2
          exact ⟨by rw [HE.out.1, HE.out.2.1]; rfl, by rw [HE.out.2.2.1, HE.out.2.2.2]; exact H.out, Only2.of (Only.refl _ _)⟩
    · have HE : Hid (makeE L next k = 0 ∧ makeI L next k = next ∧ makeL L next k = L ++ [⟨next, k, 0, 0, 0, []⟩] ∧ makeN L next k = next + 1) := Lib.hid (make_yes (by unfold makeE; exact (if_pos hk).trans (if_neg hfull)))
      have h1 : decide ((64 : Int) ≤ (L.length : Nat)) = false := decide_eq_false (by omega)
      have h2 : decide (2147483647 ≤ next) = false := decide_eq_false (by omega)
      have hw : IntKind.i64.wrap (next + 1) = next + 1 := IntWalk.i64_in _ (by omega)
      have hw2 : IntKind.i64.wrap next = next := IntWalk.i64_in _ (by omega)
      have HI : Hid (iOk next) := Lib.hid (iOk_of (by omega))
      have HLEN : Hid (L.length < 64 ∧ next < 2147483647) := Lib.hid (by omega)
      have hcs : k = 1 ∨ k = 2 := hk
      clear hfull hk hnx
      rcases hcs with rfl | rfl
      · go_enter Try.func7, Try.ntmps7
        go_wp2_with fail
        go_still_tail 14, (by kernel_rfl)
        clear m0 m1 f0 f1 hlm h1 h2
        go_wp2_with (at_mapUpdate; go_loud (refine wpList_map_store _ rfl _ _ _ 69 62 rfl iMK Try.underlying69 b n g (MapIs.drew OP.out.m) (by rfl) next ⟨next, 1, 0, 0, 0, none, 0, 0⟩ HI.out (by rfl) (by rfl) ?_; intro w5 hm5 ho5 hs5; have HM5 := Lib.hid hm5; have HO5 : Hid (Only b w w5) := Lib.hid (only_undrew (w := w) ho5); have hh5 := Only.heap HO5.out H.out.head H.out.ne; have m1 := (new_cells hh5 1 (by simp)).1; have f1 := (new_cells hh5 1 (by simp)).2; simp only [List.getElem_toArray, List.getElem_cons_zero, List.getElem_cons_succ] at m1; clear hm5 ho5 hs5 hh5))
        go_ret2
        obtain ⟨q1, q2⟩ := H.out.made OP.out (by decide) HLEN.out HM5.out HO5.out
        exact ⟨by rw [HE.out.1, HE.out.2.1]; rfl, by rw [HE.out.2.2.1, HE.out.2.2.2]; exact q1, q2⟩
      · go_enter Try.func7, Try.ntmps7
        go_wp2_with fail
        go_still_tail 14, (by kernel_rfl)
        clear m0 m1 f0 f1 hlm h1 h2
        go_wp2_with (at_mapUpdate; go_loud (refine wpList_map_store _ rfl _ _ _ 69 62 rfl iMK Try.underlying69 b n g (MapIs.drew OP.out.m) (by rfl) next ⟨next, 2, 0, 0, 0, none, 0, 0⟩ HI.out (by rfl) (by rfl) ?_; intro w5 hm5 ho5 hs5; have HM5 := Lib.hid hm5; have HO5 : Hid (Only b w w5) := Lib.hid (only_undrew (w := w) ho5); have hh5 := Only.heap HO5.out H.out.head H.out.ne; have m1 := (new_cells hh5 1 (by simp)).1; have f1 := (new_cells hh5 1 (by simp)).2; simp only [List.getElem_toArray, List.getElem_cons_zero, List.getElem_cons_succ] at m1; clear hm5 ho5 hs5 hh5))
        go_ret2
        obtain ⟨q1, q2⟩ := H.out.made OP.out (by decide) HLEN.out HM5.out HO5.out
        exact ⟨by rw [HE.out.1, HE.out.2.1]; rfl, by rw [HE.out.2.2.1, HE.out.2.2.2]; exact q1, q2⟩
  · have HE : Hid (makeE L next k = 1 ∧ makeI L next k = 0 ∧ makeL L next k = L ∧ makeN L next k = next) := Lib.hid (make_no 1 (by unfold makeE; exact if_neg hk) (by decide))
    have h1 : (k != 1) = true := by rw [bne_iff_ne]; omega
    have h2 : (k != 2) = true := by rw [bne_iff_ne]; omega
    clear hk
    go_enter Try.func7, Try.ntmps7
    go_wp2_with fail
    go_ret2
    exact ⟨by rw [HE.out.1, HE.out.2.1]; rfl, by rw [HE.out.2.2.1, HE.out.2.2.2]; exact H.out, Only2.of (Only.refl _ _)⟩
theorem below_setRow {B g : Nat} {w w' : World} (h : Below B w w') (hg : B ≤ g) (cs : Array Value) : Below B w (w'.setRow g cs) :=
  ⟨h.os, h.tape, h.output, by rw [setRow_size]; exact h.size, fun k hk => (setRow_other w' g k cs (by omega)).trans (h.block k hk)⟩
theorem file_bad (i e : Int) (hi : iOk i) (he : fileE L i = e) (h0 : e ≠ 0) (w : World) (h : TIs w tb b L next) :
    Calls Try.prog 32 #[.pointer (some ⟨tb, 0, none⟩), .int .i64 i] w fun r w' => r = .returned (.tuple #[.agg #[.int .i64 0, .int .i64 0, .int .i64 0, .int .i64 0, .int .i64 0, .slice none 0 0], .int .i64 e]) ∧ Below w.heap.size w w' := by
  unfold fileE at he
  have HB0 := Lib.hid (below_alloc w (.cells #[.int .i64 0, .int .i64 0, .int .i64 0, .int .i64 0, .int .i64 0, .slice none 0 0] 62))
  rcases h.all i with ⟨hf, hget⟩ | ⟨x, yi, yk, yl, yo, ys, oa, n, c, hf, hg, hr, hget⟩
  · rw [hf] at he
    obtain rfl : (60 : Int) = e := he
    have HC := Lib.hid (hget _ HB0.out hi)
    clear h hi hf hget h0
    go_enter Try.func32, Try.ntmps32
    go_wp2_with (first
      | (go_at_call 30; refine HC.out.mono ?_; rintro e w2 ⟨rfl, hb2⟩; have HB2 := Lib.hid hb2; clear hb2)
      | (refine wpList_store_row rfl 62 (Operand.tmp 4) _ rfl w.heap.size _ rfl rfl 62 _ ((heap_alloc_old _ _ (lt_of_block (new_kept HB2.out))).trans (new_kept HB2.out)) inoSize rfl (by simp [Value.oneCell']) ?_))
    try simp only [Exit.inBlock, Exit.then]
    refine ret_row (p := 4) (u := 5) rfl rfl rfl (setRow_heap _ _ _ _ _ _ ((heap_alloc_old _ _ (lt_of_block (new_kept HB2.out))).trans (new_kept HB2.out))) Try.underlying62 rfl inoSize ?_
    exact ⟨rfl, below_setRow (bstep (bstep HB0.out HB2.out) (below_alloc _ _)) (Nat.le_refl _) _⟩
  · rw [hf] at he
    have hk : x.k = 1 := by
      simp only at he
      by_cases c : x.k = 1
      · exact c
      · rw [if_neg c] at he; exact absurd he.symm h0
    obtain rfl : (63 : Int) = e := by simpa [hk] using he
    have hyk := hr.k
    simp only at hyk
    obtain rfl : yk = 1 := hyk.trans hk
    have HC := Lib.hid (hget _ HB0.out)
    clear h hi hf hget h0 hg hr hyk he hk
    go_enter Try.func32, Try.ntmps32
    go_wp2_with (first
      | (go_at_call 30; refine HC.out.mono ?_; rintro e w2 ⟨rfl, hb2⟩; have HB2 := Lib.hid hb2; clear hb2)
      | (refine wpList_store_row rfl 62 (Operand.tmp 4) _ rfl w.heap.size _ rfl rfl 62 _ ((heap_alloc_old _ _ (lt_of_block (new_kept HB2.out))).trans (new_kept HB2.out)) inoSize rfl (by simp [Value.oneCell']) ?_))
    try simp only [Exit.inBlock, Exit.then]
    refine ret_row (p := 4) (u := 5) rfl rfl rfl (setRow_heap _ _ _ _ _ _ ((heap_alloc_old _ _ (lt_of_block (new_kept HB2.out))).trans (new_kept HB2.out))) Try.underlying62 rfl inoSize ?_
    exact ⟨rfl, below_setRow (bstep (bstep HB0.out HB2.out) (below_alloc _ _)) (Nat.le_refl _) _⟩
theorem file_ok (i : Int) (he : fileE L i = 0) (w : World) (h : TIs w tb b L next) :
    ∃ x yi yk yl yo ys oa n c, find L i = some x ∧ x.k ≠ 1 ∧ IGood x ∧ IRel w tb b x ⟨yi, yk, yl, yo, ys, oa, n, c⟩ ∧
      Calls Try.prog 32 #[.pointer (some ⟨tb, 0, none⟩), .int .i64 i] w fun r w' => r = .returned (.tuple #[.agg #[.int .i64 yi, .int .i64 yk, .int .i64 yl, .int .i64 yo, .int .i64 ys, .slice oa n c], .int .i64 0]) ∧ Below w.heap.size w w' := by
  unfold fileE at he
  have HB0 := Lib.hid (below_alloc w (.cells #[.int .i64 0, .int .i64 0, .int .i64 0, .int .i64 0, .int .i64 0, .slice none 0 0] 62))
  rcases h.all i with ⟨hf, _⟩ | ⟨x, yi, yk, yl, yo, ys, oa, n, c, hf, hg, hr, hget⟩
  · rw [hf] at he; cases he
  · rw [hf] at he
    have hk : x.k ≠ 1 := fun e => by simp [e] at he
    have hyk := hr.k
    simp only at hyk
    have hk1 : (yk == 1) = false := by rw [beq_eq_false_iff_ne, hyk]; exact hk
    have HC := Lib.hid (hget _ HB0.out)
    refine ⟨x, yi, yk, yl, yo, ys, oa, n, c, hf, hk, hg, hr, ?_⟩
    clear h hf hget hg hr hyk he hk
    go_enter Try.func32, Try.ntmps32
    go_wp2_with (first
      | (go_at_call 30; refine HC.out.mono ?_; rintro e w2 ⟨rfl, hb2⟩; have HB2 := Lib.hid hb2; clear hb2)
      | (refine wpList_store_row rfl 62 (Operand.tmp 4) _ rfl w.heap.size _ rfl rfl 62 _ ((heap_alloc_old _ _ (lt_of_block (new_kept HB2.out))).trans (new_kept HB2.out)) inoSize rfl (by simp [Value.oneCell']) ?_))
    try simp only [Exit.inBlock, Exit.then]
    refine ret_row (p := 4) (u := 5) rfl rfl rfl (setRow_heap _ _ _ _ _ _ ((heap_alloc_old _ _ (lt_of_block (new_kept HB2.out))).trans (new_kept HB2.out))) Try.underlying62 rfl inoSize ?_
    exact ⟨rfl, below_setRow (bstep (bstep HB0.out HB2.out) (below_alloc _ _)) (Nat.le_refl _) _⟩
end Go.Proofs.Ytappgelpigoknaa.InoW
