/- Lists of inodes: the document's own (Own). -/
import Derived.Test.YtappgelpigoknaaInbList
namespace Go.Proofs.Ytappgelpigoknaa.InoW
set_option maxRecDepth 100000
open Go.RowKit InoP ExtW
/-- append of a slice that is there, as an operation; which block the row lies in then -/
theorem wp_append_at (d : Option Tmp) {P : Program} {o : Oper} {a : Act} {K : Act → World → Prop} {Q : Exit → Act → World → Prop} (hd : o.dst = d) (s x : Operand) (t : TypeId)
    (ho : o.op = .call { callee := .builtin .append, args := #[s, x], argTypes := #[t, t] })
    (base : Nat) (e : TypeId) (i : TypeInfo) (z : Value) (size bytes : Nat) (ht : P.underlying t = some (.slice e)) (hi : P.info? e = some i) (hz : i.zero = some z)
    (hsize : i.size = size) (hby : i.bytes = bytes) (hzs : z.cells.size = size) (hsz : 0 < size)
    (W : World) (v : Value) (n : Nat) (xs : List Value) (hs : a.eval s = v) (hown : W.ownsRow base e size v n xs)
    (ad : Addr) (m c : Nat) (news : List Value) (hx : a.eval x = .slice (some ad) m c)
    (hl : news.length = m * size) (hnews : ∀ j u, news[j]? = some u → W.cell? (ad.add j) = some u) (h1 : ∀ u ∈ news, u.oneCell' = true)
    (h63 : n + m ≤ maxLen) (hbytes : (n + m) * bytes ≤ 140737488355328) (hbase : base ≤ W.heap.size)
    (h : ∀ oa' cap' w', w'.ownsRow base e size (.slice oa' (n + m) cap') (n + m) (xs ++ news) → W.grownBy w' v.ownBlock → ((Value.slice oa' (n + m) cap').ownBlock = v.ownBlock ∨ (Value.slice oa' (n + m) cap').ownBlock = some W.heap.size) → K (a.put d (.slice oa' (n + m) cap')) w') : o.wp P a W K Q := by
  subst hd
  obtain ⟨v', w', hr, h2, h3, _, h5⟩ := run_append_own_at (P := P) W base t o.type e i z size bytes ht hi hz hsize hby hzs hsz v n xs hown ad m c news hl hnews h1 h63 hbytes hbase
  obtain ⟨oa', cap', rfl⟩ := row_form h2
  unfold Oper.wp execOp
  simp only [ho, resolve, invoke, builtin, Sem.run_bind, Sem.run_pure, Result.andThen_ok, List.map_toArray, List.map_cons, List.map_nil, hs, hx, hr]
  exact h oa' cap' w' h2 h3 h5
theorem rino_info : (Try.prog.info? 82).map (fun i => (i.zero, i.size, i.bytes)) = some (some (.agg #[.int .i64 0, .int .i64 0, .int .i64 0, .int .i64 0, .int .i64 0, .slice none 0 0]), 6, 64) := by kernel_rfl
theorem IBox.below {w0 w' : World} {b : Nat} {y : IV} (h : IBox w0 b y) (k : Below w0.heap.size w0 w') : IBox w' b y := (k.block b (lt_of_block h)).trans h
set_option maxHeartbeats 6400000 in
theorem own_any (oa : Option Addr) (cap : Nat) (xs : List Ino) (ys : List IV) (hp : ∀ x ∈ xs, x.p.length ≤ 100000) (hl : xs.length ≤ 100000) (W : World) (h : IList W oa xs ys) :
    Calls Try.prog 24 #[.slice oa xs.length cap] W fun e w' => ∃ oa' cap' zs, e = .returned (.slice oa' xs.length cap') ∧ RowI 82 W.heap.size w' (.slice oa' xs.length cap') xs zs ∧ Below W.heap.size W w' := by
  obtain ⟨i0, hi, hz0, hz1, hz2⟩ := info_parts rino_info
  obtain ⟨j0, hj, gz0, gz1, gz2⟩ := info_parts partinfo
  have H := Lib.hid h
  have HPL := Lib.hid hp
  have hlen := h.read.1
  clear h hp
  go_enter Try.func24, Try.ntmps24
  go_wp2_with fail
  go_loopw [3, 4] (fun v i wr => ∃ (k : Nat) (zs : List IV), k ≤ xs.length ∧ i = .int .i64 (k : Int) ∧ RowI 82 W.heap.size wr v (xs.take k) zs ∧ Below W.heap.size W wr) (fun _ i _ => (xs.length - intOf i).toNat)
  case atStart => exact ⟨0, [], by omega, rfl, RowI.nil _ _ _, Below.refl _ _⟩
  case round =>
    obtain ⟨k, zs, hk, rfl, hrow, hbel⟩ := hrel
    have HB := Lib.hid hbel
    have HZ : Hid (zs.length = k) := Lib.hid (by rw [hrow.read.1, List.length_take]; omega)
    obtain ⟨oz, cz, rfl, hcz, _, _⟩ := hrow.row.form
    have hzk := HZ.out
    rw [hzk] at hrow hcz ⊢
    have HRI := Lib.hid hrow
    have HROW := Lib.hid hrow.row
    clear hbel hrow hzk
    by_cases hlt : k < xs.length
    · obtain ⟨x, hx⟩ : ∃ x, xs[k]? = some x := ⟨_, List.getElem?_eq_getElem hlt⟩
      obtain ⟨y, hy⟩ : ∃ y, ys[k]? = some y := ⟨_, List.getElem?_eq_getElem (by omega)⟩
      obtain ⟨yi, yk, yl, yo, ys', ya, yn, yc⟩ := y
      have HH := Lib.hid (H.out.grow HB.out)
      have hr := HH.out.read.2 k x _ hx hy
      obtain ⟨a, rfl, _, c0, c1, c2, c3, c4, c5⟩ := iv_at HH.out.at_ hy
      simp only at c0 c1 c2 c3 c4 c5
      obtain rfl : yn = x.p.length := hr.n
      have HR := Lib.hid hr
      have HPX : Hid (x.p.length ≤ 100000) := Lib.hid (HPL.out x (List.mem_of_getElem? hx))
      have HTX := Lib.hid (take_snocI hx)
      clear hx hy hr
      go_wp2_with fail
      have HBX : Hid (IBox (wr.alloc (.cells #[.int .i64 yi, .int .i64 yk, .int .i64 yl, .int .i64 yo, .int .i64 ys', .slice ya x.p.length yc] 62)) wr.heap.size ⟨yi, yk, yl, yo, ys', ya, x.p.length, yc⟩) := Lib.hid (heap_alloc_new wr _)
      have HBW := Lib.hid (below_alloc wr (.cells #[.int .i64 yi, .int .i64 yk, .int .i64 yl, .int .i64 yo, .int .i64 ys', .slice ya x.p.length yc] 62))
      generalize wr.alloc (.cells #[.int .i64 yi, .int .i64 yk, .int .i64 yl, .int .i64 yo, .int .i64 ys', .slice ya x.p.length yc] 62) = w at *
      obtain ⟨xb, hxb⟩ : ∃ xb, xb = wr.heap.size := ⟨_, rfl⟩
      rw [← hxb] at HBX ⊢
      have HXB := Lib.hid hxb
      have HS0 : Hid (IBox w.drew xb ⟨yi, yk, yl, yo, ys', ya, x.p.length, yc⟩) := Lib.hid HBX.out
      have HPT := Lib.hid ((HR.out.pts.grow HBW.out).grow (below_alloc w (.cells #[] 40)).drew)
      have HW := Lib.hid (show W.heap.size ≤ w.heap.size by have := HB.out.size; have := HBW.out.size; omega)
      have hpx := HPX.out
      clear c0 c1 c2 c3 c4 c5 hxb
      refine regionL 18 19 (fun w' => IBox w' xb ⟨yi, yk, yl, yo, ys', ya, x.p.length, yc⟩) (by kernel_rfl) rfl ?_
      refine takeL 0 (some 16) (v := ?_) rfl (by kernel_rfl) (by kernel_rfl) (by kernel_rfl) (by kernel_rfl) (fun _ _ _ h => h) rfl rfl HS0.out ?_ ?_
      rotate_left
      · intro wq hq
        obtain ⟨g0, g1, g2, g3, g4, g5⟩ := IBox.cells hq
        go_simp
        with_reducible rfl
      simp only [Act.put, List.setIfInBounds_toArray, List.set_cons_zero, List.set_cons_succ]
      refine takeL 1 (some 17) (v := ?_) rfl (by kernel_rfl) (by kernel_rfl) (by kernel_rfl) (by kernel_rfl) (fun _ _ _ h => h) rfl rfl HS0.out ?_ ?_
      rotate_left
      · intro wq hq
        obtain ⟨g0, g1, g2, g3, g4, g5⟩ := IBox.cells hq
        go_simp
        with_reducible rfl
      simp only [Act.put, List.setIfInBounds_toArray, List.set_cons_zero, List.set_cons_succ]
      refine takeL 2 (some 18) (v := ?_) rfl (by kernel_rfl) (by kernel_rfl) (by kernel_rfl) (by kernel_rfl) (fun _ _ _ h => h) rfl rfl HS0.out ?_ ?_
      rotate_left
      · intro wq hq
        obtain ⟨g0, g1, g2, g3, g4, g5⟩ := IBox.cells hq
        go_simp
        with_reducible rfl
      simp only [Act.put, List.setIfInBounds_toArray, List.set_cons_zero, List.set_cons_succ]
      refine takeL 3 (some 19) (v := ?_) rfl (by kernel_rfl) (by kernel_rfl) (by kernel_rfl) (by kernel_rfl) (fun _ _ _ h => h) rfl rfl HS0.out ?_ ?_
      rotate_left
      · intro wq hq
        obtain ⟨g0, g1, g2, g3, g4, g5⟩ := IBox.cells hq
        go_simp
        with_reducible rfl
      simp only [Act.put, List.setIfInBounds_toArray, List.set_cons_zero, List.set_cons_succ]
      refine takeL 4 (some 20) (v := ?_) rfl (by kernel_rfl) (by kernel_rfl) (by kernel_rfl) (by kernel_rfl) (fun _ _ _ h => h) rfl rfl HS0.out ?_ ?_
      rotate_left
      · intro wq hq
        obtain ⟨g0, g1, g2, g3, g4, g5⟩ := IBox.cells hq
        go_simp
        with_reducible rfl
      simp only [Act.put, List.setIfInBounds_toArray, List.set_cons_zero, List.set_cons_succ]
      refine takeL 5 (some 21) (v := ?_) rfl (by kernel_rfl) (by kernel_rfl) (by kernel_rfl) (by kernel_rfl) (fun _ _ _ h => h) rfl rfl HS0.out ?_ ?_
      rotate_left
      · intro wq hq
        obtain ⟨g0, g1, g2, g3, g4, g5⟩ := IBox.cells hq
        go_simp
        with_reducible rfl
      simp only [Act.put, List.setIfInBounds_toArray, List.set_cons_zero, List.set_cons_succ]
      refine takeL 6 (some 22) (v := ?_) rfl (by kernel_rfl) (by kernel_rfl) (by kernel_rfl) (by kernel_rfl) (fun _ _ _ h => h) rfl rfl HS0.out ?_ ?_
      rotate_left
      · intro wq hq
        obtain ⟨g0, g1, g2, g3, g4, g5⟩ := IBox.cells hq
        go_simp
        with_reducible rfl
      simp only [Act.put, List.setIfInBounds_toArray, List.set_cons_zero, List.set_cons_succ]
      refine takeL 7 (some 23) (v := ?_) rfl (by kernel_rfl) (by kernel_rfl) (by kernel_rfl) (by kernel_rfl) (fun _ _ _ h => h) rfl rfl HS0.out ?_ ?_
      rotate_left
      · intro wq hq
        obtain ⟨g0, g1, g2, g3, g4, g5⟩ := IBox.cells hq
        go_simp
        with_reducible rfl
      simp only [Act.put, List.setIfInBounds_toArray, List.set_cons_zero, List.set_cons_succ]
      refine takeL 8 (some 24) (v := ?_) rfl (by kernel_rfl) (by kernel_rfl) (by kernel_rfl) (by kernel_rfl) (fun _ _ _ h => h) rfl rfl HS0.out ?_ ?_
      rotate_left
      · intro wq hq
        obtain ⟨g0, g1, g2, g3, g4, g5⟩ := IBox.cells hq
        go_simp
        with_reducible rfl
      simp only [Act.put, List.setIfInBounds_toArray, List.set_cons_zero, List.set_cons_succ]
      refine takeL 9 (some 25) (v := ?_) rfl (by kernel_rfl) (by kernel_rfl) (by kernel_rfl) (by kernel_rfl) (fun _ _ _ h => h) rfl rfl HS0.out ?_ ?_
      rotate_left
      · intro wq hq
        obtain ⟨g0, g1, g2, g3, g4, g5⟩ := IBox.cells hq
        go_simp
        with_reducible rfl
      simp only [Act.put, List.setIfInBounds_toArray, List.set_cons_zero, List.set_cons_succ]
      refine takeL 10 (some 26) (v := ?_) rfl (by kernel_rfl) (by kernel_rfl) (by kernel_rfl) (by kernel_rfl) (fun _ _ _ h => h) rfl rfl HS0.out ?_ ?_
      rotate_left
      · intro wq hq
        obtain ⟨g0, g1, g2, g3, g4, g5⟩ := IBox.cells hq
        go_simp
        with_reducible rfl
      simp only [Act.put, List.setIfInBounds_toArray, List.set_cons_zero, List.set_cons_succ]
      refine takeL 12 (some 28) (v := ?_) rfl (by kernel_rfl) (by kernel_rfl) (by kernel_rfl) (by kernel_rfl) (fun _ _ _ h => h) rfl rfl HS0.out ?_ ?_
      rotate_left
      · intro wq hq
        obtain ⟨g0, g1, g2, g3, g4, g5⟩ := IBox.cells hq
        go_simp
        with_reducible rfl
      simp only [Act.put, List.setIfInBounds_toArray, List.set_cons_zero, List.set_cons_succ]
      refine takeL 13 (some 29) (v := ?_) rfl (by kernel_rfl) (by kernel_rfl) (by kernel_rfl) (by kernel_rfl) (fun _ _ _ h => h) rfl rfl HS0.out ?_ ?_
      rotate_left
      · intro wq hq
        obtain ⟨g0, g1, g2, g3, g4, g5⟩ := IBox.cells hq
        go_simp
        with_reducible rfl
      simp only [Act.put, List.setIfInBounds_toArray, List.set_cons_zero, List.set_cons_succ]
      refine oneL 11 (by kernel_rfl) rfl rfl (wp_runs (some 27) (v := .slice (some ⟨w.heap.size, 0, none⟩) 0 0) (w' := (w.alloc (.cells #[] 40)).drew) rfl (by go_simp) ⟨fun _ => HBX.out.below (below_alloc w _).drew, ?_⟩)
      simp only [Act.put, List.setIfInBounds_toArray, List.set_cons_zero, List.set_cons_succ]
      refine oneL 14 (by kernel_rfl) rfl rfl (wp_append_both (some 30) rfl rfl _ _ 37 rfl w.heap.size 40 j0 (.agg #[.int .i64 0, .int .i64 0, .int .i64 0, .int .i64 0]) 4 32 Try.underlying37 hj gz0 gz1 gz2 rfl (by decide) _ (.slice (some ⟨w.heap.size, 0, none⟩) 0 0) 0 [] rfl (own_empty_at (W := w.drew) rfl _ _ _ (Nat.le_refl _)) ya x.p.length yc (cellsOf x.p) rfl HR.out.nil (cells_len x.p) (pts_news HPT.out) (cells_onecell x.p) (by unfold maxLen; omega) (by omega) (below_alloc w _).drew.size ?_)
      intro oa2 cap2 w2 h1 h2 h3
      rw [Nat.zero_add, List.nil_append] at h1
      have HR2 : Hid (Row w.heap.size w2 (.slice oa2 x.p.length cap2) x.p) := Lib.hid h1
      have HB2 := Lib.hid ((below_alloc w (.cells #[] 40)).drew.trans h2)
      clear h1 h2 h3
      refine ⟨fun _ => HBX.out.below HB2.out, ?_⟩
      rw [Nat.zero_add]
      simp only [Act.put, List.setIfInBounds_toArray, List.set_cons_zero, List.set_cons_succ]
      have HS2 := Lib.hid (HBX.out.below HB2.out)
      refine takeL 15 (some 31) (v := ?_) rfl (by kernel_rfl) (by kernel_rfl) (by kernel_rfl) (by kernel_rfl) (fun _ _ _ h => h) rfl rfl HS2.out ?_ ?_
      rotate_left
      · intro wq hq
        have g0 := hq
        go_simp
        with_reducible rfl
      simp only [Act.put, List.setIfInBounds_toArray, List.set_cons_zero, List.set_cons_succ]
      have HB6 := Lib.hid (HB2.out.trans ((below_alloc w2 (.cells #[.int .i64 yi, .int .i64 yk, .int .i64 yl, .int .i64 yo, .int .i64 ys', .slice oa2 x.p.length cap2] 82)).mono HB2.out.size))
      have HOWN : Hid ((w2.alloc (.cells #[.int .i64 yi, .int .i64 yk, .int .i64 yl, .int .i64 yo, .int .i64 ys', .slice oa2 x.p.length cap2] 82)).ownsRow W.heap.size 82 6 (.slice oz k cz) k (zs.flatMap encI)) := Lib.hid (by
        have q := (HROW.out.grow HBW.out).grow HB6.out
        unfold RowK at q
        rwa [HZ.out] at q)
      refine oneL 16 (by kernel_rfl) rfl rfl (wp_runs (some 32) (v := .slice (some ⟨w2.heap.size, 0, none⟩) 1 1) (w' := w2.alloc (.cells #[.int .i64 yi, .int .i64 yk, .int .i64 yl, .int .i64 yo, .int .i64 ys', .slice oa2 x.p.length cap2] 82)) rfl (by go_simp) ⟨fun _ => HBX.out.below HB6.out, ?_⟩)
      simp only [Act.put, List.setIfInBounds_toArray, List.set_cons_zero, List.set_cons_succ]
      refine oneL 17 (by kernel_rfl) rfl rfl (wp_append_at (some 33) rfl _ _ 59 rfl W.heap.size 82 i0 (.agg #[.int .i64 0, .int .i64 0, .int .i64 0, .int .i64 0, .int .i64 0, .slice none 0 0]) 6 64 Try.underlying59 hi hz0 hz1 hz2 rfl (by decide) _ (.slice oz k cz) k (zs.flatMap encI) rfl HOWN.out ⟨w2.heap.size, 0, none⟩ 1 1 (encI ⟨yi, yk, yl, yo, ys', oa2, x.p.length, cap2⟩) rfl rfl (World.news_of_block (heap_alloc_new w2 _)) (encI_one _) (by unfold maxLen; omega) (by omega) (by have := HW.out; have := HB6.out.size; omega) ?_)
      intro oa5 cap5 w5 hown5 hg5 hv5
      have HXN : (Value.slice oz k cz).ownBlock ≠ some xb := row_farI HROW.out (by rw [HXB.out]; exact Nat.le_refl _)
      have hx5 : IBox w5 xb ⟨yi, yk, yl, yo, ys', ya, x.p.length, yc⟩ := (hg5.block xb (lt_of_block (HBX.out.below HB6.out)) (fun e => HXN e.symm)).trans (HBX.out.below HB6.out)
      refine ⟨fun _ => hx5, ?_⟩
      simp only [Act.put, List.setIfInBounds_toArray, List.set_cons_zero, List.set_cons_succ]
      refine oneL 18 (by kernel_rfl) rfl rfl (wp_runs (some 3) (v := .slice oa5 (k + 1) cap5) (w' := w5) rfl (by go_simp) ⟨fun _ => hx5, ?_⟩)
      simp only [Act.put, List.setIfInBounds_toArray, List.set_cons_zero, List.set_cons_succ]
      refine doneL (by kernel_rfl) ?_
      have hr0 := HR.out
      have hyr : IRead w2 x ⟨yi, yk, yl, yo, ys', oa2, x.p.length, cap2⟩ := ⟨hr0.i, hr0.k, hr0.l, hr0.o, hr0.s, rfl, HR2.out.pts, (row_base HR2.out).2.2⟩
      have HFIN := Lib.hid (HRI.out.snoc HZ.out (HBW.out.trans (HB2.out.mono HBW.out.size)) hyr (fun _ a ha => by have := ((row_base HR2.out).1 a ha).1; have := HBW.out.size; omega) rfl hown5 (grown_from_alloc hg5) (by rw [alloc_size] at hv5; exact hv5))
      have HB5 := Lib.hid (below_of_grown hg5 HOWN.out (by have := HW.out; have := HB6.out.size; omega))
      have HEND := Lib.hid ((HB.out.trans (HBW.out.mono HB.out.size)).trans ((HB6.out.mono HW.out).trans HB5.out))
      clear hx5 hown5 hg5 hv5 hr0 hyr
      go_wp2_with fail
      have hfin := HFIN.out
      rw [← HTX.out] at hfin
      exact ⟨⟨k + 1, _, by omega, by simp, hfin, HEND.out⟩, by simp [intOf]; omega⟩
    · obtain rfl : k = xs.length := by omega
      rw [List.take_length] at HRI
      go_wp2_with fail
      go_ret
      exact ⟨oz, cz, zs, rfl, HRI.out, HB.out⟩
end Go.Proofs.Ytappgelpigoknaa.InoW
