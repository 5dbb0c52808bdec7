/- Two steps alike: the program's. -/
import Derived.Test.YtiffmigihhcgcaaGreatDoorConSameH
namespace Go.Proofs.YtiffmigihhcgcaaGreatDoor.ConW
set_option maxRecDepth 100000
set_option linter.constructorNameAsVariable false
set_option linter.unusedVariables false
open Go.RowKit ConP OpP OpW
theorem same_isConSameP3 (x y : Rec) (b : Bool) (hb : sameB x y = b) (ox oy : Option Addr) (nx ny cx cy : Nat) (hx : nx = x.m.length) (hy : ny = y.m.length) (zx : x.m.length ≤ 1000000) (zy : y.m.length ≤ 1000000) (w : World) (h1 : MvAt w ox x.m) (h2 : MvAt w oy y.m) :
    Calls Tryz.prog 25 #[.agg #[.int .i64 x.cl, .int .i64 x.sq, .int .i64 x.k, .string x.p, .string x.t, .int .i64 x.sz, .int .i64 x.h, .int .i64 x.o, .string x.d, .int .i64 x.tk, .int .i64 x.i, .slice ox nx cx], .agg #[.int .i64 y.cl, .int .i64 y.sq, .int .i64 y.k, .string y.p, .string y.t, .int .i64 y.sz, .int .i64 y.h, .int .i64 y.o, .string y.d, .int .i64 y.tk, .int .i64 y.i, .slice oy ny cy]] w fun e w' => e = .returned (.bool b) ∧ Below w.heap.size w w' := by
  rw [← hb]; exact same_any x y ox oy nx ny cx cy hx hy zx zy w h1 h2
set_option maxHeartbeats 12800000 in
theorem psame_11 (a b : Stp) (oa ob pa pb : Option Addr) (na nb ca cb pna pnb pca pcb : Nat) (za zb : Int) (hz : pna = pnb → pna = 0) (ha : na = a.a.o.m.length) (hb : nb = b.a.o.m.length) (zx : a.a.o.m.length ≤ 1000000) (zy : b.a.o.m.length ≤ 1000000) (p0 : Hid (a.k = b.k)) (p1 : Hid (a.c = b.c)) (p2 : Hid (a.n = b.n)) (p3 : Hid (a.f = b.f)) (p4 : Hid (za = zb)) (p5 : Hid (pna = pnb)) (p6 : Hid (a.a.k = b.a.k)) (p7 : Hid (sameB a.a.o b.a.o = true)) (p8 : Hid (a.a.p = b.a.p)) (p9 : Hid (a.a.h = b.a.h)) (p10 : Hid (a.a.f = b.a.f)) (pn : Hid (¬ (a.a.s = b.a.s))) (w : World) (h1 : MvAt w oa a.a.o.m) (h2 : MvAt w ob b.a.o.m) :
    Calls Tryz.prog 13 #[.agg (cellsS a (.slice oa na ca) za (.slice pa pna pca)), .agg (cellsS b (.slice ob nb cb) zb (.slice pb pnb pcb))] w fun e w' => e = .returned (.bool (sameS a b && za == zb && pna == pnb)) ∧ Below w.heap.size w w' := by
  have H1 := Lib.hid h1
  have H2 := Lib.hid h2
  have HA := Lib.hid ha
  have HB := Lib.hid hb
  have HZ := Lib.hid hz
  have ZX := Lib.hid zx
  have ZY := Lib.hid zy
  clear h1 h2 ha hb hz zx zy
  obtain ⟨ma, hma⟩ : ∃ ma, ma = Value.slice oa na ca := ⟨_, rfl⟩
  obtain ⟨mb, hmb⟩ : ∃ mb, mb = Value.slice ob nb cb := ⟨_, rfl⟩
  have HMA := Lib.hid hma
  have HMB := Lib.hid hmb
  rw [← hma, ← hmb]
  clear hma hmb
  have hx := Lib.hid (below_alloc w (.cells (cellsS a ma za (.slice pa pna pca)) 31))
  have hbx : Hid (SBox ((w.alloc (.cells (cellsS a ma za (.slice pa pna pca)) 31)).alloc (.cells (cellsS b mb zb (.slice pb pnb pcb)) 31)) w.heap.size a ma za (.slice pa pna pca)) := Lib.hid ((heap_alloc_old _ _ (by simp)).trans (alloc_at _ _ _ rfl))
  have hby : Hid (SBox ((w.alloc (.cells (cellsS a ma za (.slice pa pna pca)) 31)).alloc (.cells (cellsS b mb zb (.slice pb pnb pcb)) 31)) (w.heap.size + 1) b mb zb (.slice pb pnb pcb)) := Lib.hid (alloc_at _ _ _ (by simp))
  have HBW : Hid (Below w.heap.size w ((w.alloc (.cells (cellsS a ma za (.slice pa pna pca)) 31)).alloc (.cells (cellsS b mb zb (.slice pb pnb pcb)) 31))) := Lib.hid (two_new w _ _)
  go_enter Tryz.func13, Tryz.ntmps13
  go_wp2_with fail
  clear hx
  generalize (w.alloc (.cells (cellsS a ma za (.slice pa pna pca)) 31)).alloc (.cells (cellsS b mb zb (.slice pb pnb pcb)) 31) = w0 at *
  obtain ⟨ab, hab⟩ : ∃ ab, ab = w.heap.size := ⟨_, rfl⟩
  obtain ⟨bb, hbb⟩ : ∃ bb, bb = w.heap.size + 1 := ⟨_, rfl⟩
  rw [← hab] at hbx
  rw [← hbb] at hby
  rw [← hbb, ← hab]
  clear hab hbb
  have HPART1 : Hid (∀ W, Below w0.heap.size w0 W → ∀ (j : Nat) v, ((cellsC a.a ma).toList)[j]? = some v → W.cell? ((⟨ab, 4, none⟩ : Addr).add j) = some v) := Lib.hid (fun W hW => sbox_part (hbx.out.keep hW))
  have HPART2 : Hid (∀ W, Below w0.heap.size w0 W → ∀ (j : Nat) v, ((cellsC b.a mb).toList)[j]? = some v → W.cell? ((⟨bb, 4, none⟩ : Addr).add j) = some v) := Lib.hid (fun W hW => sbox_part (hby.out.keep hW))
  refine regionL 7 8 (fun W => Below w0.heap.size w0 W) (by kernel_rfl) rfl ?_
  have HS0 : Hid (Below w0.heap.size w0 w0.drew) := Lib.hid (Below.refl _ _).drew
  refine takeL 0 (some 7) (v := ?_) rfl (by kernel_rfl) (by kernel_rfl) (by kernel_rfl) (by kernel_rfl) (fun _ _ _ h => h) rfl rfl HS0.out ?_ ?_
  rotate_left
  · intro wq hq
    go_simp
    with_reducible rfl
  simp only [Act.put, List.setIfInBounds_toArray, List.set_cons_zero, List.set_cons_succ]
  refine takeL 1 (some 8) (v := ?_) rfl (by kernel_rfl) (by kernel_rfl) (by kernel_rfl) (by kernel_rfl) (fun _ _ _ h => h) rfl rfl HS0.out ?_ ?_
  rotate_left
  · intro wq hq
    refine run_load_part 26 (Operand.tmp 7) ?_ ⟨ab, 4, none⟩ ?_ (cellsC a.a ma) (HPART1.out wq hq) Tryz.underlying26 ?_ ?_
    · rfl
    · rfl
    · rfl
    · exact callSize
  simp only [Act.put, List.setIfInBounds_toArray, List.set_cons_zero, List.set_cons_succ]
  refine takeL 2 (some 9) (v := ?_) rfl (by kernel_rfl) (by kernel_rfl) (by kernel_rfl) (by kernel_rfl) (fun _ _ _ h => h) rfl rfl HS0.out ?_ ?_
  rotate_left
  · intro wq hq
    go_simp
    with_reducible rfl
  simp only [Act.put, List.setIfInBounds_toArray, List.set_cons_zero, List.set_cons_succ]
  refine takeL 3 (some 10) (v := ?_) rfl (by kernel_rfl) (by kernel_rfl) (by kernel_rfl) (by kernel_rfl) (fun _ _ _ h => h) rfl rfl HS0.out ?_ ?_
  rotate_left
  · intro wq hq
    refine run_load_part 26 (Operand.tmp 9) ?_ ⟨bb, 4, none⟩ ?_ (cellsC b.a mb) (HPART2.out wq hq) Tryz.underlying26 ?_ ?_
    · rfl
    · rfl
    · rfl
    · exact callSize
  simp only [Act.put, List.setIfInBounds_toArray, List.set_cons_zero, List.set_cons_succ]
  refine allocsL 4 5 5 6 (by decide) (by decide) (by kernel_rfl) (by kernel_rfl) (by kernel_rfl) rfl rfl rfl rfl rfl rfl (Ti := 26) (Tj := 26) (zi := zeroC) (zj := zeroC) (fun a' w' => by go_simp; rfl) (fun a' w' => by go_simp; rfl) (by decide) (by decide) (fun W hW => bstep' HS0.out hW) ?_
  intro g h W hgh hg hh rg rh hW
  have HGH := Lib.hid hgh
  have HGL := Lib.hid (And.intro hg hh)
  have HRG := Lib.hid rg
  have HRH := Lib.hid rh
  have HWW : Hid (Below w0.heap.size w0 W) := Lib.hid (bstep' HS0.out hW)
  clear hgh hg hh rg rh hW
  simp only [Act.put, List.setIfInBounds_toArray, List.set_cons_zero, List.set_cons_succ]
  refine oneL 6 (by kernel_rfl) rfl rfl ?_
  refine wp_store_to 26 (Operand.tmp 5) (Operand.tmp 8) rfl rfl g (cellsC a.a ma) rfl rfl 26 zeroC HRG.out callSize rfl (cellsCm_one _ HMA.out) ?_
  have HW1 : Hid (Below w0.heap.size w0 (W.setRow g (cellsC a.a ma))) := Lib.hid (below_row HWW.out HGL.out.1 _)
  have HR1 : Hid ((W.setRow g (cellsC a.a ma)).heap[g]? = some (.cells (cellsC a.a ma) 26 (0, 0))) := Lib.hid (setRow_heap _ _ _ _ _ _ HRG.out)
  have HR2 : Hid ((W.setRow g (cellsC a.a ma)).heap[h]? = some (.cells zeroC 26 (0, 0))) := Lib.hid ((setRow_other _ _ _ _ (fun e => HGH.out e.symm)).trans HRH.out)
  generalize W.setRow g (cellsC a.a ma) = W1 at *
  refine ⟨fun _ => HW1.out, ?_⟩
  refine oneL 7 (by kernel_rfl) rfl rfl ?_
  refine wp_store_to 26 (Operand.tmp 6) (Operand.tmp 10) rfl rfl h (cellsC b.a mb) rfl rfl 26 zeroC HR2.out callSize rfl (cellsCm_one _ HMB.out) ?_
  have HW2 : Hid (Below w0.heap.size w0 (W1.setRow h (cellsC b.a mb))) := Lib.hid (below_row HW1.out HGL.out.2 _)
  have HC1 : Hid ((W1.setRow h (cellsC b.a mb)).heap[g]? = some (.cells (cellsC a.a ma) 26 (0, 0))) := Lib.hid ((setRow_other _ _ _ _ HGH.out).trans HR1.out)
  have HC2 : Hid ((W1.setRow h (cellsC b.a mb)).heap[h]? = some (.cells (cellsC b.a mb) 26 (0, 0))) := Lib.hid (setRow_heap _ _ _ _ _ _ HR2.out)
  generalize W1.setRow h (cellsC b.a mb) = W2 at *
  refine ⟨fun h => absurd rfl h, ?_⟩
  refine doneL (by kernel_rfl) ?_
  simp only [Exit.then]
  have HXA : Hid (SBox W2 ab a ma za (.slice pa pna pca)) := Lib.hid (hbx.out.keep HW2.out)
  have HXB : Hid (SBox W2 bb b mb zb (.slice pb pnb pcb)) := Lib.hid (hby.out.keep HW2.out)
  have HWF : Hid (Below w.heap.size w W2) := Lib.hid (bstep' HBW.out HW2.out)
  clear HR1 HR2 HW1 HWW HRG HRH HS0 HPART1 HPART2 hbx hby HW2
  have FS : Hid (∀ W, Below W2.heap.size W2 W → SFacts W ab a za pa pna pca ∧ SFacts W bb b zb pb pnb pcb) := Lib.hid (fun W k => ⟨sfacts (HXA.out.keep k), sfacts (HXB.out.keep k)⟩)
  have FC : Hid (∀ W, Below W2.heap.size W2 W → CFacts W g a.a ma ∧ CFacts W h b.a mb) := Lib.hid (fun W k => ⟨cfacts ((k.block _ (lt_of_block HC1.out)).trans HC1.out), cfacts ((k.block _ (lt_of_block HC2.out)).trans HC2.out)⟩)
  have hc := p0.out
  clear p0
  have q0 : ((a.k : Int) == b.k) = true := beq_iff_eq.2 hc
  have e0 := Lib.hid hc
  clear hc
  have hc := p1.out
  clear p1
  have q1 : ((a.c : Int) == b.c) = true := beq_iff_eq.2 hc
  have e1 := Lib.hid hc
  clear hc
  have hc := p2.out
  clear p2
  have q2 : ((a.n : Int) == b.n) = true := beq_iff_eq.2 hc
  have e2 := Lib.hid hc
  clear hc
  have hc := p3.out
  clear p3
  have q3 : ((a.f : Int) == b.f) = true := beq_iff_eq.2 hc
  have e3 := Lib.hid hc
  clear hc
  have hc := p4.out
  clear p4
  have q4 : ((za : Int) == zb) = true := beq_iff_eq.2 hc
  have e4 := Lib.hid hc
  clear hc
  have hc := p5.out
  clear p5
  have q5 : ((pna : Int) == (pnb : Int)) = true := by rw [hc]; exact beq_self_eq_true _
  have e5 := Lib.hid hc
  clear hc
  have hc := p6.out
  clear p6
  have q6 : ((a.a.k : Int) == b.a.k) = true := beq_iff_eq.2 hc
  have e6 := Lib.hid hc
  clear hc
  have hc := p7.out
  clear p7
  have q7 : sameB a.a.o b.a.o = true := hc
  have e7 := Lib.hid hc
  clear hc
  have hc := p8.out
  clear p8
  have q8 : ((a.a.p).toList == (b.a.p).toList) = true := by rw [hc]; exact beq_self_eq_true _
  have e8 := Lib.hid hc
  clear hc
  have hc := p9.out
  clear p9
  have q9 : ((a.a.h : Int) == b.a.h) = true := beq_iff_eq.2 hc
  have e9 := Lib.hid hc
  clear hc
  have hc := p10.out
  clear p10
  have q10 : ((a.a.f : Int) == b.a.f) = true := beq_iff_eq.2 hc
  have e10 := Lib.hid hc
  clear hc
  have hc := pn.out
  clear pn
  have HV : Hid ((sameS a b && za == zb && pna == pnb) = false) := Lib.hid (same_no1 (fun e => hc (by rw [e])))
  have q11 : ((a.a.s : Int) == b.a.s) = false := beq_eq_false_iff_ne.2 hc
  clear hc
  obtain ⟨⟨s0, s1, s2, s3, s4, s5⟩, r0, r1, r2, r3, r4, r5⟩ := FS.out W2 (Below.refl _ _)
  obtain ⟨⟨c0, c1, c2, c3, c4, c5, c6, c7, c8, c9, c10, c11, c12, c13, c14, c15, c16, c17⟩, d0, d1, d2, d3, d4, d5, d6, d7, d8, d9, d10, d11, d12, d13, d14, d15, d16, d17⟩ := FC.out W2 (Below.refl _ _)
  go_wp2_with fail
  clear s0 s1 s2 s3 s4 s5 r0 r1 r2 r3 r4 r5
  clear c0 d0 c1 d1 c2 d2 c3 d3 c4 d4 c5 d5 c6 d6 c7 d7 c8 d8 c9 d9 c10 d10 c11 d11 c12 d12 c13 d13 c14 d14 c15 d15 c16 d16 c17 d17
  have hk : Below w.heap.size w W2 := bstep' HWF.out (Below.refl _ _)
  have ea := HMA.out
  have eb := HMB.out
  rw [ea, eb]
  clear ea eb
  refine (same_isConSameP3 a.a.o b.a.o true (by assumption) oa ob na nb ca cb HA.out HB.out ZX.out ZY.out W2 (H1.out.grow hk) (H2.out.grow hk)).mono ?_
  rintro e w4 ⟨rfl, hb4⟩
  have HB4 : Hid (Below W2.heap.size W2 w4) := Lib.hid (bstep' (Below.refl _ _) hb4)
  clear hb4 hk
  obtain ⟨⟨c0, c1, c2, c3, c4, c5, c6, c7, c8, c9, c10, c11, c12, c13, c14, c15, c16, c17⟩, d0, d1, d2, d3, d4, d5, d6, d7, d8, d9, d10, d11, d12, d13, d14, d15, d16, d17⟩ := FC.out w4 HB4.out
  go_wp2_with fail
  go_ret
  exact ⟨congrArg (fun v => Ending.returned (.bool v)) HV.out.symm, bstep' HWF.out HB4.out⟩
set_option maxHeartbeats 12800000 in
theorem psame_12 (a b : Stp) (oa ob pa pb : Option Addr) (na nb ca cb pna pnb pca pcb : Nat) (za zb : Int) (hz : pna = pnb → pna = 0) (ha : na = a.a.o.m.length) (hb : nb = b.a.o.m.length) (zx : a.a.o.m.length ≤ 1000000) (zy : b.a.o.m.length ≤ 1000000) (p0 : Hid (a.k = b.k)) (p1 : Hid (a.c = b.c)) (p2 : Hid (a.n = b.n)) (p3 : Hid (a.f = b.f)) (p4 : Hid (za = zb)) (p5 : Hid (pna = pnb)) (p6 : Hid (a.a.k = b.a.k)) (p7 : Hid (sameB a.a.o b.a.o = true)) (p8 : Hid (a.a.p = b.a.p)) (p9 : Hid (a.a.h = b.a.h)) (p10 : Hid (a.a.f = b.a.f)) (p11 : Hid (a.a.s = b.a.s)) (pn : Hid (¬ (a.a.d = b.a.d))) (w : World) (h1 : MvAt w oa a.a.o.m) (h2 : MvAt w ob b.a.o.m) :
    Calls Tryz.prog 13 #[.agg (cellsS a (.slice oa na ca) za (.slice pa pna pca)), .agg (cellsS b (.slice ob nb cb) zb (.slice pb pnb pcb))] w fun e w' => e = .returned (.bool (sameS a b && za == zb && pna == pnb)) ∧ Below w.heap.size w w' := by
  have H1 := Lib.hid h1
  have H2 := Lib.hid h2
  have HA := Lib.hid ha
  have HB := Lib.hid hb
  have HZ := Lib.hid hz
  have ZX := Lib.hid zx
  have ZY := Lib.hid zy
  clear h1 h2 ha hb hz zx zy
  obtain ⟨ma, hma⟩ : ∃ ma, ma = Value.slice oa na ca := ⟨_, rfl⟩
  obtain ⟨mb, hmb⟩ : ∃ mb, mb = Value.slice ob nb cb := ⟨_, rfl⟩
  have HMA := Lib.hid hma
  have HMB := Lib.hid hmb
  rw [← hma, ← hmb]
  clear hma hmb
  have hx := Lib.hid (below_alloc w (.cells (cellsS a ma za (.slice pa pna pca)) 31))
  have hbx : Hid (SBox ((w.alloc (.cells (cellsS a ma za (.slice pa pna pca)) 31)).alloc (.cells (cellsS b mb zb (.slice pb pnb pcb)) 31)) w.heap.size a ma za (.slice pa pna pca)) := Lib.hid ((heap_alloc_old _ _ (by simp)).trans (alloc_at _ _ _ rfl))
  have hby : Hid (SBox ((w.alloc (.cells (cellsS a ma za (.slice pa pna pca)) 31)).alloc (.cells (cellsS b mb zb (.slice pb pnb pcb)) 31)) (w.heap.size + 1) b mb zb (.slice pb pnb pcb)) := Lib.hid (alloc_at _ _ _ (by simp))
  have HBW : Hid (Below w.heap.size w ((w.alloc (.cells (cellsS a ma za (.slice pa pna pca)) 31)).alloc (.cells (cellsS b mb zb (.slice pb pnb pcb)) 31))) := Lib.hid (two_new w _ _)
  go_enter Tryz.func13, Tryz.ntmps13
  go_wp2_with fail
  clear hx
  generalize (w.alloc (.cells (cellsS a ma za (.slice pa pna pca)) 31)).alloc (.cells (cellsS b mb zb (.slice pb pnb pcb)) 31) = w0 at *
  obtain ⟨ab, hab⟩ : ∃ ab, ab = w.heap.size := ⟨_, rfl⟩
  obtain ⟨bb, hbb⟩ : ∃ bb, bb = w.heap.size + 1 := ⟨_, rfl⟩
  rw [← hab] at hbx
  rw [← hbb] at hby
  rw [← hbb, ← hab]
  clear hab hbb
  have HPART1 : Hid (∀ W, Below w0.heap.size w0 W → ∀ (j : Nat) v, ((cellsC a.a ma).toList)[j]? = some v → W.cell? ((⟨ab, 4, none⟩ : Addr).add j) = some v) := Lib.hid (fun W hW => sbox_part (hbx.out.keep hW))
  have HPART2 : Hid (∀ W, Below w0.heap.size w0 W → ∀ (j : Nat) v, ((cellsC b.a mb).toList)[j]? = some v → W.cell? ((⟨bb, 4, none⟩ : Addr).add j) = some v) := Lib.hid (fun W hW => sbox_part (hby.out.keep hW))
  refine regionL 7 8 (fun W => Below w0.heap.size w0 W) (by kernel_rfl) rfl ?_
  have HS0 : Hid (Below w0.heap.size w0 w0.drew) := Lib.hid (Below.refl _ _).drew
  refine takeL 0 (some 7) (v := ?_) rfl (by kernel_rfl) (by kernel_rfl) (by kernel_rfl) (by kernel_rfl) (fun _ _ _ h => h) rfl rfl HS0.out ?_ ?_
  rotate_left
  · intro wq hq
    go_simp
    with_reducible rfl
  simp only [Act.put, List.setIfInBounds_toArray, List.set_cons_zero, List.set_cons_succ]
  refine takeL 1 (some 8) (v := ?_) rfl (by kernel_rfl) (by kernel_rfl) (by kernel_rfl) (by kernel_rfl) (fun _ _ _ h => h) rfl rfl HS0.out ?_ ?_
  rotate_left
  · intro wq hq
    refine run_load_part 26 (Operand.tmp 7) ?_ ⟨ab, 4, none⟩ ?_ (cellsC a.a ma) (HPART1.out wq hq) Tryz.underlying26 ?_ ?_
    · rfl
    · rfl
    · rfl
    · exact callSize
  simp only [Act.put, List.setIfInBounds_toArray, List.set_cons_zero, List.set_cons_succ]
  refine takeL 2 (some 9) (v := ?_) rfl (by kernel_rfl) (by kernel_rfl) (by kernel_rfl) (by kernel_rfl) (fun _ _ _ h => h) rfl rfl HS0.out ?_ ?_
  rotate_left
  · intro wq hq
    go_simp
    with_reducible rfl
  simp only [Act.put, List.setIfInBounds_toArray, List.set_cons_zero, List.set_cons_succ]
  refine takeL 3 (some 10) (v := ?_) rfl (by kernel_rfl) (by kernel_rfl) (by kernel_rfl) (by kernel_rfl) (fun _ _ _ h => h) rfl rfl HS0.out ?_ ?_
  rotate_left
  · intro wq hq
    refine run_load_part 26 (Operand.tmp 9) ?_ ⟨bb, 4, none⟩ ?_ (cellsC b.a mb) (HPART2.out wq hq) Tryz.underlying26 ?_ ?_
    · rfl
    · rfl
    · rfl
    · exact callSize
  simp only [Act.put, List.setIfInBounds_toArray, List.set_cons_zero, List.set_cons_succ]
  refine allocsL 4 5 5 6 (by decide) (by decide) (by kernel_rfl) (by kernel_rfl) (by kernel_rfl) rfl rfl rfl rfl rfl rfl (Ti := 26) (Tj := 26) (zi := zeroC) (zj := zeroC) (fun a' w' => by go_simp; rfl) (fun a' w' => by go_simp; rfl) (by decide) (by decide) (fun W hW => bstep' HS0.out hW) ?_
  intro g h W hgh hg hh rg rh hW
  have HGH := Lib.hid hgh
  have HGL := Lib.hid (And.intro hg hh)
  have HRG := Lib.hid rg
  have HRH := Lib.hid rh
  have HWW : Hid (Below w0.heap.size w0 W) := Lib.hid (bstep' HS0.out hW)
  clear hgh hg hh rg rh hW
  simp only [Act.put, List.setIfInBounds_toArray, List.set_cons_zero, List.set_cons_succ]
  refine oneL 6 (by kernel_rfl) rfl rfl ?_
  refine wp_store_to 26 (Operand.tmp 5) (Operand.tmp 8) rfl rfl g (cellsC a.a ma) rfl rfl 26 zeroC HRG.out callSize rfl (cellsCm_one _ HMA.out) ?_
  have HW1 : Hid (Below w0.heap.size w0 (W.setRow g (cellsC a.a ma))) := Lib.hid (below_row HWW.out HGL.out.1 _)
  have HR1 : Hid ((W.setRow g (cellsC a.a ma)).heap[g]? = some (.cells (cellsC a.a ma) 26 (0, 0))) := Lib.hid (setRow_heap _ _ _ _ _ _ HRG.out)
  have HR2 : Hid ((W.setRow g (cellsC a.a ma)).heap[h]? = some (.cells zeroC 26 (0, 0))) := Lib.hid ((setRow_other _ _ _ _ (fun e => HGH.out e.symm)).trans HRH.out)
  generalize W.setRow g (cellsC a.a ma) = W1 at *
  refine ⟨fun _ => HW1.out, ?_⟩
  refine oneL 7 (by kernel_rfl) rfl rfl ?_
  refine wp_store_to 26 (Operand.tmp 6) (Operand.tmp 10) rfl rfl h (cellsC b.a mb) rfl rfl 26 zeroC HR2.out callSize rfl (cellsCm_one _ HMB.out) ?_
  have HW2 : Hid (Below w0.heap.size w0 (W1.setRow h (cellsC b.a mb))) := Lib.hid (below_row HW1.out HGL.out.2 _)
  have HC1 : Hid ((W1.setRow h (cellsC b.a mb)).heap[g]? = some (.cells (cellsC a.a ma) 26 (0, 0))) := Lib.hid ((setRow_other _ _ _ _ HGH.out).trans HR1.out)
  have HC2 : Hid ((W1.setRow h (cellsC b.a mb)).heap[h]? = some (.cells (cellsC b.a mb) 26 (0, 0))) := Lib.hid (setRow_heap _ _ _ _ _ _ HR2.out)
  generalize W1.setRow h (cellsC b.a mb) = W2 at *
  refine ⟨fun h => absurd rfl h, ?_⟩
  refine doneL (by kernel_rfl) ?_
  simp only [Exit.then]
  have HXA : Hid (SBox W2 ab a ma za (.slice pa pna pca)) := Lib.hid (hbx.out.keep HW2.out)
  have HXB : Hid (SBox W2 bb b mb zb (.slice pb pnb pcb)) := Lib.hid (hby.out.keep HW2.out)
  have HWF : Hid (Below w.heap.size w W2) := Lib.hid (bstep' HBW.out HW2.out)
  clear HR1 HR2 HW1 HWW HRG HRH HS0 HPART1 HPART2 hbx hby HW2
  have FS : Hid (∀ W, Below W2.heap.size W2 W → SFacts W ab a za pa pna pca ∧ SFacts W bb b zb pb pnb pcb) := Lib.hid (fun W k => ⟨sfacts (HXA.out.keep k), sfacts (HXB.out.keep k)⟩)
  have FC : Hid (∀ W, Below W2.heap.size W2 W → CFacts W g a.a ma ∧ CFacts W h b.a mb) := Lib.hid (fun W k => ⟨cfacts ((k.block _ (lt_of_block HC1.out)).trans HC1.out), cfacts ((k.block _ (lt_of_block HC2.out)).trans HC2.out)⟩)
  have hc := p0.out
  clear p0
  have q0 : ((a.k : Int) == b.k) = true := beq_iff_eq.2 hc
  have e0 := Lib.hid hc
  clear hc
  have hc := p1.out
  clear p1
  have q1 : ((a.c : Int) == b.c) = true := beq_iff_eq.2 hc
  have e1 := Lib.hid hc
  clear hc
  have hc := p2.out
  clear p2
  have q2 : ((a.n : Int) == b.n) = true := beq_iff_eq.2 hc
  have e2 := Lib.hid hc
  clear hc
  have hc := p3.out
  clear p3
  have q3 : ((a.f : Int) == b.f) = true := beq_iff_eq.2 hc
  have e3 := Lib.hid hc
  clear hc
  have hc := p4.out
  clear p4
  have q4 : ((za : Int) == zb) = true := beq_iff_eq.2 hc
  have e4 := Lib.hid hc
  clear hc
  have hc := p5.out
  clear p5
  have q5 : ((pna : Int) == (pnb : Int)) = true := by rw [hc]; exact beq_self_eq_true _
  have e5 := Lib.hid hc
  clear hc
  have hc := p6.out
  clear p6
  have q6 : ((a.a.k : Int) == b.a.k) = true := beq_iff_eq.2 hc
  have e6 := Lib.hid hc
  clear hc
  have hc := p7.out
  clear p7
  have q7 : sameB a.a.o b.a.o = true := hc
  have e7 := Lib.hid hc
  clear hc
  have hc := p8.out
  clear p8
  have q8 : ((a.a.p).toList == (b.a.p).toList) = true := by rw [hc]; exact beq_self_eq_true _
  have e8 := Lib.hid hc
  clear hc
  have hc := p9.out
  clear p9
  have q9 : ((a.a.h : Int) == b.a.h) = true := beq_iff_eq.2 hc
  have e9 := Lib.hid hc
  clear hc
  have hc := p10.out
  clear p10
  have q10 : ((a.a.f : Int) == b.a.f) = true := beq_iff_eq.2 hc
  have e10 := Lib.hid hc
  clear hc
  have hc := p11.out
  clear p11
  have q11 : ((a.a.s : Int) == b.a.s) = true := beq_iff_eq.2 hc
  have e11 := Lib.hid hc
  clear hc
  have hc := pn.out
  clear pn
  have HV : Hid ((sameS a b && za == zb && pna == pnb) = false) := Lib.hid (same_no1 (fun e => hc (by rw [e])))
  have q12 : ((a.a.d).toList == (b.a.d).toList) = false := bytes_ne hc
  clear hc
  obtain ⟨⟨s0, s1, s2, s3, s4, s5⟩, r0, r1, r2, r3, r4, r5⟩ := FS.out W2 (Below.refl _ _)
  obtain ⟨⟨c0, c1, c2, c3, c4, c5, c6, c7, c8, c9, c10, c11, c12, c13, c14, c15, c16, c17⟩, d0, d1, d2, d3, d4, d5, d6, d7, d8, d9, d10, d11, d12, d13, d14, d15, d16, d17⟩ := FC.out W2 (Below.refl _ _)
  go_wp2_with fail
  clear s0 s1 s2 s3 s4 s5 r0 r1 r2 r3 r4 r5
  clear c0 d0 c1 d1 c2 d2 c3 d3 c4 d4 c5 d5 c6 d6 c7 d7 c8 d8 c9 d9 c10 d10 c11 d11 c12 d12 c13 d13 c14 d14 c15 d15 c16 d16 c17 d17
  have hk : Below w.heap.size w W2 := bstep' HWF.out (Below.refl _ _)
  have ea := HMA.out
  have eb := HMB.out
  rw [ea, eb]
  clear ea eb
  refine (same_isConSameP3 a.a.o b.a.o true (by assumption) oa ob na nb ca cb HA.out HB.out ZX.out ZY.out W2 (H1.out.grow hk) (H2.out.grow hk)).mono ?_
  rintro e w4 ⟨rfl, hb4⟩
  have HB4 : Hid (Below W2.heap.size W2 w4) := Lib.hid (bstep' (Below.refl _ _) hb4)
  clear hb4 hk
  obtain ⟨⟨c0, c1, c2, c3, c4, c5, c6, c7, c8, c9, c10, c11, c12, c13, c14, c15, c16, c17⟩, d0, d1, d2, d3, d4, d5, d6, d7, d8, d9, d10, d11, d12, d13, d14, d15, d16, d17⟩ := FC.out w4 HB4.out
  go_wp2_with fail
  go_ret
  exact ⟨congrArg (fun v => Ending.returned (.bool v)) HV.out.symm, bstep' HWF.out HB4.out⟩
set_option maxHeartbeats 12800000 in
theorem psame_yes (a b : Stp) (oa ob pa pb : Option Addr) (na nb ca cb pna pnb pca pcb : Nat) (za zb : Int) (hz : pna = pnb → pna = 0) (ha : na = a.a.o.m.length) (hb : nb = b.a.o.m.length) (zx : a.a.o.m.length ≤ 1000000) (zy : b.a.o.m.length ≤ 1000000) (p0 : Hid (a.k = b.k)) (p1 : Hid (a.c = b.c)) (p2 : Hid (a.n = b.n)) (p3 : Hid (a.f = b.f)) (p4 : Hid (za = zb)) (p5 : Hid (pna = pnb)) (p6 : Hid (a.a.k = b.a.k)) (p7 : Hid (sameB a.a.o b.a.o = true)) (p8 : Hid (a.a.p = b.a.p)) (p9 : Hid (a.a.h = b.a.h)) (p10 : Hid (a.a.f = b.a.f)) (p11 : Hid (a.a.s = b.a.s)) (p12 : Hid (a.a.d = b.a.d)) (w : World) (h1 : MvAt w oa a.a.o.m) (h2 : MvAt w ob b.a.o.m) :
    Calls Tryz.prog 13 #[.agg (cellsS a (.slice oa na ca) za (.slice pa pna pca)), .agg (cellsS b (.slice ob nb cb) zb (.slice pb pnb pcb))] w fun e w' => e = .returned (.bool (sameS a b && za == zb && pna == pnb)) ∧ Below w.heap.size w w' := by
  have H1 := Lib.hid h1
  have H2 := Lib.hid h2
  have HA := Lib.hid ha
  have HB := Lib.hid hb
  have HZ := Lib.hid hz
  have ZX := Lib.hid zx
  have ZY := Lib.hid zy
  clear h1 h2 ha hb hz zx zy
  obtain ⟨ma, hma⟩ : ∃ ma, ma = Value.slice oa na ca := ⟨_, rfl⟩
  obtain ⟨mb, hmb⟩ : ∃ mb, mb = Value.slice ob nb cb := ⟨_, rfl⟩
  have HMA := Lib.hid hma
  have HMB := Lib.hid hmb
  rw [← hma, ← hmb]
  clear hma hmb
  have hx := Lib.hid (below_alloc w (.cells (cellsS a ma za (.slice pa pna pca)) 31))
  have hbx : Hid (SBox ((w.alloc (.cells (cellsS a ma za (.slice pa pna pca)) 31)).alloc (.cells (cellsS b mb zb (.slice pb pnb pcb)) 31)) w.heap.size a ma za (.slice pa pna pca)) := Lib.hid ((heap_alloc_old _ _ (by simp)).trans (alloc_at _ _ _ rfl))
  have hby : Hid (SBox ((w.alloc (.cells (cellsS a ma za (.slice pa pna pca)) 31)).alloc (.cells (cellsS b mb zb (.slice pb pnb pcb)) 31)) (w.heap.size + 1) b mb zb (.slice pb pnb pcb)) := Lib.hid (alloc_at _ _ _ (by simp))
  have HBW : Hid (Below w.heap.size w ((w.alloc (.cells (cellsS a ma za (.slice pa pna pca)) 31)).alloc (.cells (cellsS b mb zb (.slice pb pnb pcb)) 31))) := Lib.hid (two_new w _ _)
  go_enter Tryz.func13, Tryz.ntmps13
  go_wp2_with fail
  clear hx
  generalize (w.alloc (.cells (cellsS a ma za (.slice pa pna pca)) 31)).alloc (.cells (cellsS b mb zb (.slice pb pnb pcb)) 31) = w0 at *
  obtain ⟨ab, hab⟩ : ∃ ab, ab = w.heap.size := ⟨_, rfl⟩
  obtain ⟨bb, hbb⟩ : ∃ bb, bb = w.heap.size + 1 := ⟨_, rfl⟩
  rw [← hab] at hbx
  rw [← hbb] at hby
  rw [← hbb, ← hab]
  clear hab hbb
  have HPART1 : Hid (∀ W, Below w0.heap.size w0 W → ∀ (j : Nat) v, ((cellsC a.a ma).toList)[j]? = some v → W.cell? ((⟨ab, 4, none⟩ : Addr).add j) = some v) := Lib.hid (fun W hW => sbox_part (hbx.out.keep hW))
  have HPART2 : Hid (∀ W, Below w0.heap.size w0 W → ∀ (j : Nat) v, ((cellsC b.a mb).toList)[j]? = some v → W.cell? ((⟨bb, 4, none⟩ : Addr).add j) = some v) := Lib.hid (fun W hW => sbox_part (hby.out.keep hW))
  refine regionL 7 8 (fun W => Below w0.heap.size w0 W) (by kernel_rfl) rfl ?_
  have HS0 : Hid (Below w0.heap.size w0 w0.drew) := Lib.hid (Below.refl _ _).drew
  refine takeL 0 (some 7) (v := ?_) rfl (by kernel_rfl) (by kernel_rfl) (by kernel_rfl) (by kernel_rfl) (fun _ _ _ h => h) rfl rfl HS0.out ?_ ?_
  rotate_left
  · intro wq hq
    go_simp
    with_reducible rfl
  simp only [Act.put, List.setIfInBounds_toArray, List.set_cons_zero, List.set_cons_succ]
  refine takeL 1 (some 8) (v := ?_) rfl (by kernel_rfl) (by kernel_rfl) (by kernel_rfl) (by kernel_rfl) (fun _ _ _ h => h) rfl rfl HS0.out ?_ ?_
  rotate_left
  · intro wq hq
    refine run_load_part 26 (Operand.tmp 7) ?_ ⟨ab, 4, none⟩ ?_ (cellsC a.a ma) (HPART1.out wq hq) Tryz.underlying26 ?_ ?_
    · rfl
    · rfl
    · rfl
    · exact callSize
  simp only [Act.put, List.setIfInBounds_toArray, List.set_cons_zero, List.set_cons_succ]
  refine takeL 2 (some 9) (v := ?_) rfl (by kernel_rfl) (by kernel_rfl) (by kernel_rfl) (by kernel_rfl) (fun _ _ _ h => h) rfl rfl HS0.out ?_ ?_
  rotate_left
  · intro wq hq
    go_simp
    with_reducible rfl
  simp only [Act.put, List.setIfInBounds_toArray, List.set_cons_zero, List.set_cons_succ]
  refine takeL 3 (some 10) (v := ?_) rfl (by kernel_rfl) (by kernel_rfl) (by kernel_rfl) (by kernel_rfl) (fun _ _ _ h => h) rfl rfl HS0.out ?_ ?_
  rotate_left
  · intro wq hq
    refine run_load_part 26 (Operand.tmp 9) ?_ ⟨bb, 4, none⟩ ?_ (cellsC b.a mb) (HPART2.out wq hq) Tryz.underlying26 ?_ ?_
    · rfl
    · rfl
    · rfl
    · exact callSize
  simp only [Act.put, List.setIfInBounds_toArray, List.set_cons_zero, List.set_cons_succ]
  refine allocsL 4 5 5 6 (by decide) (by decide) (by kernel_rfl) (by kernel_rfl) (by kernel_rfl) rfl rfl rfl rfl rfl rfl (Ti := 26) (Tj := 26) (zi := zeroC) (zj := zeroC) (fun a' w' => by go_simp; rfl) (fun a' w' => by go_simp; rfl) (by decide) (by decide) (fun W hW => bstep' HS0.out hW) ?_
  intro g h W hgh hg hh rg rh hW
  have HGH := Lib.hid hgh
  have HGL := Lib.hid (And.intro hg hh)
  have HRG := Lib.hid rg
  have HRH := Lib.hid rh
  have HWW : Hid (Below w0.heap.size w0 W) := Lib.hid (bstep' HS0.out hW)
  clear hgh hg hh rg rh hW
  simp only [Act.put, List.setIfInBounds_toArray, List.set_cons_zero, List.set_cons_succ]
  refine oneL 6 (by kernel_rfl) rfl rfl ?_
  refine wp_store_to 26 (Operand.tmp 5) (Operand.tmp 8) rfl rfl g (cellsC a.a ma) rfl rfl 26 zeroC HRG.out callSize rfl (cellsCm_one _ HMA.out) ?_
  have HW1 : Hid (Below w0.heap.size w0 (W.setRow g (cellsC a.a ma))) := Lib.hid (below_row HWW.out HGL.out.1 _)
  have HR1 : Hid ((W.setRow g (cellsC a.a ma)).heap[g]? = some (.cells (cellsC a.a ma) 26 (0, 0))) := Lib.hid (setRow_heap _ _ _ _ _ _ HRG.out)
  have HR2 : Hid ((W.setRow g (cellsC a.a ma)).heap[h]? = some (.cells zeroC 26 (0, 0))) := Lib.hid ((setRow_other _ _ _ _ (fun e => HGH.out e.symm)).trans HRH.out)
  generalize W.setRow g (cellsC a.a ma) = W1 at *
  refine ⟨fun _ => HW1.out, ?_⟩
  refine oneL 7 (by kernel_rfl) rfl rfl ?_
  refine wp_store_to 26 (Operand.tmp 6) (Operand.tmp 10) rfl rfl h (cellsC b.a mb) rfl rfl 26 zeroC HR2.out callSize rfl (cellsCm_one _ HMB.out) ?_
  have HW2 : Hid (Below w0.heap.size w0 (W1.setRow h (cellsC b.a mb))) := Lib.hid (below_row HW1.out HGL.out.2 _)
  have HC1 : Hid ((W1.setRow h (cellsC b.a mb)).heap[g]? = some (.cells (cellsC a.a ma) 26 (0, 0))) := Lib.hid ((setRow_other _ _ _ _ HGH.out).trans HR1.out)
  have HC2 : Hid ((W1.setRow h (cellsC b.a mb)).heap[h]? = some (.cells (cellsC b.a mb) 26 (0, 0))) := Lib.hid (setRow_heap _ _ _ _ _ _ HR2.out)
  generalize W1.setRow h (cellsC b.a mb) = W2 at *
  refine ⟨fun h => absurd rfl h, ?_⟩
  refine doneL (by kernel_rfl) ?_
  simp only [Exit.then]
  have HXA : Hid (SBox W2 ab a ma za (.slice pa pna pca)) := Lib.hid (hbx.out.keep HW2.out)
  have HXB : Hid (SBox W2 bb b mb zb (.slice pb pnb pcb)) := Lib.hid (hby.out.keep HW2.out)
  have HWF : Hid (Below w.heap.size w W2) := Lib.hid (bstep' HBW.out HW2.out)
  clear HR1 HR2 HW1 HWW HRG HRH HS0 HPART1 HPART2 hbx hby HW2
  have FS : Hid (∀ W, Below W2.heap.size W2 W → SFacts W ab a za pa pna pca ∧ SFacts W bb b zb pb pnb pcb) := Lib.hid (fun W k => ⟨sfacts (HXA.out.keep k), sfacts (HXB.out.keep k)⟩)
  have FC : Hid (∀ W, Below W2.heap.size W2 W → CFacts W g a.a ma ∧ CFacts W h b.a mb) := Lib.hid (fun W k => ⟨cfacts ((k.block _ (lt_of_block HC1.out)).trans HC1.out), cfacts ((k.block _ (lt_of_block HC2.out)).trans HC2.out)⟩)
  have hc := p0.out
  clear p0
  have q0 : ((a.k : Int) == b.k) = true := beq_iff_eq.2 hc
  have e0 := Lib.hid hc
  clear hc
  have hc := p1.out
  clear p1
  have q1 : ((a.c : Int) == b.c) = true := beq_iff_eq.2 hc
  have e1 := Lib.hid hc
  clear hc
  have hc := p2.out
  clear p2
  have q2 : ((a.n : Int) == b.n) = true := beq_iff_eq.2 hc
  have e2 := Lib.hid hc
  clear hc
  have hc := p3.out
  clear p3
  have q3 : ((a.f : Int) == b.f) = true := beq_iff_eq.2 hc
  have e3 := Lib.hid hc
  clear hc
  have hc := p4.out
  clear p4
  have q4 : ((za : Int) == zb) = true := beq_iff_eq.2 hc
  have e4 := Lib.hid hc
  clear hc
  have hc := p5.out
  clear p5
  have q5 : ((pna : Int) == (pnb : Int)) = true := by rw [hc]; exact beq_self_eq_true _
  have e5 := Lib.hid hc
  clear hc
  have hc := p6.out
  clear p6
  have q6 : ((a.a.k : Int) == b.a.k) = true := beq_iff_eq.2 hc
  have e6 := Lib.hid hc
  clear hc
  have hc := p7.out
  clear p7
  have q7 : sameB a.a.o b.a.o = true := hc
  have e7 := Lib.hid hc
  clear hc
  have hc := p8.out
  clear p8
  have q8 : ((a.a.p).toList == (b.a.p).toList) = true := by rw [hc]; exact beq_self_eq_true _
  have e8 := Lib.hid hc
  clear hc
  have hc := p9.out
  clear p9
  have q9 : ((a.a.h : Int) == b.a.h) = true := beq_iff_eq.2 hc
  have e9 := Lib.hid hc
  clear hc
  have hc := p10.out
  clear p10
  have q10 : ((a.a.f : Int) == b.a.f) = true := beq_iff_eq.2 hc
  have e10 := Lib.hid hc
  clear hc
  have hc := p11.out
  clear p11
  have q11 : ((a.a.s : Int) == b.a.s) = true := beq_iff_eq.2 hc
  have e11 := Lib.hid hc
  clear hc
  have hc := p12.out
  clear p12
  have q12 : ((a.a.d).toList == (b.a.d).toList) = true := by rw [hc]; exact beq_self_eq_true _
  have e12 := Lib.hid hc
  clear hc
  have HV : Hid ((sameS a b && za == zb && pna == pnb) = true) := Lib.hid (same_yes e0.out e1.out e2.out e3.out e6.out e7.out e8.out e9.out e10.out e11.out e12.out (e4.out) (e5.out))
  clear e0 e1 e2 e3 e4 e5 e6 e7 e8 e9 e10 e11 e12
  obtain ⟨⟨s0, s1, s2, s3, s4, s5⟩, r0, r1, r2, r3, r4, r5⟩ := FS.out W2 (Below.refl _ _)
  obtain ⟨⟨c0, c1, c2, c3, c4, c5, c6, c7, c8, c9, c10, c11, c12, c13, c14, c15, c16, c17⟩, d0, d1, d2, d3, d4, d5, d6, d7, d8, d9, d10, d11, d12, d13, d14, d15, d16, d17⟩ := FC.out W2 (Below.refl _ _)
  go_wp2_with fail
  clear s0 s1 s2 s3 s4 s5 r0 r1 r2 r3 r4 r5
  clear c0 d0 c1 d1 c2 d2 c3 d3 c4 d4 c5 d5 c6 d6 c7 d7 c8 d8 c9 d9 c10 d10 c11 d11 c12 d12 c13 d13 c14 d14 c15 d15 c16 d16 c17 d17
  have hk : Below w.heap.size w W2 := bstep' HWF.out (Below.refl _ _)
  have ea := HMA.out
  have eb := HMB.out
  rw [ea, eb]
  clear ea eb
  refine (same_isConSameP3 a.a.o b.a.o true (by assumption) oa ob na nb ca cb HA.out HB.out ZX.out ZY.out W2 (H1.out.grow hk) (H2.out.grow hk)).mono ?_
  rintro e w4 ⟨rfl, hb4⟩
  have HB4 : Hid (Below W2.heap.size W2 w4) := Lib.hid (bstep' (Below.refl _ _) hb4)
  clear hb4 hk
  obtain ⟨⟨c0, c1, c2, c3, c4, c5, c6, c7, c8, c9, c10, c11, c12, c13, c14, c15, c16, c17⟩, d0, d1, d2, d3, d4, d5, d6, d7, d8, d9, d10, d11, d12, d13, d14, d15, d16, d17⟩ := FC.out w4 HB4.out
  go_wp2_with fail
  go_ret
  exact ⟨congrArg (fun v => Ending.returned (.bool v)) HV.out.symm, bstep' HWF.out HB4.out⟩
end Go.Proofs.YtiffmigihhcgcaaGreatDoor.ConW
