/- form.line: a step's line, by a form. -/
import Derived.Test.YtiffmigihhcgcaaGreatDoorConWrite
import Derived.Test.YtiffmigihhcgcaaGreatDoorConRParse
namespace Go.Proofs.YtiffmigihhcgcaaGreatDoor.ConW
set_option maxRecDepth 100000
set_option linter.constructorNameAsVariable false
set_option linter.unusedVariables false
open Go.RowKit ConP
open PathW (Strs strV strinfo ext_mid ext_drop str_list list_size Rds)
theorem write_is (f : UInt8) (fv : Int) (hfv : (f.toNat : Int) = fv) (b : Nat) (s : Stp) (m c : Value) (z : Int) (w : World) (h : SBox w b s m z c) (hv : CV w) (hr : Num s) :
    Calls Tryz.prog 24 #[.pointer (some ⟨b, 0, none⟩), .int .u8 fv] w fun e w' => e = .returned (.string (bs (getW s (place (s.a.k == 1) f)))) ∧ Below w.heap.size w w' := by
  rw [← hfv]; exact write_any f b s m c z w h hv hr
theorem own_below {w w' : World} {B n size : Nat} {e : TypeId} {v : Value} {xs : List Value} (h : w.ownsRow B e size v n xs) (k : Below w.heap.size w w') : w'.ownsRow B e size v n xs := by
  rcases h.2 with ⟨h1, h2⟩ | ⟨g, cap', cur, h1, h2, h3, h4⟩
  · exact ⟨h.1, .inl ⟨h1, h2⟩⟩
  · exact ⟨h.1, .inr ⟨g, cap', cur, h1, h2, (k.block g (lt_of_block h3)).trans h3, h4⟩⟩
/-- the words that are there so far -/
structure AccI (pre : List Bs) (x : Fm) (s : Stp) (k : Nat) (acc : List Bs) : Prop where
  le : k ≤ x.fs.length
  e : acc = pre ++ (x.fs.take k).map (fun f => getW s (place (s.a.k == 1) f))
theorem two_new2 (w : World) (o p : Obj) : Below w.heap.size w ((w.alloc o).alloc p) := bstep' (below_alloc w o) (below_alloc _ p)
theorem joinw_any (l : List Bs) (hl : l.length ≤ 1000) (hj : (joinW l).length ≤ 1000000000) (oa : Option Addr) (cap : Nat) (hcap : l.length ≤ cap) (w : World) (h : Rds w.heap.size w oa l) :
    Calls Tryz.prog 23 #[.slice oa l.length cap, .string ⟨#[32]⟩] w fun e w' => e = .returned (.string (bs (joinW l))) ∧ Below w.heap.size w w' := by
  by_cases h0 : l = []
  · subst h0
    exact (Tryz.strings_Join_none oa cap ⟨#[32]⟩ w).mono fun e w' ⟨h1, h2⟩ => ⟨h1, by rw [h2]; exact Below.refl _ _⟩
  · have hpos : 0 < l.length := List.length_pos_iff.2 h0
    obtain ⟨a, rfl, hab, hc0⟩ := h 0 hpos
    have hsp : a.spot = none := by
      have := World.cell?_spot hc0
      simpa [Addr.add] using this
    obtain ⟨b, o, sp⟩ := a
    obtain rfl : sp = none := hsp
    have hmap : (l.map fun x => (⟨x.toArray⟩ : ByteArray)).map (·.data.toList) = l := by
      rw [List.map_map]; conv => rhs; rw [← List.map_id l]
      rfl
    have key := Tryz.strings_Join b o cap (l.map fun x => (⟨x.toArray⟩ : ByteArray)) ⟨#[32]⟩ w (by
      intro j s hs
      rw [List.getElem?_map] at hs
      obtain ⟨x, hx, rfl⟩ := Option.map_eq_some_iff.1 hs
      obtain ⟨hj, rfl⟩ := List.getElem?_eq_some_iff.1 hx
      obtain ⟨a', ha', _, hc⟩ := h j hj
      injection ha' with ha'
      subst ha'
      have he : (⟨b, o, none⟩ : Addr).add j = ⟨b, o + j, none⟩ := by
        unfold Addr.add
        split
        · rename_i hj0; subst hj0; rfl
        · rfl
      rw [he] at hc
      exact hc) hab (by rw [List.length_map]; omega) (by simpa using hcap) (by rw [hmap]; show (Lib.join l [32]).length ≤ _; rw [join_is]; omega)
    rw [hmap, List.length_map] at key
    exact key.mono fun e w' ⟨h1, h2⟩ => ⟨by rw [h1]; show Ending.returned (.string ⟨(Lib.join l [32]).toArray⟩) = _; rw [join_is]; rfl, h2⟩
theorem own_many (W : World) (base : Nat) (cs : Array Value) (n : Nat) (hn : cs.size = n) (hm : n ≤ 1000) (hb : base ≤ W.heap.size) (h1 : n ≠ 0) (he : cs.toList.all (·.oneCell') = true) : (W.alloc (.cells cs 9)).ownsRow base 9 1 (.slice (some ⟨W.heap.size, 0, none⟩) n n) n cs.toList :=
  ⟨by simp [hn], .inr ⟨W.heap.size, n, cs, rfl, hb, heap_alloc_new W _, Nat.le_refl _, by unfold maxLen; omega, by simp [hn], by rw [Nat.mul_one, List.take_of_length_le (by simp [hn])]⟩⟩
set_option maxHeartbeats 3200000 in
theorem line_rest (x : Fm) (hx : x.k ≠ 1) (hfl : x.fs.length ≤ 10) (s : Stp) (hk : s.a.k = x.c) (hr : Num s) (hjl : (joinW (lineL x s)).length ≤ 1000000000) (m c : Value) (hm : m.oneCell' = true) (hc : c.oneCell' = true) (z : Int) (w : World) (hv : CV w) :
    Calls Tryz.prog 12 #[.agg (fmCells x).toArray, .agg (cellsS s m z c)] w fun e w' => e = .returned (.string (bs (joinW (lineL x s)))) ∧ Below w.heap.size w w' := by
  obtain ⟨i0, hi, hz0, hz1, hz2⟩ := info_parts strinfo
  have HR := Lib.hid hr
  have hk1 : (x.k == 1) = false := by rw [beq_eq_false_iff_ne]; exact hx
  have HLL : Hid ([x.w] ++ x.fs.map (fun f => getW s (place (s.a.k == 1) f)) = lineL x s) := Lib.hid (by
    unfold lineL Fm.ps
    rw [if_neg hx, List.map_map, hk]; rfl)
  have HDATA0 : Hid (∀ (k : Nat) f, x.fs[k]? = some f → ∀ h, (bs x.fs)[k]'h = f) := Lib.hid (fun k f h h2 => by
    have := List.getElem?_eq_some_iff.1 h
    exact this.2)
  obtain ⟨fsS, hfs⟩ : ∃ fsS, fsS = bs x.fs := ⟨_, rfl⟩
  have HSZ : Hid (fsS.size = x.fs.length) := Lib.hid (by rw [hfs, bs_size])
  have HDATA : Hid (∀ (k : Nat) f, x.fs[k]? = some f → ∀ h, fsS[k]'h = f) := Lib.hid (by rw [hfs]; exact HDATA0.out)
  have hsz : (fsS.size : Int) = (x.fs.length : Int) := by rw [HSZ.out]
  have HFS := Lib.hid hfs
  have ha0 : FBox ((w.alloc (.cells (fmCells x).toArray 50)).alloc (.cells (cellsS s m z c) 31)) w.heap.size x := (heap_alloc_old _ _ (by simp)).trans (alloc_at _ _ _ rfl)
  have ha1 : SBox ((w.alloc (.cells (fmCells x).toArray 50)).alloc (.cells (cellsS s m z c) 31)) (w.heap.size + 1) s m z c := alloc_at _ _ _ (by simp)
  have HF := Lib.hid ha0
  have HS := Lib.hid ha1
  have HBW : Hid (Below w.heap.size w ((w.alloc (.cells (fmCells x).toArray 50)).alloc (.cells (cellsS s m z c) 31))) := Lib.hid (two_new2 w _ _)
  have HV1 := Lib.hid (hv.keep HBW.out)
  clear ha0 ha1 hfs hv hr hk HDATA0 hx
  show Calls _ _ #[.agg #[.string (bs x.w), .int .i64 x.k, .int .i64 x.c, .int .i64 x.o, .string (bs x.fs)], _] _ _
  go_enter Tryz.func12, Tryz.ntmps12
  go_wp2_with fail
  have hsz2 : ((w.alloc (.cells (fmCells x).toArray 50)).alloc (.cells (cellsS s m z c) 31)).heap.size = w.heap.size + 1 + 1 := by simp
  have hst : Strs (w.heap.size + 1 + 1) (((w.alloc (.cells (fmCells x).toArray 50)).alloc (.cells (cellsS s m z c) 31)).alloc (.cells #[.string (bs x.w)] 9)) (.slice (some ⟨w.heap.size + 1 + 1, 0, none⟩) 1 1) [x.w] := by
    have h := own_one ((w.alloc (.cells (fmCells x).toArray 50)).alloc (.cells (cellsS s m z c) 31)) (w.heap.size + 1 + 1) (.string (bs x.w)) (by rw [hsz2]; exact Nat.le_refl _)
    rw [hsz2] at h
    exact h
  change Code.wp _ _ _ _ (((w.alloc (.cells (fmCells x).toArray 50)).alloc (.cells (cellsS s m z c) 31)).alloc (.cells #[.string (bs x.w)] 9))
  have HST := Lib.hid hst
  have HB9 : Hid (Below ((w.alloc (.cells (fmCells x).toArray 50)).alloc (.cells (cellsS s m z c) 31)).heap.size ((w.alloc (.cells (fmCells x).toArray 50)).alloc (.cells (cellsS s m z c) 31)) (((w.alloc (.cells (fmCells x).toArray 50)).alloc (.cells (cellsS s m z c) 31)).alloc (.cells #[.string (bs x.w)] 9))) := Lib.hid (below_alloc _ _)
  have HF2 : Hid (FBox (((w.alloc (.cells (fmCells x).toArray 50)).alloc (.cells (cellsS s m z c) 31)).alloc (.cells #[.string (bs x.w)] 9)) w.heap.size x) := Lib.hid (HF.out.keep HB9.out)
  have HS2 : Hid (SBox (((w.alloc (.cells (fmCells x).toArray 50)).alloc (.cells (cellsS s m z c) 31)).alloc (.cells #[.string (bs x.w)] 9)) (w.heap.size + 1) s m z c) := Lib.hid (HS.out.keep HB9.out)
  have HV2 := Lib.hid (HV1.out.keep HB9.out)
  have HBW2 := Lib.hid (bstep' HBW.out HB9.out)
  have hbz : w.heap.size + 1 + 1 ≤ (((w.alloc (.cells (fmCells x).toArray 50)).alloc (.cells (cellsS s m z c) 31)).alloc (.cells #[.string (bs x.w)] 9)).heap.size := by have := HB9.out.size; omega
  have HLOW : Hid (Low (w.heap.size + 1 + 1)) := Lib.hid (by rw [← hsz2]; exact HV1.out.low)
  generalize ((w.alloc (.cells (fmCells x).toArray 50)).alloc (.cells (cellsS s m z c) 31)).alloc (.cells #[.string (bs x.w)] 9) = w2 at *
  obtain ⟨B, hB⟩ : ∃ B, B = w.heap.size + 1 + 1 := ⟨_, rfl⟩
  obtain ⟨sb, hsb⟩ : ∃ sb, sb = w.heap.size + 1 := ⟨_, rfl⟩
  obtain ⟨fb, hfb⟩ : ∃ fb, fb = w.heap.size := ⟨_, rfl⟩
  have HBB : Hid (w.heap.size ≤ B) := Lib.hid (by omega)
  have HLT : Hid (fb < B ∧ sb < B) := Lib.hid (by omega)
  rw [← hB] at HST HLOW hbz
  rw [← hsb] at HS2
  rw [← hfb] at HF2
  have HBZ := Lib.hid hbz
  rw [← hB, ← hsb, ← hfb, ← HFS.out]
  clear hst hsz2 hbz hB hsb hfb HF HS HV1 HBW HB9
  go_loopw [5, 20] (fun l c wr => ∃ (k : Nat) (acc : List Bs), c = .int .i64 (k : Int) ∧ AccI [x.w] x s k acc ∧ Strs B wr l acc ∧ Below B w2 wr) (fun _ c _ => ((x.fs.length : Int) - intOf c).toNat)
  case atStart => exact ⟨0, _, rfl, ⟨by omega, by simp⟩, HST.out, Below.refl _ _⟩
  case round =>
    obtain ⟨k, acc, rfl, ⟨hk, hacc⟩, hstr, hbl⟩ := hrel
    obtain ⟨oa, cap, rfl⟩ := hstr.form
    have HACC := Lib.hid hacc
    have HSTR := Lib.hid hstr
    have HBL := Lib.hid hbl
    have HBS : Hid (B ≤ wr.heap.size) := Lib.hid (Nat.le_trans HBZ.out hbl.size)
    have HFX : Hid (FBox wr fb x) := Lib.hid ((hbl.block fb HLT.out.1).trans HF2.out)
    have HSX : Hid (SBox wr sb s m z c) := Lib.hid ((hbl.block sb HLT.out.2).trans HS2.out)
    have HVR := Lib.hid (HV2.out.stay B hbl HLOW.out)
    have hal : acc.length ≤ 20 := by rw [hacc]; simp; omega
    clear hacc hstr hbl
    obtain ⟨f0, f1, f2, f3, f4⟩ := HFX.out.cells
    rw [← HFS.out] at f4
    by_cases hlt : k < x.fs.length
    · have hk1 : (k : Int) < (x.fs.length : Int) := by omega
      obtain ⟨f, hf⟩ : ∃ f, x.fs[k]? = some f := ⟨_, List.getElem?_eq_getElem hlt⟩
      have hget := idx_is fsS k (by rw [HSZ.out]; exact hlt) f (HDATA.out k f hf _) wr
      have HNX : Hid ([x.w] ++ (x.fs.take (k + 1)).map (fun f => getW s (place (s.a.k == 1) f)) = acc ++ [getW s (place (s.a.k == 1) f)]) := Lib.hid (by
        rw [HACC.out, List.take_add_one, hf, List.map_append, List.append_assoc]; rfl)
      clear hf
      go_wp2_with fail
      refine (write_any f sb s m c z wr HSX.out HVR.out HR.out).mono ?_
      rintro e w3 ⟨rfl, hb3⟩
      have HB3 := Lib.hid hb3
      have HOWN2 : Hid (w3.ownsRow B 9 1 (.slice oa acc.length cap) acc.length (acc.map strV)) := Lib.hid (own_below HSTR.out hb3)
      have HBS2 : Hid (B ≤ w3.heap.size) := Lib.hid (Nat.le_trans HBS.out hb3.size)
      have HBL2 : Hid (Below B w2 w3) := Lib.hid (HBL.out.trans (hb3.mono HBS.out))
      clear hb3 f0 f1 f2 f3 f4 hget
      obtain ⟨y, hy⟩ : ∃ y, y = getW s (place (s.a.k == 1) f) := ⟨_, rfl⟩
      rw [← hy]
      rw [← hy] at HNX
      clear hy
      go_wp2_with (at_builtin; refine wpList_append_new rfl _ _ 44 rfl B 9 i0 (.string ⟨#[]⟩) 1 16 Tryz.underlying44 hi hz0 hz1 hz2 rfl (by decide) _ _ _ (by rfl) HOWN2.out 1 1 (by rfl) rfl (by simp; rfl) (by unfold maxLen; omega) (by omega) HBS2.out ?_; intro oa2 cap2 w5 hown5 hbel5 _; have HS5 := Lib.hid hown5; have HB5 := Lib.hid (HBL2.out.trans hbel5); clear hown5 hbel5)
      first
        | exact ⟨⟨.slice oa2 (acc.length + 1) cap2, .int .i64 (k : Int), .int .i64 ((k + 1 : Nat) : Int), ⟨k + 1, rfl, acc ++ [y], ⟨by omega, HNX.out.symm⟩, Strs.snoc (x := y) rfl HS5.out, HB5.out⟩, rfl, rfl, by simp⟩, by simp [intOf]; omega⟩
        | exact ⟨⟨k + 1, acc ++ [y], by go_num, ⟨by omega, HNX.out.symm⟩, Strs.snoc (x := y) rfl HS5.out, HB5.out⟩, by simp [intOf]; omega⟩
    · obtain rfl : k = x.fs.length := by omega
      have HAL : Hid (acc = lineL x s) := Lib.hid (by rw [HACC.out, List.take_length]; exact HLL.out)
      have HRDS := Lib.hid (Rds.of_strs HSTR.out)
      have HCAP : Hid (acc.length ≤ cap) := Lib.hid (Strs.cap HSTR.out).2
      have HJL := Lib.hid hjl
      clear hlt hk
      go_wp2_with fail
      refine (joinw_any acc (by omega) (by rw [HAL.out]; exact HJL.out) oa cap HCAP.out wr HRDS.out).mono ?_
      rintro e w6 ⟨rfl, hb6⟩
      have HB6 : Hid (Below w.heap.size w w6) := Lib.hid (HBW2.out.trans ((HBL.out.mono HBB.out).trans (hb6.mono (Nat.le_trans HBB.out HBS.out))))
      clear hb6
      go_wp2_with fail
      go_ret
      exact ⟨congrArg (fun q => Ending.returned (.string (bs (joinW q)))) HAL.out, HB6.out⟩
set_option maxHeartbeats 3200000 in
theorem line_call (x : Fm) (hx : x.k = 1) (hfl : x.fs.length ≤ 10) (s : Stp) (hk : s.a.k = x.c) (hr : Num s) (hjl : (joinW (lineL x s)).length ≤ 1000000000) (m c : Value) (hm : m.oneCell' = true) (hc : c.oneCell' = true) (z : Int) (w : World) (hv : CV w) :
    Calls Tryz.prog 12 #[.agg (fmCells x).toArray, .agg (cellsS s m z c)] w fun e w' => e = .returned (.string (bs (joinW (lineL x s)))) ∧ Below w.heap.size w w' := by
  obtain ⟨i0, hi, hz0, hz1, hz2⟩ := info_parts strinfo
  have HR := Lib.hid hr
  have hk1 : (x.k == 1) = true := by rw [beq_iff_eq]; exact hx
  have HLL : Hid ([[99], Lib.itoa s.c, x.w] ++ x.fs.map (fun f => getW s (place (s.a.k == 1) f)) = lineL x s) := Lib.hid (by
    unfold lineL Fm.ps
    rw [if_pos hx, List.map_map, hk]; rfl)
  have HDATA0 : Hid (∀ (k : Nat) f, x.fs[k]? = some f → ∀ h, (bs x.fs)[k]'h = f) := Lib.hid (fun k f h h2 => by
    have := List.getElem?_eq_some_iff.1 h
    exact this.2)
  obtain ⟨fsS, hfs⟩ : ∃ fsS, fsS = bs x.fs := ⟨_, rfl⟩
  have HSZ : Hid (fsS.size = x.fs.length) := Lib.hid (by rw [hfs, bs_size])
  have HDATA : Hid (∀ (k : Nat) f, x.fs[k]? = some f → ∀ h, fsS[k]'h = f) := Lib.hid (by rw [hfs]; exact HDATA0.out)
  have hsz : (fsS.size : Int) = (x.fs.length : Int) := by rw [HSZ.out]
  have HFS := Lib.hid hfs
  have ha0 : FBox ((w.alloc (.cells (fmCells x).toArray 50)).alloc (.cells (cellsS s m z c) 31)) w.heap.size x := (heap_alloc_old _ _ (by simp)).trans (alloc_at _ _ _ rfl)
  have ha1 : SBox ((w.alloc (.cells (fmCells x).toArray 50)).alloc (.cells (cellsS s m z c) 31)) (w.heap.size + 1) s m z c := alloc_at _ _ _ (by simp)
  have HF := Lib.hid ha0
  have HS := Lib.hid ha1
  have HBW : Hid (Below w.heap.size w ((w.alloc (.cells (fmCells x).toArray 50)).alloc (.cells (cellsS s m z c) 31))) := Lib.hid (two_new2 w _ _)
  have HV1 := Lib.hid (hv.keep HBW.out)
  clear ha0 ha1 hfs hv hr hk HDATA0 hx
  show Calls _ _ #[.agg #[.string (bs x.w), .int .i64 x.k, .int .i64 x.c, .int .i64 x.o, .string (bs x.fs)], _] _ _
  go_enter Tryz.func12, Tryz.ntmps12
  go_wp2_with fail
  have hsz2 : ((w.alloc (.cells (fmCells x).toArray 50)).alloc (.cells (cellsS s m z c) 31)).heap.size = w.heap.size + 1 + 1 := by simp
  change Code.wp _ _ _ _ (((w.alloc (.cells (fmCells x).toArray 50)).alloc (.cells (cellsS s m z c) 31)).alloc (.cells #[.string (bs x.w)] 9))
  have HB8 : Hid (Below ((w.alloc (.cells (fmCells x).toArray 50)).alloc (.cells (cellsS s m z c) 31)).heap.size ((w.alloc (.cells (fmCells x).toArray 50)).alloc (.cells (cellsS s m z c) 31)) (((w.alloc (.cells (fmCells x).toArray 50)).alloc (.cells (cellsS s m z c) 31)).alloc (.cells #[.string (bs x.w)] 9))) := Lib.hid (below_alloc _ _)
  have HF8 := Lib.hid (HF.out.keep HB8.out)
  have HS8 := Lib.hid (HS.out.keep HB8.out)
  have HV8 := Lib.hid (HV1.out.keep HB8.out)
  have HB8b := Lib.hid (bstep' HBW.out HB8.out)
  have hbz : w.heap.size + 1 + 1 ≤ (((w.alloc (.cells (fmCells x).toArray 50)).alloc (.cells (cellsS s m z c) 31)).alloc (.cells #[.string (bs x.w)] 9)).heap.size := by have := HB8.out.size; omega
  have HLOW : Hid (Low (w.heap.size + 1 + 1)) := Lib.hid (by rw [← hsz2]; exact HV1.out.low)
  generalize ((w.alloc (.cells (fmCells x).toArray 50)).alloc (.cells (cellsS s m z c) 31)).alloc (.cells #[.string (bs x.w)] 9) = w8 at *
  clear hsz2 HF HS HV1 HBW HB8
  obtain ⟨B, hB⟩ : ∃ B, B = w.heap.size + 1 + 1 := ⟨_, rfl⟩
  obtain ⟨sb, hsb⟩ : ∃ sb, sb = w.heap.size + 1 := ⟨_, rfl⟩
  obtain ⟨fb, hfb⟩ : ∃ fb, fb = w.heap.size := ⟨_, rfl⟩
  have HBB : Hid (w.heap.size ≤ B) := Lib.hid (by omega)
  have HLT : Hid (fb < B ∧ sb < B) := Lib.hid (by omega)
  rw [← hB] at HLOW hbz
  rw [← hsb] at HS8
  rw [← hfb] at HF8
  rw [← hB, ← hsb, ← hfb, ← HFS.out]
  clear hB hsb hfb
  refine regionL 4 5 (fun W => Below w8.heap.size w8 W) (by kernel_rfl) rfl ?_
  have HS0 : Hid (Below w8.heap.size w8 w8.drew) := Lib.hid (Below.refl _ _).drew
  refine takeL 1 (some 14) (v := ?_) rfl (by kernel_rfl) (by kernel_rfl) (by kernel_rfl) (by kernel_rfl) (fun _ _ _ h => h) rfl rfl HS0.out ?_ ?_
  rotate_left
  · intro wq hq
    go_simp
    with_reducible rfl
  simp only [Act.put, List.setIfInBounds_toArray, List.set_cons_zero, List.set_cons_succ]
  refine takeL 2 (some 15) (v := ?_) rfl (by kernel_rfl) (by kernel_rfl) (by kernel_rfl) (by kernel_rfl) (fun _ _ _ h => h) rfl rfl HS0.out ?_ ?_
  rotate_left
  · intro wq hq
    obtain ⟨f0, f1, f2, f3, f4⟩ := (HF8.out.keep hq).cells
    go_simp
    with_reducible rfl
  simp only [Act.put, List.setIfInBounds_toArray, List.set_cons_zero, List.set_cons_succ]
  refine oneL 0 (by kernel_rfl) rfl rfl ?_
  refine wp_enters (some 13) (f := 24) (args := #[.pointer (some ⟨sb, 0, none⟩), .int .u8 99]) rfl ?_ (.string (bs (Lib.itoa s.c))) (fun W => Below w8.heap.size w8 W) ?_ ?_
  · go_simp
  · exact (write_is 99 99 rfl sb s m c z w8.drew (HS8.out.keep HS0.out) (HV8.out.keep HS0.out) HR.out).mono fun e w' ⟨h1, h2⟩ => ⟨h1, bstep' HS0.out h2⟩
  intro w4 hb4
  have HB4 := Lib.hid hb4
  clear hb4
  refine ⟨fun _ => HB4.out, ?_⟩
  simp only [Act.put, List.setIfInBounds_toArray, List.set_cons_zero, List.set_cons_succ]
  refine oneL 3 (by kernel_rfl) rfl rfl ?_
  refine wp_runs (some 16) rfl (w' := w4.alloc (.cells #[.string ⟨#[99]⟩, .string (bs (Lib.itoa s.c)), .string (bs x.w)] 9)) (v := .slice (some ⟨w4.heap.size, 0, none⟩) 3 3) ?_ ?_
  · go_simp
  have HB5 : Hid (Below w8.heap.size w8 (w4.alloc (.cells #[.string ⟨#[99]⟩, .string (bs (Lib.itoa s.c)), .string (bs x.w)] 9))) := Lib.hid (HB4.out.alloc HB4.out.size _)
  have HST : Hid (Strs B (w4.alloc (.cells #[.string ⟨#[99]⟩, .string (bs (Lib.itoa s.c)), .string (bs x.w)] 9)) (.slice (some ⟨w4.heap.size, 0, none⟩) 3 3) [[99], Lib.itoa s.c, x.w]) := Lib.hid (own_many w4 B #[.string ⟨#[99]⟩, .string (bs (Lib.itoa s.c)), .string (bs x.w)] 3 rfl (by omega) (Nat.le_trans hbz HB4.out.size) (by omega) (by simp [Value.oneCell']))
  refine ⟨fun _ => HB5.out, ?_⟩
  simp only [Act.put, List.setIfInBounds_toArray, List.set_cons_zero, List.set_cons_succ]
  generalize w4.alloc (.cells #[.string ⟨#[99]⟩, .string (bs (Lib.itoa s.c)), .string (bs x.w)] 9) = w2 at *
  generalize w4.heap.size = g4 at *
  refine oneL 4 (by kernel_rfl) rfl rfl ?_
  refine wp_runs (some 5) rfl (w' := w2) (v := .slice (some ⟨g4, 0, none⟩) 3 3) ?_ ?_
  · go_simp
  refine ⟨fun h => absurd rfl h, ?_⟩
  simp only [Act.put, List.setIfInBounds_toArray, List.set_cons_zero, List.set_cons_succ]
  refine doneL (by kernel_rfl) ?_
  simp only [Exit.then]
  have HF2 := Lib.hid (HF8.out.keep HB5.out)
  have HS2 := Lib.hid (HS8.out.keep HB5.out)
  have HV2 := Lib.hid (HV8.out.keep HB5.out)
  have HBW2 := Lib.hid (bstep' HB8b.out HB5.out)
  have HBZ : Hid (B ≤ w2.heap.size) := Lib.hid (Nat.le_trans hbz HB5.out.size)
  clear HF8 HS8 HV8 HB8b HB5 HB4 HS0 hbz
  obtain ⟨f0, f1, f2, f3, f4⟩ := HF2.out.cells
  rw [← HFS.out] at f4
  go_wp2_with fail
  clear f0 f1 f2 f3 f4
  go_loopw [5, 20] (fun l c wr => ∃ (k : Nat) (acc : List Bs), c = .int .i64 (k : Int) ∧ AccI [[99], Lib.itoa s.c, x.w] x s k acc ∧ Strs B wr l acc ∧ Below B w2 wr) (fun _ c _ => ((x.fs.length : Int) - intOf c).toNat)
  case atStart => exact ⟨0, _, rfl, ⟨by omega, by simp⟩, HST.out, Below.refl _ _⟩
  case round =>
    obtain ⟨k, acc, rfl, ⟨hk, hacc⟩, hstr, hbl⟩ := hrel
    obtain ⟨oa, cap, rfl⟩ := hstr.form
    have HACC := Lib.hid hacc
    have HSTR := Lib.hid hstr
    have HBL := Lib.hid hbl
    have HBS : Hid (B ≤ wr.heap.size) := Lib.hid (Nat.le_trans HBZ.out hbl.size)
    have HFX : Hid (FBox wr fb x) := Lib.hid ((hbl.block fb HLT.out.1).trans HF2.out)
    have HSX : Hid (SBox wr sb s m z c) := Lib.hid ((hbl.block sb HLT.out.2).trans HS2.out)
    have HVR := Lib.hid (HV2.out.stay B hbl HLOW.out)
    have hal : acc.length ≤ 20 := by rw [hacc]; simp; omega
    clear hacc hstr hbl
    obtain ⟨f0, f1, f2, f3, f4⟩ := HFX.out.cells
    rw [← HFS.out] at f4
    by_cases hlt : k < x.fs.length
    · have hk1 : (k : Int) < (x.fs.length : Int) := by omega
      obtain ⟨f, hf⟩ : ∃ f, x.fs[k]? = some f := ⟨_, List.getElem?_eq_getElem hlt⟩
      have hget := idx_is fsS k (by rw [HSZ.out]; exact hlt) f (HDATA.out k f hf _) wr
      have HNX : Hid ([[99], Lib.itoa s.c, x.w] ++ (x.fs.take (k + 1)).map (fun f => getW s (place (s.a.k == 1) f)) = acc ++ [getW s (place (s.a.k == 1) f)]) := Lib.hid (by
        rw [HACC.out, List.take_add_one, hf, List.map_append, List.append_assoc]; rfl)
      clear hf
      go_wp2_with fail
      refine (write_any f sb s m c z wr HSX.out HVR.out HR.out).mono ?_
      rintro e w3 ⟨rfl, hb3⟩
      have HB3 := Lib.hid hb3
      have HOWN2 : Hid (w3.ownsRow B 9 1 (.slice oa acc.length cap) acc.length (acc.map strV)) := Lib.hid (own_below HSTR.out hb3)
      have HBS2 : Hid (B ≤ w3.heap.size) := Lib.hid (Nat.le_trans HBS.out hb3.size)
      have HBL2 : Hid (Below B w2 w3) := Lib.hid (HBL.out.trans (hb3.mono HBS.out))
      clear hb3 f0 f1 f2 f3 f4 hget
      obtain ⟨y, hy⟩ : ∃ y, y = getW s (place (s.a.k == 1) f) := ⟨_, rfl⟩
      rw [← hy]
      rw [← hy] at HNX
      clear hy
      go_wp2_with (at_builtin; refine wpList_append_new rfl _ _ 44 rfl B 9 i0 (.string ⟨#[]⟩) 1 16 Tryz.underlying44 hi hz0 hz1 hz2 rfl (by decide) _ _ _ (by rfl) HOWN2.out 1 1 (by rfl) rfl (by simp; rfl) (by unfold maxLen; omega) (by omega) HBS2.out ?_; intro oa2 cap2 w5 hown5 hbel5 _; have HS5 := Lib.hid hown5; have HB5 := Lib.hid (HBL2.out.trans hbel5); clear hown5 hbel5)
      first
        | exact ⟨⟨.slice oa2 (acc.length + 1) cap2, .int .i64 (k : Int), .int .i64 ((k + 1 : Nat) : Int), ⟨k + 1, rfl, acc ++ [y], ⟨by omega, HNX.out.symm⟩, Strs.snoc (x := y) rfl HS5.out, HB5.out⟩, rfl, rfl, by simp⟩, by simp [intOf]; omega⟩
        | exact ⟨⟨k + 1, acc ++ [y], by go_num, ⟨by omega, HNX.out.symm⟩, Strs.snoc (x := y) rfl HS5.out, HB5.out⟩, by simp [intOf]; omega⟩
    · obtain rfl : k = x.fs.length := by omega
      have HAL : Hid (acc = lineL x s) := Lib.hid (by rw [HACC.out, List.take_length]; exact HLL.out)
      have HRDS := Lib.hid (Rds.of_strs HSTR.out)
      have HCAP : Hid (acc.length ≤ cap) := Lib.hid (Strs.cap HSTR.out).2
      have HJL := Lib.hid hjl
      clear hlt hk
      go_wp2_with fail
      refine (joinw_any acc (by omega) (by rw [HAL.out]; exact HJL.out) oa cap HCAP.out wr HRDS.out).mono ?_
      rintro e w6 ⟨rfl, hb6⟩
      have HB6 : Hid (Below w.heap.size w w6) := Lib.hid (HBW2.out.trans ((HBL.out.mono HBB.out).trans (hb6.mono (Nat.le_trans HBB.out HBS.out))))
      clear hb6
      go_wp2_with fail
      go_ret
      exact ⟨congrArg (fun q => Ending.returned (.string (bs (joinW q)))) HAL.out, HB6.out⟩
end Go.Proofs.YtiffmigihhcgcaaGreatDoor.ConW
