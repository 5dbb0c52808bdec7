/- MoveBuilds: the record that moves any parts, of any data. -/
import Derived.Test.YthnkpoagpjnopaaDoorMovRBuild
import Derived.Test.YthnkpoagpjnopaaDoorMovWakes
import Derived.Test.YthnkpoagpjnopaaDoorMovOpen
import Derived.Test.YthnkpoagpjnopaaDoorOpKeep
import Derived.Test.YthnkpoagpjnopaaDoorExtRow
namespace Go.Proofs.YthnkpoagpjnopaaDoor.MovW
set_option maxRecDepth 100000
open Go.RowKit MovP OpP OpW ExtW
theorem build_any (c q i : Int) (D : List Tx) (hD : ∀ d ∈ D, d.s.size ≤ 3000) (l : List Pt) (hl : l.length ≤ 60) (hok : ∀ x ∈ l, PtOk x) (oa : Option Addr) (cap b nb : Nat) (w : World) (hf : Fl w) (hm : TxIs w b nb (txt D)) (hp : PtsAt w.heap.size oa l w) :
    Calls Tryd.prog 8 #[.int .i64 c, .int .i64 q, .int .i64 i, .slice oa l.length cap, .map (some b)] w (BuildPost (buildR c q i D l) w) := by
  by_cases h0 : l = []
  · subst h0; exact build_none c q i _ cap oa D w
  · exact build_some c q i D hD l hl h0 hok oa cap b nb w hf hm hp
theorem rbuild_any (c q i : Int) (D : List Tx) (hD : ∀ d ∈ D, d.s.size ≤ 3000) (hDl : D.length ≤ 1000) (l : List Pt) (hl : l.length ≤ 60) (hok : ∀ x ∈ l, PtOk x) (oa od : Option Addr) (cap cd : Nat) (w : World) (hp : PtsAt w.heap.size oa l w) (hd : KAt encT 2 w.heap.size od D w) :
    Calls Tryd.prog 9 #[.int .i64 c, .int .i64 q, .int .i64 i, .slice oa l.length cap, .slice od D.length cd] w (BuildPost (buildR c q i D l) w) := by
  by_cases h0 : l = []
  · subst h0; exact rbuild_none c q i _ cap oa D w
  · exact rbuild_some c q i D hD hDl l hl h0 hok oa od cap cd w hp hd
theorem build_few (c q i : Int) (D : List Tx) (l : List Pt) (hl : l.length ≤ 60) : (buildR c q i D l).1.m.length ≤ 60 := by
  unfold buildR
  have hz : (zeroR : Rec).m.length ≤ 60 := by show 0 ≤ 60; omega
  split
  · exact hz
  · split
    · exact hz
    · split
      · exact hz
      · split
        · show (mvF l).1.length ≤ 60
          rw [mvF_len]; exact hl
        · exact hz
theorem pts_grow {oa : Option Addr} {l : List Pt} {w w' : World} (h : PtsAt w.heap.size oa l w) (hb : Below w.heap.size w w') : PtsAt w'.heap.size oa l w' := (h.below hb).mono hb.size
set_option maxHeartbeats 6400000 in
theorem builds_walk (a0 : Int) (_ : (Lit.int .i64 a0).wf = true) (a1 : Int) (_ : (Lit.int .i64 a1).wf = true) (a2 : Int) (_ : (Lit.int .i64 a2).wf = true) (oa : Option Addr) (cap : Nat) (l : List Pt) (hok : ∀ x ∈ l, PtOk x) (hnil : oa = none → l.length = 0 ∧ cap = 0)
    (od : Option Addr) (cd : Nat) (D : List Tx) (hokD : ∀ x ∈ D, aOk x.a) (_ : od = none → D.length = 0 ∧ cd = 0) (W : World) (hf : Fl W) (hp : PtsAt W.heap.size oa l W) (hd : KAt encT 2 W.heap.size od D W) :
    Calls Tryd.prog 3 #[.agg #[.int .i64 a0, .int .i64 a1, .int .i64 a2], .slice oa l.length cap, .slice od D.length cd] W fun e w' => e = .returned (.bool true) ∧ Below W.heap.size W w' := by
  have HF := Lib.hid hf
  have HP := Lib.hid hp
  have HDA := Lib.hid hd
  have HOK := Lib.hid hok
  have HOKD := Lib.hid hokD
  have HNIL := Lib.hid hnil
  have HB0 : Hid (Below W.heap.size W (W.alloc (.cells #[.int .i64 a0, .int .i64 a1, .int .i64 a2] 22))) := Lib.hid (below_alloc W _)
  clear hf hp hd hok hokD hnil
  by_cases hl : 60 < l.length
  · have hl1 : (60 : Int) < (l.length : Int) := by omega
    clear hl
    go_enter Tryd.func3, Tryd.ntmps3
    go_wp2_with (go_at_call 6; refine (wakes_any _ (HF.out.keep HB0.out)).mono ?_; rintro e w9 ⟨rfl, hb9⟩; have HB9 := Lib.hid (bstep HB0.out hb9); clear hb9)
    go_ret
    exact ⟨rfl, HB9.out⟩
  · have hl1 : decide ((60 : Int) < (l.length : Int)) = false := decide_eq_false (by omega)
    have HL : Hid (l.length ≤ 60) := Lib.hid (by omega)
    clear hl
    by_cases hdl : 60 < D.length
    · have hd1 : (60 : Int) < (D.length : Int) := by omega
      clear hdl
      go_enter Tryd.func3, Tryd.ntmps3
      go_wp2_with (go_at_call 6; refine (wakes_any _ (HF.out.keep HB0.out)).mono ?_; rintro e w9 ⟨rfl, hb9⟩; have HB9 := Lib.hid (bstep HB0.out hb9); clear hb9)
      go_ret
      exact ⟨rfl, HB9.out⟩
    · have hd1 : decide ((60 : Int) < (D.length : Int)) = false := decide_eq_false (by omega)
      have HDL : Hid (D.length ≤ 60) := Lib.hid (by omega)
      clear hdl
      go_enter Tryd.func3, Tryd.ntmps3
      go_wp2_with fail
      clear hl1 hd1
      have HC0 : Hid ((W.alloc (.cells #[.int .i64 a0, .int .i64 a1, .int .i64 a2] 22)).heap[W.heap.size]? = some (.cells #[.int .i64 a0, .int .i64 a1, .int .i64 a2] 22 (0, 0))) := Lib.hid (heap_alloc_new W _)
      generalize W.alloc (.cells #[.int .i64 a0, .int .i64 a1, .int .i64 a2] 22) = w0 at *
      go_loopw [7] (fun j wr => ∃ k : Nat, k ≤ D.length ∧ j = .int .i64 (k : Int) ∧ (∀ d ∈ D.take k, d.s.size ≤ 3000) ∧ wr = w0) (fun j _ => ((D.length : Int) - intOf j).toNat)
      case atStart => exact ⟨0, by omega, rfl, by simp, rfl⟩
      case round =>
        obtain ⟨k, hk, rfl, hsm, rfl⟩ := hrel
        have HSM := Lib.hid hsm
        have hdl := HDL.out
        clear hsm
        by_cases hlt : k < D.length
        · have hlt1 : (k : Int) < (D.length : Int) := by omega
          obtain ⟨d, hd⟩ : ∃ d, D[k]? = some d := ⟨_, List.getElem?_eq_getElem hlt⟩
          obtain ⟨ad, rfl, _, e0, e1⟩ := t_at (HDA.out.below HB0.out) hd
          have HTK := Lib.hid (take_one' hd)
          clear hd
          by_cases hs : 3000 < d.s.size
          · have hs1 : (3000 : Int) < (d.s.size : Int) := by omega
            clear hs
            go_wp2_with (go_at_call 6; refine (wakes_any _ (HF.out.keep HB0.out)).mono ?_; rintro e w9 ⟨rfl, hb9⟩; have HB9 := Lib.hid (bstep HB0.out hb9); clear hb9)
            try simp only [Exit.inBlock, Exit.then]
            go_ret
            exact ⟨rfl, HB9.out⟩
          · have hs1 : decide ((3000 : Int) < (d.s.size : Int)) = false := decide_eq_false (by omega)
            have HD2 : Hid (∀ y ∈ D.take k ++ [d], y.s.size ≤ 3000) := Lib.hid fun y hy => by
              rcases List.mem_append.1 hy with hy | hy
              · exact HSM.out y hy
              · rw [List.mem_singleton.1 hy]; omega
            clear hs
            go_wp2_with fail
            exact ⟨⟨k + 1, by omega, by simp, by rw [HTK.out]; exact HD2.out, trivial⟩, by simp [intOf]; omega⟩
        · obtain rfl : k = D.length := by omega
          rw [List.take_length] at HSM
          obtain ⟨r, y, hry⟩ : ∃ r y, buildR a0 a1 a2 D l = (r, y) := ⟨_, _, rfl⟩
          have HFEW : Hid (r.m.length ≤ 60) := Lib.hid (by have := build_few a0 a1 a2 D l HL.out; rw [hry] at this; exact this)
          have HBU : Hid (∀ (oi : Option Addr) (ci b nb : Nat) (w : World), Fl w → TxIs w b nb (txt D) → PtsAt w.heap.size oi l w → Calls Tryd.prog 8 #[.int .i64 a0, .int .i64 a1, .int .i64 a2, .slice oi l.length ci, .map (some b)] w (BuildPost (r, y) w)) := Lib.hid fun oi ci b nb w h1 h2 h3 => by
            rw [← hry]; exact build_any a0 a1 a2 D HSM.out l HL.out HOK.out oi ci b nb w h1 h2 h3
          have HRB : Hid (∀ (oi od : Option Addr) (ci cd : Nat) (w : World), PtsAt w.heap.size oi l w → KAt encT 2 w.heap.size od D w → Calls Tryd.prog 9 #[.int .i64 a0, .int .i64 a1, .int .i64 a2, .slice oi l.length ci, .slice od D.length cd] w (BuildPost (r, y) w)) := Lib.hid fun oi od ci cd w h1 h2 => by
            rw [← hry]; exact rbuild_any a0 a1 a2 D HSM.out (by have := HDL.out; omega) l HL.out HOK.out oi od ci cd w h1 h2
          obtain ⟨i0, hi, hz0, hz1, hz2⟩ := info_parts partinfo
          clear hry hlt hk
          have n0 := (new_cells HC0.out 0 (by simp)).1
          have n1 := (new_cells HC0.out 1 (by simp)).1
          have n2 := (new_cells HC0.out 2 (by simp)).1
          simp only [List.getElem_toArray, List.getElem_cons_zero, List.getElem_cons_succ] at n0 n1 n2
          go_wp2_with (first
            | (go_at_call 7; go_loud (refine (own_any od cd D (by have := HDL.out; omega) HOKD.out _ ((HDA.out.below HB0.out).mono HB0.out.size)).mono ?_; rintro e w1 ⟨b, nb, oe, ce, rfl, hm1, hd1, hb1⟩; have HM1 := Lib.hid hm1; have HD1 := Lib.hid hd1; have HB1 := Lib.hid (bstep HB0.out hb1); have HQ1 := Lib.hid hb1; clear hm1 hd1 hb1))
            | (at_builtin; go_loud (refine wpList_append_copy rfl _ _ 23 rfl 64 i0 (.agg #[.int .i64 0, .int .i64 0, .int .i64 0, .int .i64 0]) 4 32 Tryd.underlying23 hi hz0 hz1 hz2 rfl (by decide) (by rfl) oa l.length cap (cellsOf l) (by rfl) HNIL.out (cells_len l) (pts_news (HP.out.below HB1.out)) (cells_onecell l) (by have := HL.out; unfold maxLen; omega) (by have := HL.out; omega) ?_; intro oi ci w2 hown2 hb2; have HI2 : Hid (PtsAt w2.heap.size oi l w2) := Lib.hid (Row.pts hown2); have HB2 := Lib.hid (bstep HB1.out hb2); have HM2 := Lib.hid (MapIs.keep HM1.out hb2); have HD2 := Lib.hid (HD1.out.grow hb2); have hc2 := (hb2.block W.heap.size (lt_of_block ((HQ1.out.block _ (lt_of_block HC0.out)).trans HC0.out))).trans ((HQ1.out.block _ (lt_of_block HC0.out)).trans HC0.out); have HC2 := Lib.hid hc2; have n0 := (new_cells hc2 0 (by simp)).1; have n1 := (new_cells hc2 1 (by simp)).1; have n2 := (new_cells hc2 2 (by simp)).1; simp only [List.getElem_toArray, List.getElem_cons_zero, List.getElem_cons_succ] at n0 n1 n2; clear hown2 hb2 hc2))
            | (go_at_call 8; go_loud (refine (HBU.out oi ci b nb _ (HF.out.keep HB2.out) HM2.out HI2.out).mono ?_; rintro e w3 ⟨o3, m3, c3, rfl, hn3, hc3, hm3, hb3⟩; have HN3 := Lib.hid hn3; have HM3 := Lib.hid hm3; have HB3 := Lib.hid (bstep HB2.out (bstep hb3 (below_alloc w3 (.cells #[.int .i64 r.cl, .int .i64 r.sq, .int .i64 r.k, .string r.p, .string r.t, .int .i64 r.sz, .int .i64 r.h, .int .i64 r.o, .string r.d, .int .i64 r.tk, .int .i64 r.i, .slice o3 m3 c3] 34)))); have HI3 := Lib.hid (pts_grow (pts_grow HI2.out hb3) (below_alloc w3 (.cells #[.int .i64 r.cl, .int .i64 r.sq, .int .i64 r.k, .string r.p, .string r.t, .int .i64 r.sz, .int .i64 r.h, .int .i64 r.o, .string r.d, .int .i64 r.tk, .int .i64 r.i, .slice o3 m3 c3] 34))); have HD3 := Lib.hid ((HD2.out.grow hb3).grow (below_alloc w3 (.cells #[.int .i64 r.cl, .int .i64 r.sq, .int .i64 r.k, .string r.p, .string r.t, .int .i64 r.sz, .int .i64 r.h, .int .i64 r.o, .string r.d, .int .i64 r.tk, .int .i64 r.i, .slice o3 m3 c3] 34))); have HC3 : Hid (w3.heap[W.heap.size]? = some (.cells #[.int .i64 a0, .int .i64 a1, .int .i64 a2] 22 (0, 0))) := Lib.hid ((hb3.block W.heap.size (lt_of_block HC2.out)).trans HC2.out); have z3 : W.heap.size < w3.heap.size := lt_of_block HC3.out; clear n0 n1 n2; have n0 := (new_cells HC3.out 0 (by simp)).1; have n1 := (new_cells HC3.out 1 (by simp)).1; have n2 := (new_cells HC3.out 2 (by simp)).1; simp only [List.getElem_toArray, List.getElem_cons_zero, List.getElem_cons_succ] at n0 n1 n2; clear hn3 hc3 hm3 hb3))
            | (go_at_call 9; go_loud (refine (HRB.out oa oe cap ce _ ((HP.out.below HB3.out).mono HB3.out.size) HD3.out).mono ?_; rintro e w4 ⟨o4, m4, c4, rfl, hn4, hc4, hm4, hb4⟩; have HN4 := Lib.hid hn4; have HM4 := Lib.hid (hm4.grow (below_alloc w4 (.cells #[.int .i64 r.cl, .int .i64 r.sq, .int .i64 r.k, .string r.p, .string r.t, .int .i64 r.sz, .int .i64 r.h, .int .i64 r.o, .string r.d, .int .i64 r.tk, .int .i64 r.i, .slice o4 m4 c4] 34))); have HB4 := Lib.hid (bstep HB3.out (bstep hb4 (below_alloc w4 (.cells #[.int .i64 r.cl, .int .i64 r.sq, .int .i64 r.k, .string r.p, .string r.t, .int .i64 r.sz, .int .i64 r.h, .int .i64 r.o, .string r.d, .int .i64 r.tk, .int .i64 r.i, .slice o4 m4 c4] 34)))); have HI4 := Lib.hid (pts_grow (pts_grow HI3.out hb4) (below_alloc w4 (.cells #[.int .i64 r.cl, .int .i64 r.sq, .int .i64 r.k, .string r.p, .string r.t, .int .i64 r.sz, .int .i64 r.h, .int .i64 r.o, .string r.d, .int .i64 r.tk, .int .i64 r.i, .slice o4 m4 c4] 34))); have HMA4 := Lib.hid (((HM3.out.grow (below_alloc w3 (.cells #[.int .i64 r.cl, .int .i64 r.sq, .int .i64 r.k, .string r.p, .string r.t, .int .i64 r.sz, .int .i64 r.h, .int .i64 r.o, .string r.d, .int .i64 r.tk, .int .i64 r.i, .slice o3 m3 c3] 34))).grow hb4).grow (below_alloc w4 (.cells #[.int .i64 r.cl, .int .i64 r.sq, .int .i64 r.k, .string r.p, .string r.t, .int .i64 r.sz, .int .i64 r.h, .int .i64 r.o, .string r.d, .int .i64 r.tk, .int .i64 r.i, .slice o4 m4 c4] 34))); have hxa : OBox w4 w3.heap.size r (.slice o3 m3 c3) := new_kept hb4; have z4 : w3.heap.size < w4.heap.size := lt_of_block hxa; have HXA4 : Hid (OBox (w4.alloc (.cells #[.int .i64 r.cl, .int .i64 r.sq, .int .i64 r.k, .string r.p, .string r.t, .int .i64 r.sz, .int .i64 r.h, .int .i64 r.o, .string r.d, .int .i64 r.tk, .int .i64 r.i, .slice o4 m4 c4] 34)) w3.heap.size r (.slice o3 m3 c3)) := Lib.hid (hxa.keep (below_alloc w4 _)); obtain ⟨s0, s1, s2, s3, s4, s5, s6, s7, s8, s9, s10, s11⟩ := hxa.cells; clear hn4 hc4 hm4 hb4 hxa n0 n1 n2 z3))
            | (go_at_call 10; go_loud (refine (data_any r (.slice o3 m3 c3) _).mono ?_; rintro e w5 ⟨rfl, hb5⟩; have hxa := HXA4.out.keep hb5; have hxb : OBox w5 w4.heap.size r (.slice o4 m4 c4) := new_kept hb5; have HXA5 := Lib.hid hxa; have HXB5 := Lib.hid hxb; have HB5 := Lib.hid (bstep HB4.out hb5); have HI5 := Lib.hid (pts_grow HI4.out hb5); have HMA5 := Lib.hid (HMA4.out.grow hb5); have HMB5 := Lib.hid (HM4.out.grow hb5); clear s0 s1 s2 s3 s4 s5 s6 s7 s8 s9 s10 s11 z4; obtain ⟨t0, t1, t2, t3, t4, t5, t6, t7, t8, t9, t10, t11⟩ := hxb.cells; clear hb5 hxa hxb))
            | (go_at_call 11; go_loud (refine (rdata_any r (.slice o4 m4 c4) _).mono ?_; rintro e w6 ⟨rfl, hb6⟩; have hxa := HXA5.out.keep hb6; have hxb := HXB5.out.keep hb6; have HB6 := Lib.hid (bstep HB5.out hb6); have HI6 := Lib.hid (pts_grow HI5.out hb6); have HMA6 := Lib.hid (HMA5.out.grow hb6); have HMB6 := Lib.hid (HMB5.out.grow hb6); clear t0 t1 t2 t3 t4 t5 t6 t7 t8 t9 t10 t11; obtain ⟨s0, s1, s2, s3, s4, s5, s6, s7, s8, s9, s10, s11⟩ := hxa.cells; obtain ⟨t0, t1, t2, t3, t4, t5, t6, t7, t8, t9, t10, t11⟩ := hxb.cells; clear hb6 hxa hxb))
            | (go_at_call 12; go_loud (refine (keep_is r r true (sameB_iff r r |>.2 rfl) o3 o4 m3 m4 c3 c4 HN3.out HN4.out (by have := HFEW.out; omega) (by have := HFEW.out; omega) _ HMA6.out HMB6.out).mono ?_; rintro e w7 ⟨rfl, hb7⟩; have HB7 := Lib.hid (bstep HB6.out hb7); have HI7 := Lib.hid (pts_grow HI6.out hb7); clear hb7))
            | (go_at_call 13; go_loud (refine (parts_same oi oa _ _ ci cap l rfl rfl (by have := HL.out; omega) _ HI7.out ((HP.out.below HB7.out).mono HB7.out.size)).mono ?_; rintro e w8 ⟨rfl, hb8⟩; have HB8 := Lib.hid (bstep HB7.out hb8); clear hb8))
            | (go_at_call 6; go_loud (refine (wakes_any _ (HF.out.keep HB8.out)).mono ?_; rintro e w9 ⟨rfl, hb9⟩; have HB9 := Lib.hid (bstep HB8.out hb9); clear hb9)))
          go_ret
          exact ⟨rfl, HB9.out⟩
end Go.Proofs.YthnkpoagpjnopaaDoor.MovW
