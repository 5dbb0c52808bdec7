/- The walk of escheatref28.Build. -/
import Derived.Test.YthnkpoagpjnopaaDoorMovBuild
import Derived.Test.YthnkpoagpjnopaaDoorOpRGood
import Derived.Test.YthnkpoagpjnopaaDoorDraw
namespace Go.Proofs.YthnkpoagpjnopaaDoor.MovW
set_option maxRecDepth 100000
open Go.RowKit MovP OpP OpW ExtW
def gl (l : List Pt) : List Pt := l.filter fun x => !badB x
theorem gl_good {l : List Pt} {x : Pt} (h : badB x = false) : gl (l ++ [x]) = gl l ++ [x] := by unfold gl; rw [List.filter_append]; simp [h]
theorem gl_bad {l : List Pt} {x : Pt} (h : badB x = true) : gl (l ++ [x]) = gl l := by unfold gl; rw [List.filter_append]; simp [h]
theorem gl_all {l : List Pt} (h : ∀ x ∈ l, badB x = false) : gl l = l := by unfold gl; rw [List.filter_eq_self]; exact fun x hx => by rw [h x hx]; rfl
theorem any_snoc (l : List Pt) (x : Pt) : (l ++ [x]).any badB = (l.any badB || badB x) := by simp
theorem cell_b {B : Nat} {w w' : World} {p : Addr} {v : Value} (h : Below B w w') (c : w.cell? p = some v) (hp : p.block < B) : w'.cell? p = some v := (h.cell hp).trans c
set_option maxHeartbeats 800000 in
theorem rbuild_none (c q i : Int) (v : Value) (cap : Nat) (oa : Option Addr) (D : List Tx) (w : World) :
    Calls Tryd.prog 9 #[.int .i64 c, .int .i64 q, .int .i64 i, .slice oa 0 cap, v] w (BuildPost (buildR c q i D []) w) := by
  rw [build_nil]
  have HR := Lib.hid (heap_alloc_new w (.cells #[.int .i64 0, .int .i64 0, .int .i64 0, .string ⟨#[]⟩, .string ⟨#[]⟩, .int .i64 0, .int .i64 0, .int .i64 0, .string ⟨#[]⟩, .int .i64 0, .int .i64 0, .slice none 0 0] 34))
  go_enter Tryd.func9, Tryd.ntmps9
  go_wp2_with ((with_reducible (refine wpList_store_rowTo rfl 34 (Operand.tmp 10) (Operand.tmp 21) rfl rfl w.heap.size #[.int .i64 0, .int .i64 0, .int .i64 0, .string ⟨#[]⟩, .string ⟨#[]⟩, .int .i64 0, .int .i64 0, .int .i64 0, .string ⟨#[]⟩, .int .i64 0, .int .i64 0, .slice none 0 0] ?_ ?_ 34 #[.int .i64 0, .int .i64 0, .int .i64 0, .string ⟨#[]⟩, .string ⟨#[]⟩, .int .i64 0, .int .i64 0, .int .i64 0, .string ⟨#[]⟩, .int .i64 0, .int .i64 0, .slice none 0 0] ?_ ?_ ?_ ?_ ?_)); (· rfl); (· rfl); (· exact HR.out); (· exact opSize); (· rfl); (· simp [Value.oneCell']))
  refine ret_row (p := 10) (u := 11) rfl rfl rfl (setRow_heap _ _ _ _ _ _ HR.out) Tryd.underlying34 rfl opSize ?_
  exact build_zero 1 _ _ (below_setRow (below_alloc w _) (Nat.le_refl _) _)
set_option maxHeartbeats 12800000 in
theorem rbuild_some (c q i : Int) (D : List Tx) (hD : ∀ d ∈ D, d.s.size ≤ 3000) (hDl : D.length ≤ 1000) (l : List Pt) (hl : l.length ≤ 60) (h0 : l ≠ []) (hok : ∀ x ∈ l, PtOk x) (oa od : Option Addr) (cap cd : Nat) (w : World) (hp : PtsAt w.heap.size oa l w) (hd : KAt encT 2 w.heap.size od D w) :
    Calls Tryd.prog 9 #[.int .i64 c, .int .i64 q, .int .i64 i, .slice oa l.length cap, .slice od D.length cd] w (BuildPost (buildR c q i D l) w) := by
  have HD := Lib.hid hD
  have HDL := Lib.hid hDl
  have HL := Lib.hid hl
  have HOK := Lib.hid hok
  have HP := Lib.hid hp
  have HDA := Lib.hid hd
  have H0 := Lib.hid h0
  have hpos : 0 < l.length := List.length_pos_iff.2 h0
  have hl0 : ((l.length : Int) == 0) = false := by rw [beq_eq_false_iff_ne]; omega
  obtain ⟨j0, hj, hj0, hj1, hj2⟩ := info_parts mvinfo
  obtain ⟨rb, hrb⟩ : ∃ rb, rb = w.heap.size := ⟨_, rfl⟩
  obtain ⟨ob, hob⟩ : ∃ ob, ob = rb + 1 := ⟨_, rfl⟩
  have HR0 : Hid (((w.alloc (.cells #[.int .i64 0, .int .i64 0, .int .i64 0, .string ⟨#[]⟩, .string ⟨#[]⟩, .int .i64 0, .int .i64 0, .int .i64 0, .string ⟨#[]⟩, .int .i64 0, .int .i64 0, .slice none 0 0] 34)).alloc (.cells #[.int .i64 c, .int .i64 q, .int .i64 13, .string ⟨#[]⟩, .string ⟨#[]⟩, .int .i64 0, .int .i64 0, .int .i64 0, .string ⟨#[]⟩, .int .i64 0, .int .i64 i, .slice none 0 0] 34)).heap[rb]? = some (.cells #[.int .i64 0, .int .i64 0, .int .i64 0, .string ⟨#[]⟩, .string ⟨#[]⟩, .int .i64 0, .int .i64 0, .int .i64 0, .string ⟨#[]⟩, .int .i64 0, .int .i64 0, .slice none 0 0] 34 (0, 0))) := Lib.hid (by rw [hrb]; exact (heap_alloc_old _ _ (by simp)).trans (heap_alloc_new w _))
  have HO0 : Hid (((w.alloc (.cells #[.int .i64 0, .int .i64 0, .int .i64 0, .string ⟨#[]⟩, .string ⟨#[]⟩, .int .i64 0, .int .i64 0, .int .i64 0, .string ⟨#[]⟩, .int .i64 0, .int .i64 0, .slice none 0 0] 34)).alloc (.cells #[.int .i64 c, .int .i64 q, .int .i64 13, .string ⟨#[]⟩, .string ⟨#[]⟩, .int .i64 0, .int .i64 0, .int .i64 0, .string ⟨#[]⟩, .int .i64 0, .int .i64 i, .slice none 0 0] 34)).heap[ob]? = some (.cells #[.int .i64 c, .int .i64 q, .int .i64 13, .string ⟨#[]⟩, .string ⟨#[]⟩, .int .i64 0, .int .i64 0, .int .i64 0, .string ⟨#[]⟩, .int .i64 0, .int .i64 i, .slice none 0 0] 34 (0, 0))) := Lib.hid (by
    have := heap_alloc_new (w.alloc (.cells #[.int .i64 0, .int .i64 0, .int .i64 0, .string ⟨#[]⟩, .string ⟨#[]⟩, .int .i64 0, .int .i64 0, .int .i64 0, .string ⟨#[]⟩, .int .i64 0, .int .i64 0, .slice none 0 0] 34)) (.cells #[.int .i64 c, .int .i64 q, .int .i64 13, .string ⟨#[]⟩, .string ⟨#[]⟩, .int .i64 0, .int .i64 0, .int .i64 0, .string ⟨#[]⟩, .int .i64 0, .int .i64 i, .slice none 0 0] 34)
    rwa [show (w.alloc (.cells #[.int .i64 0, .int .i64 0, .int .i64 0, .string ⟨#[]⟩, .string ⟨#[]⟩, .int .i64 0, .int .i64 0, .int .i64 0, .string ⟨#[]⟩, .int .i64 0, .int .i64 0, .slice none 0 0] 34)).heap.size = w.heap.size + 1 by simp, ← hrb, ← hob] at this)
  have HB0 : Hid (Below w.heap.size w ((w.alloc (.cells #[.int .i64 0, .int .i64 0, .int .i64 0, .string ⟨#[]⟩, .string ⟨#[]⟩, .int .i64 0, .int .i64 0, .int .i64 0, .string ⟨#[]⟩, .int .i64 0, .int .i64 0, .slice none 0 0] 34)).alloc (.cells #[.int .i64 c, .int .i64 q, .int .i64 13, .string ⟨#[]⟩, .string ⟨#[]⟩, .int .i64 0, .int .i64 0, .int .i64 0, .string ⟨#[]⟩, .int .i64 0, .int .i64 i, .slice none 0 0] 34))) := Lib.hid (bstep (below_alloc w _) (below_alloc _ _))
  clear hD hl hok hp h0 hd hDl
  go_enter Tryd.func9, Tryd.ntmps9
  go_wp2_with fail
  rw [← hrb, ← hob]
  have HRB := Lib.hid hrb
  have HOB := Lib.hid hob
  clear hrb hob
  generalize (w.alloc (.cells #[.int .i64 0, .int .i64 0, .int .i64 0, .string ⟨#[]⟩, .string ⟨#[]⟩, .int .i64 0, .int .i64 0, .int .i64 0, .string ⟨#[]⟩, .int .i64 0, .int .i64 0, .slice none 0 0] 34)).alloc (.cells #[.int .i64 c, .int .i64 q, .int .i64 13, .string ⟨#[]⟩, .string ⟨#[]⟩, .int .i64 0, .int .i64 0, .int .i64 0, .string ⟨#[]⟩, .int .i64 0, .int .i64 i, .slice none 0 0] 34) = w1 at *
  go_loopw [13, 14] (fun vb j wr => ∃ (k n2 : Nat) (oa2 : Option Addr) (c2 : Nat), k ≤ l.length ∧ j = .int .i64 (k : Int) ∧ vb = .bool ((l.take k).any badB) ∧ n2 = (mvF (gl (l.take k))).1.length ∧ wr.heap[rb]? = some (.cells #[.int .i64 0, .int .i64 0, .int .i64 0, .string ⟨#[]⟩, .string ⟨#[]⟩, .int .i64 0, .int .i64 0, .int .i64 0, .string ⟨#[]⟩, .int .i64 0, .int .i64 0, .slice none 0 0] 34 (0, 0)) ∧ wr.heap[ob]? = some (.cells #[.int .i64 c, .int .i64 q, .int .i64 13, .string ⟨#[]⟩, .string ⟨#[]⟩, .int .i64 0, .int .i64 0, .int .i64 0, .string (datF D (gl (l.take k))), .int .i64 0, .int .i64 i, .slice oa2 n2 c2] 34 (0, 0)) ∧ wr.ownsRow (ob + 1) 69 4 (.slice oa2 n2 c2) n2 ((mvF (gl (l.take k))).1.flatMap encM) ∧ (∀ x ∈ l.take k, missB D x = false) ∧ Below w.heap.size w wr) (fun _ j _ => ((l.length : Int) - intOf j).toNat)
  case atStart => exact ⟨0, 0, none, 0, by omega, rfl, rfl, rfl, HR0.out, HO0.out, RowK.nil (α := Mv) (enc := encM) _ _, by simp, HB0.out⟩
  case round =>
    obtain ⟨k, n2, oa2, c2, hk, rfl, rfl, hn2, hres, hbx, hrow, hnm, hbel⟩ := hrel
    have HN2 := Lib.hid hn2
    have HRES := Lib.hid hres
    have HBX := Lib.hid hbx
    have HROW := Lib.hid hrow
    have HNM := Lib.hid hnm
    have HBW := Lib.hid hbel
    obtain ⟨wo, rfl⟩ : ∃ wo, wo = wr := ⟨_, rfl⟩
    have hlo : ob + 1 ≤ wo.heap.size := lt_of_block hbx
    have HLO := Lib.hid hlo
    obtain ⟨Bd, hBd⟩ : ∃ Bd, (l.take k).any badB = Bd := ⟨_, rfl⟩
    have HBD := Lib.hid hBd
    rw [hBd]
    clear hn2 hres hbx hrow hnm hbel hBd
    have hl60 := HL.out
    by_cases hlt : k < l.length
    · have hlt1 : (k : Int) < (l.length : Int) := by omega
      obtain ⟨x, hx⟩ : ∃ x, l[k]? = some x := ⟨_, List.getElem?_eq_getElem hlt⟩
      obtain ⟨a, rfl, hab, d0, d1, d2, d3⟩ := (HP.out.below HBW.out) k x hx
      have HX := Lib.hid hx
      have HXO := Lib.hid (HOK.out x (List.mem_of_getElem? hx))
      have HAB := Lib.hid hab
      have HD0 := Lib.hid d0
      have HD1 := Lib.hid d1
      have HD2 := Lib.hid d2
      have HD3 := Lib.hid d3
      have hk0 : (0 : Int) ≤ (k : Int) := by omega
      clear hx hab d0 d1 d2 d3
      go_wp2_with fail
      go_loopw [15, 16, 17] (fun vs vo j wq => ∃ m : Nat, m ≤ D.length ∧ j = .int .i64 (m : Int) ∧ vs = .string ((txt (D.take m) x.a).getD ⟨#[]⟩) ∧ vo = .bool (txt (D.take m) x.a).isSome ∧ Below wo.heap.size wo wq) (fun _ _ j _ => ((D.length : Int) - intOf j).toNat)
      case atStart => exact ⟨0, by omega, rfl, rfl, rfl, Below.refl _ _⟩
      case round =>
        obtain ⟨m, hm, rfl, rfl, rfl, hbq⟩ := hrel
        have HBQ := Lib.hid hbq
        have HBWQ : Hid (Below w.heap.size w wr) := Lib.hid (HBW.out.trans (hbq.mono HBW.out.size))
        clear hbq
        have hdl := HDL.out
        by_cases hlm : m < D.length
        · have hlm1 : (m : Int) < (D.length : Int) := by omega
          have hm0 : (0 : Int) ≤ (m : Int) := by omega
          obtain ⟨d, hd⟩ : ∃ d, D[m]? = some d := ⟨_, List.getElem?_eq_getElem hlm⟩
          obtain ⟨ad, rfl, _, e0, e1⟩ := t_at (HDA.out.below HBWQ.out) hd
          have c2' := cell_step HBQ.out HD2.out
          have HT : Hid (txt (D.take (m + 1)) x.a = if d.a = x.a then some d.s else txt (D.take m) x.a) := Lib.hid (by rw [take_one' hd, txt_snoc])
          clear hd
          by_cases hda : d.a = x.a
          · rw [if_pos hda] at HT
            have hb : (d.a == x.a) = true := beq_iff_eq.2 hda
            clear hda
            go_wp2_with fail
            go_quiet (fail)
            go_wp2_with fail
            exact ⟨⟨m + 1, by omega, by simp, by rw [HT.out]; rfl, by rw [HT.out]; rfl, below_drewN HBQ.out _⟩, by simp [intOf]; omega⟩
          · rw [if_neg hda] at HT
            have hb : (d.a == x.a) = false := beq_eq_false_iff_ne.2 hda
            clear hda
            generalize txt (D.take m) x.a = tm at *
            go_wp2_with fail
            go_quiet (fail)
            go_wp2_with fail
            exact ⟨⟨m + 1, by omega, by simp, by rw [HT.out], by rw [HT.out], below_drewN HBQ.out _⟩, by simp [intOf]; omega⟩
        · obtain rfl : m = D.length := by omega
          rw [List.take_length]
          have HRQ : Hid (wr.heap[rb]? = some (.cells #[.int .i64 0, .int .i64 0, .int .i64 0, .string ⟨#[]⟩, .string ⟨#[]⟩, .int .i64 0, .int .i64 0, .int .i64 0, .string ⟨#[]⟩, .int .i64 0, .int .i64 0, .slice none 0 0] 34 (0, 0))) := Lib.hid ((HBQ.out.block rb (lt_of_block HRES.out)).trans HRES.out)
          have HTK := Lib.hid (take_one' HX.out)
          clear hlm
          cases ht : txt D x.a with
          | none =>
            have HE : Hid (buildR c q i D l = (zeroR, 60)) := Lib.hid (build_miss c q i HX.out (by unfold missB; rw [ht]))
            clear ht
            simp only [Option.isSome_none, Option.getD_none]
            go_wp2_with ((with_reducible (refine wpList_store_rowTo rfl 34 (Operand.tmp 10) (Operand.tmp 64) rfl rfl rb #[.int .i64 0, .int .i64 0, .int .i64 0, .string ⟨#[]⟩, .string ⟨#[]⟩, .int .i64 0, .int .i64 0, .int .i64 0, .string ⟨#[]⟩, .int .i64 0, .int .i64 0, .slice none 0 0] ?_ ?_ 34 #[.int .i64 0, .int .i64 0, .int .i64 0, .string ⟨#[]⟩, .string ⟨#[]⟩, .int .i64 0, .int .i64 0, .int .i64 0, .string ⟨#[]⟩, .int .i64 0, .int .i64 0, .slice none 0 0] ?_ ?_ ?_ ?_ ?_)); (· rfl); (· rfl); (· exact HRQ.out); (· exact opSize); (· rfl); (· simp [Value.oneCell']))
            try simp only [Exit.inBlock, Exit.then]
            refine ret_row (p := 10) (u := 11) rfl rfl rfl (setRow_heap _ _ _ _ _ _ (HRQ.out)) Tryd.underlying34 rfl opSize ?_
            rw [HE.out]
            exact build_zero 60 _ _ (below_setRow (HBWQ.out) (by rw [HRB.out]; exact Nat.le_refl _) _)
          | some s =>
            have HG := Lib.hid ht
            have HSZ : Hid (s.size ≤ 3000) := Lib.hid (txt_size HD.out ht)
            have HMS : Hid (missB D x = shortB s x) := Lib.hid (by unfold missB; rw [ht])
            have c0' := cell_step HBQ.out HD0.out
            have c1' := cell_step HBQ.out HD1.out
            have c2' := cell_step HBQ.out HD2.out
            have c3' := cell_step HBQ.out HD3.out
            simp only [Option.isSome_some, Option.getD_some]
            clear ht
            cases hsb : shortB s x with
            | true =>
              have HSH : Hid (∀ W, Calls Tryd.prog 23 #[.string s, .agg #[.int .i64 x.o, .int .i64 x.n, .int .i64 x.a, .int .i64 x.f]] W fun e W' => e = .returned (.bool true) ∧ Below W.heap.size W W') := Lib.hid fun W => by rw [← hsb]; exact short_any s (by have := HSZ.out; omega) x HXO.out W
              have HE : Hid (buildR c q i D l = (zeroR, 60)) := Lib.hid (build_miss c q i HX.out (by rw [HMS.out]; exact hsb))
              clear hsb
              go_wp2_with (first
                | (go_at_call 23; go_loud (refine (HSH.out _).mono ?_; rintro e w8 ⟨rfl, hb8⟩; have HB8 := Lib.hid hb8; clear hb8))
                | ((with_reducible (refine wpList_store_rowTo rfl 34 (Operand.tmp 10) (Operand.tmp 64) rfl rfl rb #[.int .i64 0, .int .i64 0, .int .i64 0, .string ⟨#[]⟩, .string ⟨#[]⟩, .int .i64 0, .int .i64 0, .int .i64 0, .string ⟨#[]⟩, .int .i64 0, .int .i64 0, .slice none 0 0] ?_ ?_ 34 #[.int .i64 0, .int .i64 0, .int .i64 0, .string ⟨#[]⟩, .string ⟨#[]⟩, .int .i64 0, .int .i64 0, .int .i64 0, .string ⟨#[]⟩, .int .i64 0, .int .i64 0, .slice none 0 0] ?_ ?_ ?_ ?_ ?_)); (· rfl); (· rfl); (· exact (HB8.out.block rb (lt_of_block HRQ.out)).trans HRQ.out); (· exact opSize); (· rfl); (· simp [Value.oneCell'])))
              try simp only [Exit.inBlock, Exit.then]
              refine ret_row (p := 10) (u := 11) rfl rfl rfl (setRow_heap _ _ _ _ _ _ ((HB8.out.block rb (lt_of_block HRQ.out)).trans HRQ.out)) Tryd.underlying34 rfl opSize ?_
              rw [HE.out]
              exact build_zero 60 _ _ (below_setRow (bstep HBWQ.out HB8.out) (by rw [HRB.out]; exact Nat.le_refl _) _)
            | false =>
              have HSH : Hid (∀ W, Calls Tryd.prog 23 #[.string s, .agg #[.int .i64 x.o, .int .i64 x.n, .int .i64 x.a, .int .i64 x.f]] W fun e W' => e = .returned (.bool false) ∧ Below W.heap.size W W') := Lib.hid fun W => by rw [← hsb]; exact short_any s (by have := HSZ.out; omega) x HXO.out W
              have HMX : Hid (missB D x = false) := Lib.hid (by rw [HMS.out]; exact hsb)
              have HNM2 : Hid (∀ y ∈ l.take k ++ [x], missB D y = false) := Lib.hid fun y hy => by
                rcases List.mem_append.1 hy with hy | hy
                · exact HNM.out y hy
                · rw [List.mem_singleton.1 hy]; exact HMX.out
              clear hsb
              cases hbad : badB x with
              | true =>
                have HGL : Hid (gl (l.take k ++ [x]) = gl (l.take k)) := Lib.hid (gl_bad hbad)
                have HAN : Hid ((l.take k ++ [x]).any badB = true) := Lib.hid (by rw [any_snoc, hbad, Bool.or_true])
                have hb2 : x.f < 0 ∨ (0 ≤ x.f ∧ x.n < 1) := by have := of_decide_eq_true hbad; omega
                clear hbad
                rcases hb2 with h1 | ⟨h1, h2⟩
                · have p3 := HD3.out
                  have p1 := HD1.out
                  go_wp2_with (go_at_call 23; go_loud (refine (HSH.out _).mono ?_; rintro e w8 ⟨rfl, hb8⟩; have HB8 := Lib.hid hb8; have r1 := cell_step hb8 c1'; have r3 := cell_step hb8 c3'; clear hb8))
                  have HBO8 : Hid (Below wo.heap.size wo w8) := Lib.hid (bstep HBQ.out HB8.out)
                  exact ⟨⟨k + 1, n2, oa2, c2, by omega, by simp, by rw [HTK.out, HAN.out], by rw [HTK.out, HGL.out]; exact HN2.out, (HB8.out.block rb (lt_of_block HRQ.out)).trans HRQ.out, by rw [HTK.out, HGL.out]; exact (HBO8.out.block ob HLO.out).trans HBX.out, by rw [HTK.out, HGL.out]; exact own_grow HROW.out HBO8.out, by rw [HTK.out]; exact HNM2.out, bstep HBWQ.out HB8.out⟩, by simp [intOf]; omega⟩
                · have h3 : decide (x.f < 0) = false := decide_eq_false (by omega)
                  have p3 := HD3.out
                  have p1 := HD1.out
                  go_wp2_with (go_at_call 23; go_loud (refine (HSH.out _).mono ?_; rintro e w8 ⟨rfl, hb8⟩; have HB8 := Lib.hid hb8; have r1 := cell_step hb8 c1'; have r3 := cell_step hb8 c3'; clear hb8))
                  have HBO8 : Hid (Below wo.heap.size wo w8) := Lib.hid (bstep HBQ.out HB8.out)
                  exact ⟨⟨k + 1, n2, oa2, c2, by omega, by simp, by rw [HTK.out, HAN.out], by rw [HTK.out, HGL.out]; exact HN2.out, (HB8.out.block rb (lt_of_block HRQ.out)).trans HRQ.out, by rw [HTK.out, HGL.out]; exact (HBO8.out.block ob HLO.out).trans HBX.out, by rw [HTK.out, HGL.out]; exact own_grow HROW.out HBO8.out, by rw [HTK.out]; exact HNM2.out, bstep HBWQ.out HB8.out⟩, by simp [intOf]; omega⟩
              | false =>
                have HGL : Hid (gl (l.take k ++ [x]) = gl (l.take k) ++ [x]) := Lib.hid (gl_good hbad)
                have HAN : Hid ((l.take k ++ [x]).any badB = Bd) := Lib.hid (by rw [any_snoc, hbad, Bool.or_false]; exact HBD.out)
                have hgm : ∀ y ∈ gl (l.take k), missB D y = false ∧ badB y = false := fun y hy => by
                  unfold gl at hy
                  obtain ⟨h1, h2⟩ := List.mem_filter.1 hy
                  exact ⟨HNM.out y h1, by simpa using h2⟩
                have HT : Hid (((datF D (gl (l.take k))).size : Int) = (mvF (gl (l.take k))).2) := Lib.hid (dat_at hgm)
                have hds := dat_size HD.out (gl (l.take k))
                have hlk : (gl (l.take k)).length ≤ k := Nat.le_trans (List.length_filter_le _ _) (List.length_take_le _ _)
                have HMSN : Hid (mvF (gl (l.take k) ++ [x]) = ((mvF (gl (l.take k))).1 ++ [⟨x.a, x.f, x.n, (mvF (gl (l.take k))).2⟩], (mvF (gl (l.take k))).2 + x.n)) := Lib.hid (mvF_snoc _ _)
                have HDSN : Hid (datF D (gl (l.take k) ++ [x]) = datF D (gl (l.take k)) ++ piece D x) := Lib.hid (datF_snoc _ _ _)
                have HNL : Hid (n2 ≤ k) := Lib.hid (by rw [HN2.out, mvF_len]; exact hlk)
                obtain ⟨s', hs', q1, q2, q3⟩ := fits HMX.out hbad
                obtain rfl : s = s' := by have := HG.out; rw [hs'] at this; injection this with this; exact this.symm
                have HPC : Hid (piece D x = s.extract x.f.toNat (x.f + x.n).toNat) := Lib.hid (by unfold piece; rw [hs']; rfl)
                have HDZ : Hid ((datF D (gl (l.take k))).size ≤ 180000) := Lib.hid (by
                  have h2 : 3000 * (gl (l.take k)).length ≤ 3000 * 60 := Nat.mul_le_mul_left _ (by omega)
                  omega)
                clear hbad hgm hds hlk hs'
                generalize mvF (gl (l.take k)) = mv at *
                generalize datF D (gl (l.take k)) = dat at *
                obtain ⟨ml, T⟩ := mv
                obtain ⟨xo, xn, xa, xf⟩ := x
                simp only at c0' c1' c2' c3' q1 q2 q3 HMSN HPC HN2 HT
                obtain ⟨f, rfl⟩ : ∃ f : Nat, xf = (f : Int) := ⟨xf.toNat, by omega⟩
                obtain ⟨m, rfl⟩ : ∃ m : Nat, xn = (m : Int) := ⟨xn.toNat, by omega⟩
                have HPC2 : Hid (piece D ⟨xo, (m : Int), xa, (f : Int)⟩ = s.extract f (f + m)) := Lib.hid (by
                  have := HPC.out
                  rw [Int.toNat_natCast, show ((f : Int) + (m : Int)).toNat = f + m by omega] at this
                  exact this)
                have hsz := HSZ.out
                have hfm : f + m ≤ s.size := by omega
                have hw1 : IntKind.i64.wrap ((f : Int) + (m : Int)) = (f : Int) + (m : Int) := IntWalk.i64_in _ (by omega)
                have hd1 : decide ((f : Int) < 0) = false := decide_eq_false (by omega)
                have hd2 : decide ((m : Int) < 1) = false := decide_eq_false (by omega)
                have hz1 : (f : Int) ≤ (f : Int) + (m : Int) := by omega
                have hz0 : 0 ≤ (f : Int) + (m : Int) := by omega
                have hz2 : (f : Int) + (m : Int) ≤ (s.size : Int) := by omega
                have HZ := Lib.hid (And.intro hz1 hz2)
                clear q1 q2 q3
                go_wp2_with (go_at_call 23; go_loud (refine (HSH.out _).mono ?_; rintro e w8 ⟨rfl, hb8⟩; have HB8 := Lib.hid hb8; have r1 := cell_step hb8 c1'; have r3 := cell_step hb8 c3'; clear hb8))
                clear r1 r3
                have HBO8 : Hid (Below wo.heap.size wo w8) := Lib.hid (bstep HBQ.out HB8.out)
                have hbx8 : w8.heap[ob]? = some (.cells #[.int .i64 c, .int .i64 q, .int .i64 13, .string ⟨#[]⟩, .string ⟨#[]⟩, .int .i64 0, .int .i64 0, .int .i64 0, .string dat, .int .i64 0, .int .i64 i, .slice oa2 n2 c2] 34 (0, 0)) := (HBO8.out.block ob hlo).trans HBX.out
                have HBX8 := Lib.hid hbx8
                have b11 := (new_cells hbx8 11 (by simp)).1
                have b8 := (new_cells hbx8 8 (by simp)).1
                simp only [List.getElem_toArray, List.getElem_cons_zero, List.getElem_cons_succ] at b11 b8
                have p1 := cell_step HBO8.out HD1.out
                have p2 := cell_step HBO8.out HD2.out
                have p3 := cell_step HBO8.out HD3.out
                have hao : a.block < ob + 1 := by have := HAB.out; have := HOB.out; have := HRB.out; omega
                have ha1 : (a.add (k * 4)).block < ob + 1 := by rw [add_block]; exact hao
                have HROW8 : Hid (w8.ownsRow (ob + 1) 69 4 (.slice oa2 n2 c2) n2 (ml.flatMap encM)) := Lib.hid (own_grow HROW.out HBO8.out)
                have HOS8 : Hid (ob + 1 ≤ w8.heap.size) := Lib.hid (lt_of_block hbx8)
                have hn60 : n2 ≤ 60 := by have := HNL.out; omega
                have HS0 : Hid (Below (ob + 1) w8 w8.drew) := Lib.hid (Below.refl _ _).drew
                clear hbx8 c0' c1' c2' c3'
                refine regionL 24 25 (fun w' => Below (ob + 1) w8 w') (by kernel_rfl) rfl ?_
                refine takeL 0 (some 79) (v := ?_) rfl (by kernel_rfl) (by kernel_rfl) (by kernel_rfl) (by kernel_rfl) (fun _ _ _ h => h) rfl rfl HS0.out ?_ ?_
                rotate_left
                · intro wq hq
                  have g0 := cell_b hq b11 (Nat.lt_succ_self _)
                  have g1 := cell_b hq b8 (Nat.lt_succ_self _)
                  have g2 := cell_b hq p1 ha1
                  have g3 := cell_b hq p2 ha1
                  have g4 := cell_b hq p3 ha1
                  go_simp
                  with_reducible rfl
                simp only [Act.put, List.setIfInBounds_toArray, List.set_cons_zero, List.set_cons_succ]
                refine takeL 1 (some 80) (v := ?_) rfl (by kernel_rfl) (by kernel_rfl) (by kernel_rfl) (by kernel_rfl) (fun _ _ _ h => h) rfl rfl HS0.out ?_ ?_
                rotate_left
                · intro wq hq
                  have g0 := cell_b hq b11 (Nat.lt_succ_self _)
                  have g1 := cell_b hq b8 (Nat.lt_succ_self _)
                  have g2 := cell_b hq p1 ha1
                  have g3 := cell_b hq p2 ha1
                  have g4 := cell_b hq p3 ha1
                  go_simp
                  with_reducible rfl
                simp only [Act.put, List.setIfInBounds_toArray, List.set_cons_zero, List.set_cons_succ]
                refine takeL 2 (some 81) (v := ?_) rfl (by kernel_rfl) (by kernel_rfl) (by kernel_rfl) (by kernel_rfl) (fun _ _ _ h => h) rfl rfl HS0.out ?_ ?_
                rotate_left
                · intro wq hq
                  have g0 := cell_b hq b11 (Nat.lt_succ_self _)
                  have g1 := cell_b hq b8 (Nat.lt_succ_self _)
                  have g2 := cell_b hq p1 ha1
                  have g3 := cell_b hq p2 ha1
                  have g4 := cell_b hq p3 ha1
                  go_simp
                  with_reducible rfl
                simp only [Act.put, List.setIfInBounds_toArray, List.set_cons_zero, List.set_cons_succ]
                refine takeL 3 (some 82) (v := ?_) rfl (by kernel_rfl) (by kernel_rfl) (by kernel_rfl) (by kernel_rfl) (fun _ _ _ h => h) rfl rfl HS0.out ?_ ?_
                rotate_left
                · intro wq hq
                  have g0 := cell_b hq b11 (Nat.lt_succ_self _)
                  have g1 := cell_b hq b8 (Nat.lt_succ_self _)
                  have g2 := cell_b hq p1 ha1
                  have g3 := cell_b hq p2 ha1
                  have g4 := cell_b hq p3 ha1
                  go_simp
                  with_reducible rfl
                simp only [Act.put, List.setIfInBounds_toArray, List.set_cons_zero, List.set_cons_succ]
                refine takeL 4 (some 83) (v := ?_) rfl (by kernel_rfl) (by kernel_rfl) (by kernel_rfl) (by kernel_rfl) (fun _ _ _ h => h) rfl rfl HS0.out ?_ ?_
                rotate_left
                · intro wq hq
                  have g0 := cell_b hq b11 (Nat.lt_succ_self _)
                  have g1 := cell_b hq b8 (Nat.lt_succ_self _)
                  have g2 := cell_b hq p1 ha1
                  have g3 := cell_b hq p2 ha1
                  have g4 := cell_b hq p3 ha1
                  go_simp
                  with_reducible rfl
                simp only [Act.put, List.setIfInBounds_toArray, List.set_cons_zero, List.set_cons_succ]
                refine takeL 5 (some 84) (v := ?_) rfl (by kernel_rfl) (by kernel_rfl) (by kernel_rfl) (by kernel_rfl) (fun _ _ _ h => h) rfl rfl HS0.out ?_ ?_
                rotate_left
                · intro wq hq
                  have g0 := cell_b hq b11 (Nat.lt_succ_self _)
                  have g1 := cell_b hq b8 (Nat.lt_succ_self _)
                  have g2 := cell_b hq p1 ha1
                  have g3 := cell_b hq p2 ha1
                  have g4 := cell_b hq p3 ha1
                  go_simp
                  with_reducible rfl
                simp only [Act.put, List.setIfInBounds_toArray, List.set_cons_zero, List.set_cons_succ]
                refine takeL 6 (some 85) (v := ?_) rfl (by kernel_rfl) (by kernel_rfl) (by kernel_rfl) (by kernel_rfl) (fun _ _ _ h => h) rfl rfl HS0.out ?_ ?_
                rotate_left
                · intro wq hq
                  have g0 := cell_b hq b11 (Nat.lt_succ_self _)
                  have g1 := cell_b hq b8 (Nat.lt_succ_self _)
                  have g2 := cell_b hq p1 ha1
                  have g3 := cell_b hq p2 ha1
                  have g4 := cell_b hq p3 ha1
                  go_simp
                  with_reducible rfl
                simp only [Act.put, List.setIfInBounds_toArray, List.set_cons_zero, List.set_cons_succ]
                refine takeL 7 (some 86) (v := ?_) rfl (by kernel_rfl) (by kernel_rfl) (by kernel_rfl) (by kernel_rfl) (fun _ _ _ h => h) rfl rfl HS0.out ?_ ?_
                rotate_left
                · intro wq hq
                  have g0 := cell_b hq b11 (Nat.lt_succ_self _)
                  have g1 := cell_b hq b8 (Nat.lt_succ_self _)
                  have g2 := cell_b hq p1 ha1
                  have g3 := cell_b hq p2 ha1
                  have g4 := cell_b hq p3 ha1
                  go_simp
                  with_reducible rfl
                simp only [Act.put, List.setIfInBounds_toArray, List.set_cons_zero, List.set_cons_succ]
                refine takeL 8 (some 87) (v := ?_) rfl (by kernel_rfl) (by kernel_rfl) (by kernel_rfl) (by kernel_rfl) (fun _ _ _ h => h) rfl rfl HS0.out ?_ ?_
                rotate_left
                · intro wq hq
                  have g0 := cell_b hq b11 (Nat.lt_succ_self _)
                  have g1 := cell_b hq b8 (Nat.lt_succ_self _)
                  have g2 := cell_b hq p1 ha1
                  have g3 := cell_b hq p2 ha1
                  have g4 := cell_b hq p3 ha1
                  go_simp
                  with_reducible rfl
                simp only [Act.put, List.setIfInBounds_toArray, List.set_cons_zero, List.set_cons_succ]
                refine takeL 9 (some 88) (v := ?_) rfl (by kernel_rfl) (by kernel_rfl) (by kernel_rfl) (by kernel_rfl) (fun _ _ _ h => h) rfl rfl HS0.out ?_ ?_
                rotate_left
                · intro wq hq
                  have g0 := cell_b hq b11 (Nat.lt_succ_self _)
                  have g1 := cell_b hq b8 (Nat.lt_succ_self _)
                  have g2 := cell_b hq p1 ha1
                  have g3 := cell_b hq p2 ha1
                  have g4 := cell_b hq p3 ha1
                  go_simp
                  with_reducible rfl
                simp only [Act.put, List.setIfInBounds_toArray, List.set_cons_zero, List.set_cons_succ]
                refine takeL 10 (some 89) (v := ?_) rfl (by kernel_rfl) (by kernel_rfl) (by kernel_rfl) (by kernel_rfl) (fun _ _ _ h => h) rfl rfl HS0.out ?_ ?_
                rotate_left
                · intro wq hq
                  have g0 := cell_b hq b11 (Nat.lt_succ_self _)
                  have g1 := cell_b hq b8 (Nat.lt_succ_self _)
                  have g2 := cell_b hq p1 ha1
                  have g3 := cell_b hq p2 ha1
                  have g4 := cell_b hq p3 ha1
                  go_simp
                  with_reducible rfl
                simp only [Act.put, List.setIfInBounds_toArray, List.set_cons_zero, List.set_cons_succ]
                refine takeL 11 (some 90) (v := ?_) rfl (by kernel_rfl) (by kernel_rfl) (by kernel_rfl) (by kernel_rfl) (fun _ _ _ h => h) rfl rfl HS0.out ?_ ?_
                rotate_left
                · intro wq hq
                  have g0 := cell_b hq b11 (Nat.lt_succ_self _)
                  have g1 := cell_b hq b8 (Nat.lt_succ_self _)
                  have g2 := cell_b hq p1 ha1
                  have g3 := cell_b hq p2 ha1
                  have g4 := cell_b hq p3 ha1
                  go_simp
                  with_reducible rfl
                simp only [Act.put, List.setIfInBounds_toArray, List.set_cons_zero, List.set_cons_succ]
                refine takeL 12 (some 91) (v := ?_) rfl (by kernel_rfl) (by kernel_rfl) (by kernel_rfl) (by kernel_rfl) (fun _ _ _ h => h) rfl rfl HS0.out ?_ ?_
                rotate_left
                · intro wq hq
                  have g0 := cell_b hq b11 (Nat.lt_succ_self _)
                  have g1 := cell_b hq b8 (Nat.lt_succ_self _)
                  have g2 := cell_b hq p1 ha1
                  have g3 := cell_b hq p2 ha1
                  have g4 := cell_b hq p3 ha1
                  go_simp
                  with_reducible rfl
                simp only [Act.put, List.setIfInBounds_toArray, List.set_cons_zero, List.set_cons_succ]
                refine takeL 13 (some 92) (v := ?_) rfl (by kernel_rfl) (by kernel_rfl) (by kernel_rfl) (by kernel_rfl) (fun _ _ _ h => h) rfl rfl HS0.out ?_ ?_
                rotate_left
                · intro wq hq
                  have g0 := cell_b hq b11 (Nat.lt_succ_self _)
                  have g1 := cell_b hq b8 (Nat.lt_succ_self _)
                  have g2 := cell_b hq p1 ha1
                  have g3 := cell_b hq p2 ha1
                  have g4 := cell_b hq p3 ha1
                  go_simp
                  with_reducible rfl
                simp only [Act.put, List.setIfInBounds_toArray, List.set_cons_zero, List.set_cons_succ]
                refine takeL 14 (some 93) (v := ?_) rfl (by kernel_rfl) (by kernel_rfl) (by kernel_rfl) (by kernel_rfl) (fun _ _ _ h => h) rfl rfl HS0.out ?_ ?_
                rotate_left
                · intro wq hq
                  have g0 := cell_b hq b11 (Nat.lt_succ_self _)
                  have g1 := cell_b hq b8 (Nat.lt_succ_self _)
                  have g2 := cell_b hq p1 ha1
                  have g3 := cell_b hq p2 ha1
                  have g4 := cell_b hq p3 ha1
                  go_simp
                  with_reducible rfl
                simp only [Act.put, List.setIfInBounds_toArray, List.set_cons_zero, List.set_cons_succ]
                refine takeL 15 (some 94) (v := ?_) rfl (by kernel_rfl) (by kernel_rfl) (by kernel_rfl) (by kernel_rfl) (fun _ _ _ h => h) rfl rfl HS0.out ?_ ?_
                rotate_left
                · intro wq hq
                  have g0 := cell_b hq b11 (Nat.lt_succ_self _)
                  have g1 := cell_b hq b8 (Nat.lt_succ_self _)
                  have g2 := cell_b hq p1 ha1
                  have g3 := cell_b hq p2 ha1
                  have g4 := cell_b hq p3 ha1
                  go_simp
                  with_reducible rfl
                simp only [Act.put, List.setIfInBounds_toArray, List.set_cons_zero, List.set_cons_succ]
                refine takeL 16 (some 95) (v := ?_) rfl (by kernel_rfl) (by kernel_rfl) (by kernel_rfl) (by kernel_rfl) (fun _ _ _ h => h) rfl rfl HS0.out ?_ ?_
                rotate_left
                · intro wq hq
                  have g0 := cell_b hq b11 (Nat.lt_succ_self _)
                  have g1 := cell_b hq b8 (Nat.lt_succ_self _)
                  have g2 := cell_b hq p1 ha1
                  have g3 := cell_b hq p2 ha1
                  have g4 := cell_b hq p3 ha1
                  go_simp
                  with_reducible rfl
                simp only [Act.put, List.setIfInBounds_toArray, List.set_cons_zero, List.set_cons_succ]
                refine takeL 17 (some 96) (v := ?_) rfl (by kernel_rfl) (by kernel_rfl) (by kernel_rfl) (by kernel_rfl) (fun _ _ _ h => h) rfl rfl HS0.out ?_ ?_
                rotate_left
                · intro wq hq
                  have g0 := cell_b hq b11 (Nat.lt_succ_self _)
                  have g1 := cell_b hq b8 (Nat.lt_succ_self _)
                  have g2 := cell_b hq p1 ha1
                  have g3 := cell_b hq p2 ha1
                  have g4 := cell_b hq p3 ha1
                  go_simp
                  with_reducible rfl
                simp only [Act.put, List.setIfInBounds_toArray, List.set_cons_zero, List.set_cons_succ]
                refine takeL 18 (some 97) (v := ?_) rfl (by kernel_rfl) (by kernel_rfl) (by kernel_rfl) (by kernel_rfl) (fun _ _ _ h => h) rfl rfl HS0.out ?_ ?_
                rotate_left
                · intro wq hq
                  have g0 := cell_b hq b11 (Nat.lt_succ_self _)
                  have g1 := cell_b hq b8 (Nat.lt_succ_self _)
                  have g2 := cell_b hq p1 ha1
                  have g3 := cell_b hq p2 ha1
                  have g4 := cell_b hq p3 ha1
                  go_simp
                  with_reducible rfl
                simp only [Act.put, List.setIfInBounds_toArray, List.set_cons_zero, List.set_cons_succ]
                refine takeL 19 (some 98) (v := ?_) rfl (by kernel_rfl) (by kernel_rfl) (by kernel_rfl) (by kernel_rfl) (fun _ _ _ h => h) rfl rfl HS0.out ?_ ?_
                rotate_left
                · intro wq hq
                  have g0 := cell_b hq b11 (Nat.lt_succ_self _)
                  have g1 := cell_b hq b8 (Nat.lt_succ_self _)
                  have g2 := cell_b hq p1 ha1
                  have g3 := cell_b hq p2 ha1
                  have g4 := cell_b hq p3 ha1
                  go_simp
                  with_reducible rfl
                simp only [Act.put, List.setIfInBounds_toArray, List.set_cons_zero, List.set_cons_succ]
                refine takeL 20 (some 99) (v := ?_) rfl (by kernel_rfl) (by kernel_rfl) (by kernel_rfl) (by kernel_rfl) (fun _ _ _ h => h) rfl rfl HS0.out ?_ ?_
                rotate_left
                · intro wq hq
                  have g0 := cell_b hq b11 (Nat.lt_succ_self _)
                  have g1 := cell_b hq b8 (Nat.lt_succ_self _)
                  have g2 := cell_b hq p1 ha1
                  have g3 := cell_b hq p2 ha1
                  have g4 := cell_b hq p3 ha1
                  go_simp
                  with_reducible rfl
                simp only [Act.put, List.setIfInBounds_toArray, List.set_cons_zero, List.set_cons_succ]
                refine oneL 21 (by kernel_rfl) rfl rfl (wp_runs (some 100) (v := .slice (some ⟨w8.heap.size, 0, none⟩) 1 1) (w' := (w8.alloc (.cells #[.int .i64 xa, .int .i64 (f : Int), .int .i64 (m : Int), .int .i64 (dat.size : Int)] 69)).drew) rfl (by go_simp) ⟨fun _ => ((below_alloc w8 _).mono HOS8.out).drew, ?_⟩)
                simp only [Act.put, List.setIfInBounds_toArray, List.set_cons_zero, List.set_cons_succ]
                refine oneL 22 (by kernel_rfl) rfl rfl (wp_append_both (some 101) rfl rfl _ _ 32 rfl (ob + 1) 69 j0 (.agg #[.int .i64 0, .int .i64 0, .int .i64 0, .int .i64 0]) 4 32 Tryd.underlying32 hj hj0 hj1 hj2 rfl (by decide) _ (.slice oa2 n2 c2) n2 (ml.flatMap encM) rfl (HROW8.out.alloc (.cells #[.int .i64 xa, .int .i64 (f : Int), .int .i64 (m : Int), .int .i64 (dat.size : Int)] 69)) (some ⟨w8.heap.size, 0, none⟩) 1 1 (encM ⟨xa, (f : Int), (m : Int), (dat.size : Int)⟩) rfl (fun e => by cases e) rfl (fun ad e => by cases e; exact World.news_of_block (heap_alloc_new w8 _)) (encM_one [⟨xa, (f : Int), (m : Int), (dat.size : Int)⟩]) (by unfold maxLen; omega) (by omega) (by have := HOS8.out; show ob + 1 ≤ (w8.alloc _).heap.size; simp; omega) ?_)
                intro oa5 c5 w9 h1 h2 h3
                have HOW9 := Lib.hid h1
                have HB9 : Hid (Below (ob + 1) w8 w9) := Lib.hid ((((below_alloc w8 _).mono HOS8.out).drew).trans h2)
                clear h1 h2 h3 b11 b8 p1 p2 p3
                have hbx9 : w9.heap[ob]? = some (.cells #[.int .i64 c, .int .i64 q, .int .i64 13, .string ⟨#[]⟩, .string ⟨#[]⟩, .int .i64 0, .int .i64 0, .int .i64 0, .string dat, .int .i64 0, .int .i64 i, .slice oa2 n2 c2] 34 (0, 0)) := (HB9.out.block ob (Nat.lt_succ_self _)).trans HBX8.out
                have HBX9 := Lib.hid hbx9
                have b11 := (new_cells hbx9 11 (by simp)).1
                have r11 := Lib.frozen_of_heap hbx9 11
                simp only [List.getElem_toArray, List.getElem_cons_zero, List.getElem_cons_succ] at b11
                refine ⟨fun _ => HB9.out, ?_⟩
                simp only [Act.put, List.setIfInBounds_toArray, List.set_cons_zero, List.set_cons_succ]
                refine oneL 23 (by kernel_rfl) rfl rfl (wp_runs (some 102) (v := .pointer (some ⟨ob, 11, none⟩)) (w' := w9) rfl (by go_simp) ⟨fun _ => HB9.out, ?_⟩)
                simp only [Act.put, List.setIfInBounds_toArray, List.set_cons_zero, List.set_cons_succ]
                refine oneL 24 (by kernel_rfl) rfl rfl (wp_skips none (w' := (w9.setCell ⟨ob, 11, none⟩ (.slice oa5 (n2 + 1) c5))) rfl (by go_simp) ⟨fun h => absurd rfl h, ?_⟩)
                simp only [Act.put]
                refine doneL (by kernel_rfl) ?_
                clear b11 r11 hbx9
                have hbx10 : (w9.setCell ⟨ob, 11, none⟩ (.slice oa5 (n2 + 1) c5)).heap[ob]? = some (.cells #[.int .i64 c, .int .i64 q, .int .i64 13, .string ⟨#[]⟩, .string ⟨#[]⟩, .int .i64 0, .int .i64 0, .int .i64 0, .string dat, .int .i64 0, .int .i64 i, .slice oa5 (n2 + 1) c5] 34 (0, 0)) := box_set HBX9.out rfl
                have HBX10 := Lib.hid hbx10
                have HB10 : Hid (Below ob w8 (w9.setCell ⟨ob, 11, none⟩ (.slice oa5 (n2 + 1) c5))) := Lib.hid ((HB9.out.mono (Nat.le_succ _)).setCell (p := ⟨ob, 11, none⟩) (Nat.le_refl _) _)
                have HOW10 : Hid ((w9.setCell ⟨ob, 11, none⟩ (.slice oa5 (n2 + 1) c5)).ownsRow (ob + 1) 69 4 (.slice oa5 (n2 + 1) c5) (n2 + 1) (ml.flatMap encM ++ encM ⟨xa, (f : Int), (m : Int), (dat.size : Int)⟩)) := Lib.hid (Only.keepRow ((Only.refl ob w9).setCell 11 _) HOW9.out (fun e => by have := (own_rng HOW9.out ob e).1; omega))
                have HR10 : Hid ((w9.setCell ⟨ob, 11, none⟩ (.slice oa5 (n2 + 1) c5)).heap[rb]? = some (.cells #[.int .i64 0, .int .i64 0, .int .i64 0, .string ⟨#[]⟩, .string ⟨#[]⟩, .int .i64 0, .int .i64 0, .int .i64 0, .string ⟨#[]⟩, .int .i64 0, .int .i64 0, .slice none 0 0] 34 (0, 0))) := Lib.hid ((HB10.out.block rb (by have := HOB.out; omega)).trans ((HB8.out.block rb (lt_of_block HRQ.out)).trans HRQ.out))
                have HBO10 : Hid (Below w.heap.size w (w9.setCell ⟨ob, 11, none⟩ (.slice oa5 (n2 + 1) c5))) := Lib.hid ((bstep HBWQ.out HB8.out).trans (HB10.out.mono (by have := HOB.out; have := HRB.out; omega)))
                generalize (w9.setCell ⟨ob, 11, none⟩ (.slice oa5 (n2 + 1) c5)) = wa at *
                have b8 := (new_cells hbx10 8 (by simp)).1
                have r8 := Lib.frozen_of_heap hbx10 8
                simp only [List.getElem_toArray, List.getElem_cons_zero, List.getElem_cons_succ] at b8
                have p1 := cell_b HBO10.out ((HBW.out.cell (p := ⟨(a.add (k * 4)).block, (a.add (k * 4)).off + 1, none⟩) (by show (a.add (k * 4)).block < _; rw [add_block]; exact HAB.out)).symm.trans HD1.out) (by show (a.add (k * 4)).block < _; rw [add_block]; exact HAB.out)
                have p3 := cell_b HBO10.out ((HBW.out.cell (p := ⟨(a.add (k * 4)).block, (a.add (k * 4)).off + 3, none⟩) (by show (a.add (k * 4)).block < _; rw [add_block]; exact HAB.out)).symm.trans HD3.out) (by show (a.add (k * 4)).block < _; rw [add_block]; exact HAB.out)
                clear hbx10
                go_wp2_with fail
                have hcat : ¬ (9223372036854775807 < dat.size + (((f : Int) + (m : Int)).toNat - f)) := by have := HDZ.out; omega
                go_still_tail 22, (by kernel_rfl)
                clear b8 hcat
                have b8 := (new_cells HBX10.out 8 (by simp)).1
                simp only [List.getElem_toArray, List.getElem_cons_zero, List.getElem_cons_succ] at b8
                go_wp2_with fail
                have hTe := HT.out
                subst hTe
                have hW : Only ob wa (wa.setCell ⟨ob, 8, none⟩ (.string (dat ++ s.extract f (f + m)))) := (Only.refl ob wa).setCell 8 _
                have hrow : (wa.setCell ⟨ob, 8, none⟩ (.string (dat ++ s.extract f (f + m)))).ownsRow (ob + 1) 69 4 (.slice oa5 (n2 + 1) c5) (n2 + 1) (ml.flatMap encM ++ encM ⟨xa, (f : Int), (m : Int), (dat.size : Int)⟩) := Only.keepRow hW HOW10.out (fun e => by have := (own_rng HOW10.out ob e).1; omega)
                have hfl : (ml ++ [(⟨xa, (f : Int), (m : Int), (dat.size : Int)⟩ : Mv)]).flatMap encM = ml.flatMap encM ++ encM ⟨xa, (f : Int), (m : Int), (dat.size : Int)⟩ := by rw [List.flatMap_append, List.flatMap_singleton]
                exact ⟨⟨k + 1, n2 + 1, oa5, c5, by omega, by simp, by rw [HTK.out, HAN.out], by rw [HTK.out, HGL.out, HMSN.out]; simp; exact HN2.out, (Below.heap_setCell wa ⟨ob, 8, none⟩ _ rb (by have := HOB.out; show rb ≠ ob; omega)).trans HR10.out, by rw [HTK.out, HGL.out, HDSN.out, HPC2.out]; exact box_set HBX10.out rfl, by rw [HTK.out, HGL.out, HMSN.out]; show World.ownsRow _ _ _ _ _ _ ((ml ++ _).flatMap encM); rw [hfl]; exact hrow, by rw [HTK.out]; exact HNM2.out,
                  (HBO10.out.setCell (p := ⟨ob, 8, none⟩) (by have := HOB.out; have := HRB.out; show w.heap.size ≤ ob; omega) _).drew⟩, by simp [intOf]; omega⟩
    · obtain rfl : k = l.length := by omega
      rw [List.take_length] at HN2 HBX HROW HNM HBD
      clear hlt hk hlo
      cases Bd
      · have HNBA : Hid (∀ x ∈ l, badB x = false) := Lib.hid fun x hx => by
          cases hb : badB x with
          | false => rfl
          | true => have := List.any_eq_true.2 ⟨x, hx, hb⟩; rw [HBD.out] at this; cases this
        have HGL : Hid (gl l = l) := Lib.hid (gl_all HNBA.out)
        rw [HGL.out] at HN2 HBX HROW
        have HML : Hid ((mvF l).1.length = l.length) := Lib.hid (mvF_len l)
        obtain rfl : n2 = l.length := by rw [HN2.out, HML.out]
        have HEND := Lib.hid (build_end c q i H0.out HNM.out HNBA.out)
        have HDS : Hid ((datF D l).size ≤ 180000) := Lib.hid (by
          have h1 := dat_size HD.out l
          have h2 : 3000 * l.length ≤ 3000 * 60 := Nat.mul_le_mul_left _ HL.out
          omega)
        have HFIT : Hid (Fit (recR c q i D l)) := Lib.hid ⟨by show (0 : Nat) ≤ _; omega, by show (0 : Nat) ≤ _; omega, by show (datF D l).size ≤ _; have := HDS.out; omega, by show (mvF l).1.length ≤ _; rw [HML.out]; have := HL.out; omega⟩
        have HGOOD : Hid (∀ W, MvAt W oa2 (mvF l).1 → Calls Tryd.prog 24 #[.agg #[.int .i64 c, .int .i64 q, .int .i64 13, .string ⟨#[]⟩, .string ⟨#[]⟩, .int .i64 0, .int .i64 0, .int .i64 0, .string (datF D l), .int .i64 0, .int .i64 i, .slice oa2 l.length c2]] W (GoodPost (recR c q i D l) W)) := Lib.hid fun W h2 => OpW.rgood_any (recR c q i D l) HFIT.out oa2 l.length c2 HML.out.symm W h2
        have HPOSTM : Hid (∀ W, MvAt W oa2 (mvF l).1 → Below w.heap.size w W → BuildPost (recR c q i D l, 0) w (.returned (.tuple #[.agg #[.int .i64 c, .int .i64 q, .int .i64 13, .string ⟨#[]⟩, .string ⟨#[]⟩, .int .i64 0, .int .i64 0, .int .i64 0, .string (datF D l), .int .i64 0, .int .i64 i, .slice oa2 l.length c2], .int .i64 0])) W) := Lib.hid fun W h1 h2 => ⟨oa2, l.length, c2, rfl, HML.out.symm, (fun h => by have := (own_base HROW.out).2 h; omega), h1, h2⟩
        have HMVR : Hid (MvAt wo oa2 (mvF l).1) := Lib.hid (mv_own HROW.out HML.out.symm)
        generalize datF D l = dat at *
        obtain ⟨y0, y1, y2, y3, y4, y5, y6, y7, y8, y9, y10, y11⟩ := cells12 HBX.out
        cases hg : goodB (recR c q i D l) with
        | true =>
          have HG := Lib.hid hg
          have HE : Hid (buildR c q i D l = (recR c q i D l, 0)) := Lib.hid (by rw [HEND.out, hg]; rfl)
          clear hg
          go_wp2_with (first
            | ((with_reducible (refine wpList_store_rowTo rfl 34 (Operand.tmp 10) (Operand.tmp 132) rfl rfl rb #[.int .i64 c, .int .i64 q, .int .i64 13, .string ⟨#[]⟩, .string ⟨#[]⟩, .int .i64 0, .int .i64 0, .int .i64 0, .string dat, .int .i64 0, .int .i64 i, .slice oa2 l.length c2] ?_ ?_ 34 #[.int .i64 0, .int .i64 0, .int .i64 0, .string ⟨#[]⟩, .string ⟨#[]⟩, .int .i64 0, .int .i64 0, .int .i64 0, .string ⟨#[]⟩, .int .i64 0, .int .i64 0, .slice none 0 0] ?_ ?_ ?_ ?_ ?_)); (· rfl); (· rfl); (· exact HRES9.out); (· exact opSize); (· rfl); (· simp [Value.oneCell']))
            | (go_at_call 24; go_loud (refine (HGOOD.out _ HMVR.out).mono ?_; rintro e w9 ⟨hge, hb9⟩; rw [HG.out] at hge; subst hge; have HB9 := Lib.hid hb9; have hbx9 : w9.heap[ob]? = some (.cells #[.int .i64 c, .int .i64 q, .int .i64 13, .string ⟨#[]⟩, .string ⟨#[]⟩, .int .i64 0, .int .i64 0, .int .i64 0, .string dat, .int .i64 0, .int .i64 i, .slice oa2 l.length c2] 34 (0, 0)) := (hb9.block ob (lt_of_block HBX.out)).trans HBX.out; have HRES9 : Hid (w9.heap[rb]? = some (.cells #[.int .i64 0, .int .i64 0, .int .i64 0, .string ⟨#[]⟩, .string ⟨#[]⟩, .int .i64 0, .int .i64 0, .int .i64 0, .string ⟨#[]⟩, .int .i64 0, .int .i64 0, .slice none 0 0] 34 (0, 0))) := Lib.hid ((hb9.block rb (lt_of_block HRES.out)).trans HRES.out); obtain ⟨z0, z1, z2, z3, z4, z5, z6, z7, z8, z9, z10, z11⟩ := cells12 hbx9; clear hb9 hbx9 y0 y1 y2 y3 y4 y5 y6 y7 y8 y9 y10 y11)))
          try simp only [Exit.inBlock, Exit.then]
          refine ret_row (p := 10) (u := 11) rfl rfl rfl (setRow_heap _ _ _ _ _ _ HRES9.out) Tryd.underlying34 rfl opSize ?_
          rw [HE.out]
          exact HPOSTM.out _ ((HMVR.out.grow HB9.out).only (setRow_only _ _ _) (fun a ha => by have := ((own_base HROW.out).1 a ha).1; have := HOB.out; omega)) (below_setRow (bstep HBW.out HB9.out) (by rw [HRB.out]; exact Nat.le_refl _) _)
        | false =>
          have HG := Lib.hid hg
          have HE : Hid (buildR c q i D l = (zeroR, 11)) := Lib.hid (by rw [HEND.out, hg]; rfl)
          clear hg
          go_wp2_with (first
            | ((with_reducible (refine wpList_store_rowTo rfl 34 (Operand.tmp 10) (Operand.tmp 131) rfl rfl rb #[.int .i64 0, .int .i64 0, .int .i64 0, .string ⟨#[]⟩, .string ⟨#[]⟩, .int .i64 0, .int .i64 0, .int .i64 0, .string ⟨#[]⟩, .int .i64 0, .int .i64 0, .slice none 0 0] ?_ ?_ 34 #[.int .i64 0, .int .i64 0, .int .i64 0, .string ⟨#[]⟩, .string ⟨#[]⟩, .int .i64 0, .int .i64 0, .int .i64 0, .string ⟨#[]⟩, .int .i64 0, .int .i64 0, .slice none 0 0] ?_ ?_ ?_ ?_ ?_)); (· rfl); (· rfl); (· exact HRES9.out); (· exact opSize); (· rfl); (· simp [Value.oneCell']))
            | (go_at_call 24; go_loud (refine (HGOOD.out _ HMVR.out).mono ?_; rintro e w9 ⟨hge, hb9⟩; rw [HG.out] at hge; subst hge; have HB9 := Lib.hid hb9; have hbx9 : w9.heap[ob]? = some (.cells #[.int .i64 c, .int .i64 q, .int .i64 13, .string ⟨#[]⟩, .string ⟨#[]⟩, .int .i64 0, .int .i64 0, .int .i64 0, .string dat, .int .i64 0, .int .i64 i, .slice oa2 l.length c2] 34 (0, 0)) := (hb9.block ob (lt_of_block HBX.out)).trans HBX.out; have HRES9 : Hid (w9.heap[rb]? = some (.cells #[.int .i64 0, .int .i64 0, .int .i64 0, .string ⟨#[]⟩, .string ⟨#[]⟩, .int .i64 0, .int .i64 0, .int .i64 0, .string ⟨#[]⟩, .int .i64 0, .int .i64 0, .slice none 0 0] 34 (0, 0))) := Lib.hid ((hb9.block rb (lt_of_block HRES.out)).trans HRES.out); obtain ⟨z0, z1, z2, z3, z4, z5, z6, z7, z8, z9, z10, z11⟩ := cells12 hbx9; clear hb9 hbx9 y0 y1 y2 y3 y4 y5 y6 y7 y8 y9 y10 y11)))
          try simp only [Exit.inBlock, Exit.then]
          refine ret_row (p := 10) (u := 11) rfl rfl rfl (setRow_heap _ _ _ _ _ _ HRES9.out) Tryd.underlying34 rfl opSize ?_
          rw [HE.out]
          exact build_zero 11 _ _ (below_setRow (bstep HBW.out HB9.out) (by rw [HRB.out]; exact Nat.le_refl _) _)
      · have HE : Hid (buildR c q i D l = (zeroR, 11)) := Lib.hid (by
          obtain ⟨x, hx, hb⟩ := List.any_eq_true.1 HBD.out
          obtain ⟨k, hk, rfl⟩ := List.getElem_of_mem hx
          exact build_bad c q i HNM.out (List.getElem?_eq_getElem hk) hb)
        go_wp2_with ((with_reducible (refine wpList_store_rowTo rfl 34 (Operand.tmp 10) (Operand.tmp 131) rfl rfl rb #[.int .i64 0, .int .i64 0, .int .i64 0, .string ⟨#[]⟩, .string ⟨#[]⟩, .int .i64 0, .int .i64 0, .int .i64 0, .string ⟨#[]⟩, .int .i64 0, .int .i64 0, .slice none 0 0] ?_ ?_ 34 #[.int .i64 0, .int .i64 0, .int .i64 0, .string ⟨#[]⟩, .string ⟨#[]⟩, .int .i64 0, .int .i64 0, .int .i64 0, .string ⟨#[]⟩, .int .i64 0, .int .i64 0, .slice none 0 0] ?_ ?_ ?_ ?_ ?_)); (· rfl); (· rfl); (· exact HRES.out); (· exact opSize); (· rfl); (· simp [Value.oneCell']))
        try simp only [Exit.inBlock, Exit.then]
        refine ret_row (p := 10) (u := 11) rfl rfl rfl (setRow_heap _ _ _ _ _ _ HRES.out) Tryd.underlying34 rfl opSize ?_
        rw [HE.out]
        exact build_zero 11 _ _ (below_setRow HBW.out (by rw [HRB.out]; exact Nat.le_refl _) _)
end Go.Proofs.YthnkpoagpjnopaaDoor.MovW
