/- escheatref06.Decode: moves; any text. -/
import Derived.Test.YtlffcilgmockmaaDoorOpRDec
namespace Go.Proofs.YtlffcilgmockmaaDoor.OpW
set_option maxRecDepth 100000
open Go.RowKit OpP PackW
theorem RDecAt.aside {B b ob mb : Nat} {d : Dn} {v : Value} {w0 w : World} (h : RDecAt B b ob d v w0 w) (h1 : b ≠ mb) (h2 : ob ≠ mb) (h3 : v.ownBlock ≠ some mb) (h4 : B ≤ mb) (j : Nat) (u : Value) : RDecAt B b ob d v w0 (w.setCell ⟨mb, j, none⟩ u) := by
  have hk : Only mb w (w.setCell ⟨mb, j, none⟩ u) := (Only.refl _ _).setCell j u
  exact ⟨h.un.keepOnly hk h1, hk.heap h.bx h2, hk.keepRow h.row h3, h.low.setCell (p := ⟨mb, j, none⟩) h4 _, h.ne, h.hb, h.ho⟩
/-- a move that is filled in block mb, beside the record -/
structure MDecAt (B b ob mb : Nat) (d : Dn) (x : Mv) (v : Value) (w0 w : World) : Prop where
  at' : RDecAt B b ob d v w0 w
  mv : w.heap[mb]? = some (.cells #[.int .i64 x.a, .int .i64 x.f, .int .i64 x.n, .int .i64 x.t] 51 (0, 0))
  h1 : b ≠ mb
  h2 : ob ≠ mb
  h3 : v.ownBlock ≠ some mb
  h4 : B ≤ mb
theorem MDecAt.start {B b ob : Nat} {d : Dn} {oz : Option Addr} {n cz : Nat} {w0 w : World} (h : RDecAt B b ob d (.slice oz n cz) w0 w) : MDecAt B b ob w.heap.size d ⟨0, 0, 0, 0⟩ (.slice oz n cz) w0 (w.alloc (.cells #[.int .i64 0, .int .i64 0, .int .i64 0, .int .i64 0] 51)) := by
  have h1 := h.un.lt
  have h2 := lt_of_block h.bx
  have h3 := h.ho
  refine ⟨h.keep (below_alloc _ _), heap_alloc_new w _, by omega, by omega, ?_, by omega⟩
  have hr := h.row
  obtain ⟨oz', cz', he, _, _, _⟩ := hr.form
  rw [he] at hr ⊢
  have h4 := own_base hr
  cases oz' with
  | none => simp [Value.ownBlock]
  | some a =>
    have h5 := (h4.1 a rfl).2
    simp only [Value.ownBlock]
    intro hh
    injection hh with hh
    omega
theorem MDecAt.numS {B b ob mb : Nat} {d d' : Dn} {x x' : Mv} {v : Value} {w0 w w1 : World} {y : Int} (h : MDecAt B b ob mb d x v w0 w) (hu : VIs b (d.l.drop (Int.toNat 2)) (numG d.l d.sp 2) w1) (ho : Only b w w1) (j : Nat) (hd : d' = numD 2 d fun _ r => r)
    (hc : (#[.int .i64 x.a, .int .i64 x.f, .int .i64 x.n, .int .i64 x.t] : Array Value).setIfInBounds j (.int .i64 y) = #[.int .i64 x'.a, .int .i64 x'.f, .int .i64 x'.n, .int .i64 x'.t]) : MDecAt B b ob mb d' x' v w0 (w1.setCell ⟨mb, j, none⟩ (.int .i64 y)) := by
  subst hd
  exact ⟨(h.at'.num hu ho).aside h.h1 h.h2 h.h3 h.h4 j _, box_set (ho.heap h.mv (Ne.symm h.h1)) hc, h.h1, h.h2, h.h3, h.h4⟩
/-- .. and is laid behind the others -/
theorem RDecAt.snoc {B b ob : Nat} {d d' : Dn} {oz oa : Option Addr} {n cz cap : Nat} {w0 W w6 : World} {x : Mv} (h : RDecAt B b ob d (.slice oz n cz) w0 W) (hn : d.r.m.length = n) (hg : W.grownBy w6 (Value.slice oz n cz).ownBlock) (hbel : Below B W w6)
    (hown : w6.ownsRow B 51 4 (.slice oa (n + 1) cap) (n + 1) (d.r.m.flatMap encM ++ encM x)) (hd : d' = ⟨d.l, d.sp, { d.r with m := d.r.m ++ [x] }⟩) :
    OBox w6 ob d.r (.slice oz n cz) ∧ RDecAt B b ob d' (.slice oa (n + 1) cap) w0 (w6.setCell ⟨ob, 11, none⟩ (.slice oa (n + 1) cap)) := by
  subst hd
  have hO : OBox w6 ob d.r (.slice oz n cz) := (hg.block ob (lt_of_block h.bx) (fun e => h.far.2 e.symm)).trans h.bx
  have hU : VIs b d.l d.sp w6 := by
    obtain ⟨s, k, h1, h2⟩ := h.un
    exact ⟨s, k, (hg.block b h1.lt (fun e => h.far.1 e.symm)).trans h1, h2⟩
  have hk : Only ob w6 (w6.setCell ⟨ob, 11, none⟩ (.slice oa (n + 1) cap)) := (Only.refl _ _).setCell 11 _
  have hrow : RowK 51 encM 4 B w6 (.slice oa (n + 1) cap) (d.r.m ++ [x]) := by
    unfold RowK
    rw [List.length_append, hn, List.flatMap_append, List.flatMap_singleton]
    exact hown
  exact ⟨hO, hU.keepOnly hk h.ne, box_set hO (by rfl), hk.keepRow hrow (own_ne hrow hO (by decide)), (h.low.trans hbel).setCell (p := ⟨ob, 11, none⟩) h.ho _, h.ne, h.hb, h.ho⟩
set_option maxHeartbeats 1600000 in
theorem rdec_13 (s : ByteArray) (hs : s.size ≤ 100000) (w : World) (e0 : (headD s.data.toList).r.k = 13) : Calls Tryd.prog 17 #[.string s] w (DecPost (decD limQ s.data.toList) w) := by
  have H0 := Lib.hid (below_alloc w (.cells #[.int .i64 0, .int .i64 0, .int .i64 0, .string ⟨#[]⟩, .string ⟨#[]⟩, .int .i64 0, .int .i64 0, .int .i64 0, .string ⟨#[]⟩, .int .i64 0, .int .i64 0, .slice none 0 0] 24))
  have HR : Hid ((w.alloc (.cells #[.int .i64 0, .int .i64 0, .int .i64 0, .string ⟨#[]⟩, .string ⟨#[]⟩, .int .i64 0, .int .i64 0, .int .i64 0, .string ⟨#[]⟩, .int .i64 0, .int .i64 0, .slice none 0 0] 24)).heap[w.heap.size]? = some (.cells #[.int .i64 0, .int .i64 0, .int .i64 0, .string ⟨#[]⟩, .string ⟨#[]⟩, .int .i64 0, .int .i64 0, .int .i64 0, .string ⟨#[]⟩, .int .i64 0, .int .i64 0, .slice none 0 0] 24 (0, 0))) := Lib.hid (heap_alloc_new w _)
  generalize hS : s.data.toList = S at e0 ⊢
  have HSS := Lib.hid hS
  obtain ⟨D0, hD0⟩ : ∃ D : Dn, D = ⟨S, false, zr⟩ := ⟨_, rfl⟩
  obtain ⟨D1, hD1⟩ : ∃ D : Dn, D = numD 1 D0 (fun v r => { r with k := v }) := ⟨_, rfl⟩
  obtain ⟨x1, hx1⟩ : ∃ x, x = numA D0.l D0.sp 1 := ⟨_, rfl⟩
  obtain ⟨D2, hD2⟩ : ∃ D : Dn, D = numD 1 D1 (fun v r => { r with cl := v }) := ⟨_, rfl⟩
  obtain ⟨x2, hx2⟩ : ∃ x, x = numA D1.l D1.sp 1 := ⟨_, rfl⟩
  obtain ⟨D3, hD3⟩ : ∃ D : Dn, D = numD 4 D2 (fun v r => { r with sq := v }) := ⟨_, rfl⟩
  obtain ⟨x3, hx3⟩ : ∃ x, x = numA D2.l D2.sp 4 := ⟨_, rfl⟩
  obtain ⟨D4, hD4⟩ : ∃ D : Dn, D = numD 4 D3 (fun v r => { r with i := v }) := ⟨_, rfl⟩
  obtain ⟨x4, hx4⟩ : ∃ x, x = numA D3.l D3.sp 4 := ⟨_, rfl⟩
  have h3 : D3 = headD S := by rw [hD3, hD2, hD1, hD0]; rfl
  have HKC : Hid (D2.r.k = x1) := Lib.hid (by rw [hD2, hD1, hx1]; rfl)
  have ek : (headD S).r.k = x1 := by rw [← h3, hD3]; exact HKC.out
  rw [ek] at e0
  have HE0 := Lib.hid hD0
  have HE1 := Lib.hid hD1
  have HE2 := Lib.hid hD2
  have HE3 := Lib.hid hD3
  have HE4 := Lib.hid hD4
  have HX1 := Lib.hid hx1
  have HX2 := Lib.hid hx2
  have HX3 := Lib.hid hx3
  have HX4 := Lib.hid hx4
  have q1 : (x1 == 1) = false := by rw [e0]; rfl
  have q2 : (x1 == 2) = false := by rw [e0]; rfl
  have q3 : (x1 == 3) = false := by rw [e0]; rfl
  have q4 : (x1 == 4) = false := by rw [e0]; rfl
  have q5 : (x1 == 5) = false := by rw [e0]; rfl
  have q6 : (x1 == 6) = false := by rw [e0]; rfl
  have q7 : (x1 == 7) = false := by rw [e0]; rfl
  have q8 : (x1 == 8) = false := by rw [e0]; rfl
  have q9 : (x1 == 9) = false := by rw [e0]; rfl
  have q10 : (x1 == 10) = false := by rw [e0]; rfl
  have q11 : (x1 == 11) = false := by rw [e0]; rfl
  have q12 : (x1 == 12) = false := by rw [e0]; rfl
  have q13 : (x1 == 13) = true := by rw [e0]; rfl
  have q14 : (x1 == 14) = false := by rw [e0]; rfl
  have HEK : Hid ((headD S).r.k = 13) := Lib.hid (by rw [ek]; exact e0)
  have H3 := Lib.hid h3
  clear e0 hS h3 ek hD0 hD1 hD2 hD3 hD4 hx1 hx2 hx3 hx4
  go_enter Tryd.func17, Tryd.ntmps17
  go_wp2_with fail
  go_at_call 38
  refine (ropen_any s _).mono ?_
  rintro e w1 ⟨rfl, hp, hb, hz⟩
  clear hz
  rw [alloc_size] at hp hb
  have HD0 : Hid (RDecAt (w.heap.size + 1) (w.heap.size + 1) w1.heap.size D0 (.slice none 0 0) (w.alloc (.cells #[.int .i64 0, .int .i64 0, .int .i64 0, .string ⟨#[]⟩, .string ⟨#[]⟩, .int .i64 0, .int .i64 0, .int .i64 0, .string ⟨#[]⟩, .int .i64 0, .int .i64 0, .slice none 0 0] 24)) (w1.alloc (.cells #[.int .i64 0, .int .i64 0, .int .i64 0, .string ⟨#[]⟩, .string ⟨#[]⟩, .int .i64 0, .int .i64 0, .int .i64 0, .string ⟨#[]⟩, .int .i64 0, .int .i64 0, .slice none 0 0] 24))) := Lib.hid (by
    rw [HE0.out]
    exact RDecAt.start hb (by have hh := hb.size; rw [alloc_size] at hh; exact hh) (Nat.le_refl _) ⟨s, 0, hp, by omega, by omega, fun _ => by rw [HSS.out]; rfl⟩)
  clear hp hb
  go_wp2_with fail
  generalize w1.alloc (.cells #[.int .i64 0, .int .i64 0, .int .i64 0, .string ⟨#[]⟩, .string ⟨#[]⟩, .int .i64 0, .int .i64 0, .int .i64 0, .string ⟨#[]⟩, .int .i64 0, .int .i64 0, .slice none 0 0] 24) = v0 at HD0 ⊢
  generalize w1.heap.size = ob at HD0 ⊢
  go_at_call 39
  refine (num_as HX1.out (vnum_any _ _ _ 1 _ HD0.out.un)).mono ?_
  rintro e u1 ⟨rfl, hu, ho, hz⟩
  clear hz
  have HD1 := Lib.hid (HD0.out.numS hu ho HX1.out 2 (fun v r => { r with k := v }) HE1.out (fun _ => rfl) (fun _ => rfl))
  have hx := (HD0.out.num hu ho).bx
  have fj := hx.free 2
  obtain ⟨d0, d1, d2, d3, d4, d5, d6, d7, d8, d9, d10, d11⟩ := hx.cells
  clear hu ho hx d0 d1 d3 d4 d5 d6 d7 d8 d9 d10 d11
  go_wp2_with fail
  generalize u1.setCell ⟨ob, 2, none⟩ (.int .i64 x1) = v1 at HD1 ⊢
  clear fj d2 HD0
  go_at_call 39
  refine (num_as HX2.out (vnum_any _ _ _ 1 _ HD1.out.un)).mono ?_
  rintro e u2 ⟨rfl, hu, ho, hz⟩
  clear hz
  have HD2 := Lib.hid (HD1.out.numS hu ho HX2.out 0 (fun v r => { r with cl := v }) HE2.out (fun _ => rfl) (fun _ => rfl))
  have hx := (HD1.out.num hu ho).bx
  have fj := hx.free 0
  obtain ⟨d0, d1, d2, d3, d4, d5, d6, d7, d8, d9, d10, d11⟩ := hx.cells
  clear hu ho hx d1 d2 d3 d4 d5 d6 d7 d8 d9 d10 d11
  go_wp2_with fail
  generalize u2.setCell ⟨ob, 0, none⟩ (.int .i64 x2) = v2 at HD2 ⊢
  clear fj d0 HD1
  go_at_call 39
  refine (num_as HX3.out (vnum_any _ _ _ 4 _ HD2.out.un)).mono ?_
  rintro e u3 ⟨rfl, hu, ho, hz⟩
  clear hz
  have HD3 := Lib.hid (HD2.out.numS hu ho HX3.out 1 (fun v r => { r with sq := v }) HE3.out (fun _ => rfl) (fun _ => rfl))
  have hx := (HD2.out.num hu ho).bx
  have fj := hx.free 1
  obtain ⟨d0, d1, d2, d3, d4, d5, d6, d7, d8, d9, d10, d11⟩ := hx.cells
  rw [HKC.out] at d2
  clear hu ho hx d0 d3 d4 d5 d6 d7 d8 d9 d10 d11
  go_wp2_with fail
  generalize u3.setCell ⟨ob, 1, none⟩ (.int .i64 x3) = v3 at HD3 ⊢
  clear fj d1 d2 HD2
  go_at_call 39
  refine (num_as HX4.out (vnum_any _ _ _ 4 _ HD3.out.un)).mono ?_
  rintro e u4 ⟨rfl, hu, ho, hz⟩
  clear hz
  have HD4 := Lib.hid (HD3.out.numS hu ho HX4.out 10 (fun v r => { r with i := v }) HE4.out (fun _ => rfl) (fun _ => rfl))
  have hx := (HD3.out.num hu ho).bx
  have fj := hx.free 10
  obtain ⟨d0, d1, d2, d3, d4, d5, d6, d7, d8, d9, d10, d11⟩ := hx.cells
  clear hu ho hx d0 d1 d2 d3 d4 d5 d6 d7 d8 d9 d11
  go_wp2_with fail
  generalize u4.setCell ⟨ob, 10, none⟩ (.int .i64 x4) = v4 at HD4 ⊢
  clear fj d10 HD3
  obtain ⟨D5, hD5⟩ : ∃ D : Dn, D = numD 1 D4 (fun _ r => r) := ⟨_, rfl⟩
  obtain ⟨x5, hx5⟩ : ∃ x, x = numA D4.l D4.sp 1 := ⟨_, rfl⟩
  obtain ⟨C, hC⟩ : ∃ C : Nat, x5 = (C : Int) := ⟨x5.toNat, by have := numA_nonneg D4.l D4.sp 1; omega⟩
  have hC2 : C ≤ 255 := by have := numA_one D4.l D4.sp; omega
  have HX5 : Hid (x5 = numA D4.l D4.sp 1) := Lib.hid hx5
  have HM5 : Hid (D5.r.m = []) := Lib.hid (by rw [hD5]; show D4.r.m = []; rw [HE4.out]; show D3.r.m = []; rw [H3.out]; rfl)
  have HDE : Hid (∀ D, D = textD 65535 (mvsD C D5) (fun v r => { r with d := v }) → D = decD limQ S) := Lib.hid (by
    intro D hD
    unfold decD
    rw [HEK.out, show (fieldsOf 13).data.toList = [105, 109, 100] from by decide, ← H3.out]
    show _ = getD limQ 100 (getD limQ 109 (getD limQ 105 D3))
    rw [getD_105, ← HE4.out, getD_109, ← hx5, ← hD5, hC, getD_100, hD]
    rfl)
  have HE5 := Lib.hid hD5
  clear hx5 hD5
  go_at_call 39
  refine (num_as HX5.out (vnum_any _ _ _ 1 _ HD4.out.un)).mono ?_
  rintro e u5 ⟨rfl, hu, ho, hz⟩
  clear hz
  have HD5 : Hid (RDecAt (w.heap.size + 1) (w.heap.size + 1) ob D5 (.slice none 0 0) (w.alloc (.cells #[.int .i64 0, .int .i64 0, .int .i64 0, .string ⟨#[]⟩, .string ⟨#[]⟩, .int .i64 0, .int .i64 0, .int .i64 0, .string ⟨#[]⟩, .int .i64 0, .int .i64 0, .slice none 0 0] 24)) u5) := Lib.hid (HE5.out ▸ HD4.out.num hu ho)
  clear hu ho HD4
  subst hC
  go_wp2_with fail
  clear q1 q2 q3 q4 q5 q6 q7 q8 q9 q10 q11 q12 q13 q14
  clear HE0 HE1 HE2 HE3 HE4 HE5 HX1 HX2 HX3 HX4 HX5 HKC HSS H3 HEK
  obtain ⟨i0, hi, iz0, iz1, iz2⟩ := info_parts mvinfo
  go_loopw [6] (fun i wr => ∃ (z : Int) (k : Nat) (v' : Value), k ≤ C ∧ z = C - k ∧ i = .int .i64 z ∧ RDecAt (w.heap.size + 1) (w.heap.size + 1) ob (mvsD k D5) v' (w.alloc (.cells #[.int .i64 0, .int .i64 0, .int .i64 0, .string ⟨#[]⟩, .string ⟨#[]⟩, .int .i64 0, .int .i64 0, .int .i64 0, .string ⟨#[]⟩, .int .i64 0, .int .i64 0, .slice none 0 0] 24)) wr) (fun i _ => (intOf i).toNat)
  case atStart => exact ⟨C, 0, _, by omega, by omega, rfl, HD5.out⟩
  case round =>
    obtain ⟨z, k, v', hk, hzz, rfl, hda⟩ := hrel
    rename_i wr
    by_cases hlt : k < C
    · have hzp : 0 < z := by omega
      have HML : Hid ((mvsD k D5).r.m.length = k) := Lib.hid (by
        obtain ⟨xs, h1, h2⟩ := mvsD_r k D5
        rw [h1]; show (D5.r.m ++ xs).length = k; rw [HM5.out]; simpa using h2)
      obtain ⟨oz, cz, rfl, hz1, hz2, hz3⟩ := hda.row.form
      clear hz1 hz2 hz3
      have HMS : Hid (mvsD (k + 1) D5 = mvD (mvsD k D5)) := Lib.hid rfl
      generalize mvsD k D5 = dk at HMS HML hda ⊢
      rw [HML.out] at hda
      have HDA := Lib.hid hda
      clear hda
      obtain ⟨E1, hE1⟩ : ∃ E, E = numD 2 dk (fun _ r => r) := ⟨_, rfl⟩
      obtain ⟨E2, hE2⟩ : ∃ E, E = numD 2 E1 (fun _ r => r) := ⟨_, rfl⟩
      obtain ⟨E3, hE3⟩ : ∃ E, E = numD 2 E2 (fun _ r => r) := ⟨_, rfl⟩
      obtain ⟨E4, hE4⟩ : ∃ E, E = numD 2 E3 (fun _ r => r) := ⟨_, rfl⟩
      obtain ⟨y1, hy1⟩ : ∃ y, y = numA dk.l dk.sp 2 := ⟨_, rfl⟩
      obtain ⟨y2, hy2⟩ : ∃ y, y = numA E1.l E1.sp 2 := ⟨_, rfl⟩
      obtain ⟨y3, hy3⟩ : ∃ y, y = numA E2.l E2.sp 2 := ⟨_, rfl⟩
      obtain ⟨y4, hy4⟩ : ∃ y, y = numA E3.l E3.sp 2 := ⟨_, rfl⟩
      have HEM : Hid (mvD dk = ⟨E4.l, E4.sp, { E4.r with m := E4.r.m ++ [⟨y1, y2, y3, y4⟩] }⟩) := Lib.hid (by rw [hy4, hy3, hy2, hy1, hE4, hE3, hE2, hE1]; rfl)
      have HLE : Hid (E4.r.m.length = k) := Lib.hid (by rw [hE4, hE3, hE2, hE1]; exact HML.out)
      have HE1 := Lib.hid hE1
      have HE2 := Lib.hid hE2
      have HE3 := Lib.hid hE3
      have HE4 := Lib.hid hE4
      have HY1 := Lib.hid hy1
      have HY2 := Lib.hid hy2
      have HY3 := Lib.hid hy3
      have HY4 := Lib.hid hy4
      clear hE1 hE2 hE3 hE4 hy1 hy2 hy3 hy4
      go_wp2_with fail
      have M0 := Lib.hid (MDecAt.start HDA.out)
      generalize wr.alloc (.cells #[.int .i64 0, .int .i64 0, .int .i64 0, .int .i64 0] 51) = m0 at M0 ⊢
      generalize wr.heap.size = mb at M0 ⊢
      go_at_call 39
      refine (num_as HY1.out (vnum_any _ _ _ 2 _ M0.out.at'.un)).mono ?_
      rintro e t1 ⟨rfl, hu, ho, hz⟩
      clear hz
      have M1 := Lib.hid (M0.out.numS (x' := ⟨y1, 0, 0, 0⟩) hu ho 0 HE1.out (by rfl))
      have hb := ho.heap M0.out.mv (Ne.symm M0.out.h1)
      have f0 := Lib.frozen_of_heap hb 0
      have c0 : t1.cell? ⟨mb, 0, none⟩ = some (.int .i64 0) := by {rw [Lib.cell_of_heap hb]; rfl}
      clear hu ho hb
      go_wp2_with fail
      generalize t1.setCell ⟨mb, 0, none⟩ (.int .i64 y1) = m1 at M1 ⊢
      clear f0 c0 M0
      go_at_call 39
      refine (num_as HY2.out (vnum_any _ _ _ 2 _ M1.out.at'.un)).mono ?_
      rintro e t2 ⟨rfl, hu, ho, hz⟩
      clear hz
      have M2 := Lib.hid (M1.out.numS (x' := ⟨y1, y2, 0, 0⟩) hu ho 1 HE2.out (by rfl))
      have hb := ho.heap M1.out.mv (Ne.symm M1.out.h1)
      have f1 := Lib.frozen_of_heap hb 1
      have c1 : t2.cell? ⟨mb, 1, none⟩ = some (.int .i64 0) := by {rw [Lib.cell_of_heap hb]; rfl}
      clear hu ho hb
      go_wp2_with fail
      generalize t2.setCell ⟨mb, 1, none⟩ (.int .i64 y2) = m2 at M2 ⊢
      clear f1 c1 M1
      go_at_call 39
      refine (num_as HY3.out (vnum_any _ _ _ 2 _ M2.out.at'.un)).mono ?_
      rintro e t3 ⟨rfl, hu, ho, hz⟩
      clear hz
      have M3 := Lib.hid (M2.out.numS (x' := ⟨y1, y2, y3, 0⟩) hu ho 2 HE3.out (by rfl))
      have hb := ho.heap M2.out.mv (Ne.symm M2.out.h1)
      have f2 := Lib.frozen_of_heap hb 2
      have c2 : t3.cell? ⟨mb, 2, none⟩ = some (.int .i64 0) := by {rw [Lib.cell_of_heap hb]; rfl}
      clear hu ho hb
      go_wp2_with fail
      generalize t3.setCell ⟨mb, 2, none⟩ (.int .i64 y3) = m3 at M3 ⊢
      clear f2 c2 M2
      go_at_call 39
      refine (num_as HY4.out (vnum_any _ _ _ 2 _ M3.out.at'.un)).mono ?_
      rintro e t4 ⟨rfl, hu, ho, hz⟩
      clear hz
      have M4 := Lib.hid (M3.out.numS (x' := ⟨y1, y2, y3, y4⟩) hu ho 3 HE4.out (by rfl))
      have hb := ho.heap M3.out.mv (Ne.symm M3.out.h1)
      have f3 := Lib.frozen_of_heap hb 3
      have c0 : t4.cell? ⟨mb, 0, none⟩ = some (.int .i64 y1) := by {rw [Lib.cell_of_heap hb]; rfl}
      have c1 : t4.cell? ⟨mb, 1, none⟩ = some (.int .i64 y2) := by {rw [Lib.cell_of_heap hb]; rfl}
      have c2 : t4.cell? ⟨mb, 2, none⟩ = some (.int .i64 y3) := by {rw [Lib.cell_of_heap hb]; rfl}
      have c3 : t4.cell? ⟨mb, 3, none⟩ = some (.int .i64 0) := by {rw [Lib.cell_of_heap hb]; rfl}
      have hx := (M3.out.at'.num hu ho).bx
      obtain ⟨d0, d1, d2, d3, d4, d5, d6, d7, d8, d9, d10, d11⟩ := hx.cells
      clear hx d0 d1 d2 d3 d4 d5 d6 d7 d8 d9 d10
      have hne1 := M3.out.h2
      have hne2 := Ne.symm M3.out.h2
      clear hu ho hb
      have hsz : w.heap.size + 1 ≤ (t4.setCell ⟨mb, 3, none⟩ (.int .i64 y4)).heap.size := by
        have h1 := lt_of_block M4.out.at'.bx
        exact Nat.le_trans M4.out.at'.ho (Nat.le_of_lt h1)
      have HOWN : Hid ((t4.setCell ⟨mb, 3, none⟩ (.int .i64 y4)).ownsRow (w.heap.size + 1) 51 4 (.slice oz k cz) k (E4.r.m.flatMap encM)) := Lib.hid (by
        have q := M4.out.at'.row
        unfold RowK at q
        rwa [HLE.out] at q)
      go_wp2_with (at_builtin; go_loud (refine wpList_append_newB rfl _ _ 22 rfl (w.heap.size + 1) 51 i0 (.agg #[.int .i64 0, .int .i64 0, .int .i64 0, .int .i64 0]) 4 32 Tryd.underlying22 hi iz0 iz1 iz2 rfl (by decide) _ _ _ (by rfl) HOWN.out _ 1 1 (by rfl) rfl (cells_mv ⟨y1, y2, y3, y4⟩) (by unfold maxLen; omega) (by omega) hsz (by simp) ?_; intro oa6 cap6 w6 hown6 hbel6 hg6; have HS6 := Lib.hid (M4.out.at'.snoc (x := ⟨y1, y2, y3, y4⟩) HLE.out hg6 hbel6 hown6 HEM.out); have hx := HS6.out.1; have fj := hx.free 11; obtain ⟨d0, d1, d2, d3, d4, d5, d6, d7, d8, d9, d10, e11⟩ := hx.cells; clear hx d0 d1 d2 d3 d4 d5 d6 d7 d8 d9 d10 hown6 hbel6 hg6))
      exact ⟨⟨_, k + 1, _, by omega, by omega, rfl, by rw [HMS.out]; exact HS6.out.2⟩, by simp [intOf]; omega⟩
    · have hzn : ¬ (0 < z) := by omega
      obtain rfl : k = C := by omega
      have HD5' := Lib.hid hda
      obtain ⟨D6, hD6⟩ : ∃ D : Dn, D = textD 65535 (mvsD k D5) (fun v r => { r with d := v }) := ⟨_, rfl⟩
      have HDE2 := Lib.hid (HDE.out _ hD6)
      have HE6 := Lib.hid hD6
      clear hda hD6
      generalize mvsD k D5 = dk at HD5' HE6
      go_wp2_with fail
      go_at_call 40
      refine (vtext_is _ _ _ 65535 _ HD5'.out.un).mono ?_
      rintro e u6 ⟨rfl, hu, ho⟩
      have HD6 := Lib.hid (HD5'.out.textS hu ho 8 (fun v r => { r with d := v }) HE6.out (fun _ => rfl) (fun _ => rfl))
      have hx := (HD5'.out.num hu ho).bx
      have fj := hx.free 8
      obtain ⟨d0, d1, d2, d3, d4, d5, d6, d7, d8, d9, d10, d11⟩ := hx.cells
      clear hu ho hx d0 d1 d2 d3 d4 d5 d6 d7 d9 d10 d11
      go_wp2_with fail
      generalize u6.setCell ⟨ob, 8, none⟩ (.string (textA dk.l dk.sp 65535)) = v6 at HD6 ⊢
      clear fj d8 HD5' HDE HM5
      have HDE := HDE2
      clear HDE2 HE6
      obtain ⟨vz, HD⟩ : ∃ vz, Hid (RDecAt (w.heap.size + 1) (w.heap.size + 1) ob D6 vz (w.alloc (.cells #[.int .i64 0, .int .i64 0, .int .i64 0, .string ⟨#[]⟩, .string ⟨#[]⟩, .int .i64 0, .int .i64 0, .int .i64 0, .string ⟨#[]⟩, .int .i64 0, .int .i64 0, .slice none 0 0] 24)) v6) := ⟨_, HD6⟩
      clear HD6
      have HT := HD
      rw [HDE.out] at HT
      have HFIT := Lib.hid (dec_fit limQ limQ_b S)
      generalize decD limQ S = D at *
      by_cases he : endA D.l D.sp = 0
      · have hE : (endA D.l D.sp != 0) = false := by rw [he]; rfl
        have HE := Lib.hid he
        clear he
        cases hg : goodB D.r with
        | true =>
          have HG := Lib.hid hg
          have HDR : Hid (decR D = some D.r) := Lib.hid (by unfold decR; rw [if_pos ⟨HE.out, hg⟩])
          clear hg
          go_at_call 41
          refine (vend_is _ _ _ _ HT.out.un).mono ?_
          rintro e w8 ⟨rfl, hb8⟩
          have HT8 := Lib.hid (HT.out.keep hb8)
          clear hb8
          obtain ⟨oz, cz, rfl, hcz1, hcz2, hcz3⟩ := HT8.out.row.form
          have HFORM : Hid (oz = none → D.r.m.length = 0 ∧ cz = 0) := Lib.hid hcz3
          clear hcz1 hcz2 hcz3
          have hx := HT8.out.bx
          obtain ⟨f0, f1, f2, f3, f4, f5, f6, f7, f8, f9, f10, f11⟩ := hx.cells
          have HMV : Hid (MvAt w8 oz D.r.m) := Lib.hid (RowK.pts encM_len (by decide) HT8.out.row)
          have HRES : Hid (w8.heap[w.heap.size]? = some (.cells #[.int .i64 0, .int .i64 0, .int .i64 0, .string ⟨#[]⟩, .string ⟨#[]⟩, .int .i64 0, .int .i64 0, .int .i64 0, .string ⟨#[]⟩, .int .i64 0, .int .i64 0, .slice none 0 0] 24 (0, 0))) := Lib.hid ((HT8.out.low.block w.heap.size (by simp)).trans HR.out)
          have HLOW : Hid (Below w.heap.size w w8) := Lib.hid (H0.out.trans (HT8.out.low.mono (by omega)))
          clear hx
          go_wp2_with (first
            | (refine wpList_store_row rfl 24 (Operand.tmp 2) _ rfl w.heap.size _ rfl rfl 24 _ ((HB9.out.block w.heap.size (lt_of_block HRES.out)).trans HRES.out) opSize rfl (by simp [Value.oneCell']) ?_)
            | (go_at_call 14; refine (rgood_any D.r HFIT.out oz _ cz rfl _ HMV.out).mono ?_; rintro e w9 ⟨hge, hb9⟩; rw [HG.out] at hge; subst hge; have HB9 := Lib.hid hb9; have hx9 := HT8.out.bx.keep hb9; obtain ⟨g0, g1, g2, g3, g4, g5, g6, g7, g8, g9, g10, g11⟩ := hx9.cells; clear hb9 hx9 f0 f1 f2 f3 f4 f5 f6 f7 f8 f9 f10 f11))
          refine ret_row (p := 2) (u := 3) rfl rfl rfl (setRow_heap _ _ _ _ _ _ ((HB9.out.block w.heap.size (lt_of_block HRES.out)).trans HRES.out)) Tryd.underlying24 rfl opSize ?_
          have hbb := below_setRow (bstep HLOW.out HB9.out) (Nat.le_refl w.heap.size) #[.int .i64 D.r.cl, .int .i64 D.r.sq, .int .i64 D.r.k, .string D.r.p, .string D.r.t, .int .i64 D.r.sz, .int .i64 D.r.h, .int .i64 D.r.o, .string D.r.d, .int .i64 D.r.tk, .int .i64 D.r.i, .slice oz D.r.m.length cz]
          exact ⟨D.r, 0, oz, _, cz, rfl, rfl, HFORM.out, (HMV.out.grow HB9.out).only (setRow_only _ _ _) (fun a ha => by have hh := (own_base HT8.out.row).1 a ha; omega), hbb, .inl ⟨HDR.out, rfl⟩⟩
        | false =>
          have HG := Lib.hid hg
          have HDR : Hid (decR D = none) := Lib.hid (by unfold decR; rw [if_neg (fun h => by rw [hg] at h; cases h.2)])
          clear hg
          go_at_call 41
          refine (vend_is _ _ _ _ HT.out.un).mono ?_
          rintro e w8 ⟨rfl, hb8⟩
          have HT8 := Lib.hid (HT.out.keep hb8)
          clear hb8
          obtain ⟨oz, cz, rfl, hcz1, hcz2, hcz3⟩ := HT8.out.row.form
          have HFORM : Hid (oz = none → D.r.m.length = 0 ∧ cz = 0) := Lib.hid hcz3
          clear hcz1 hcz2 hcz3
          have hx := HT8.out.bx
          obtain ⟨f0, f1, f2, f3, f4, f5, f6, f7, f8, f9, f10, f11⟩ := hx.cells
          have HMV : Hid (MvAt w8 oz D.r.m) := Lib.hid (RowK.pts encM_len (by decide) HT8.out.row)
          have HRES : Hid (w8.heap[w.heap.size]? = some (.cells #[.int .i64 0, .int .i64 0, .int .i64 0, .string ⟨#[]⟩, .string ⟨#[]⟩, .int .i64 0, .int .i64 0, .int .i64 0, .string ⟨#[]⟩, .int .i64 0, .int .i64 0, .slice none 0 0] 24 (0, 0))) := Lib.hid ((HT8.out.low.block w.heap.size (by simp)).trans HR.out)
          have HLOW : Hid (Below w.heap.size w w8) := Lib.hid (H0.out.trans (HT8.out.low.mono (by omega)))
          clear hx
          go_wp2_with (first
            | (refine wpList_store_row rfl 24 (Operand.tmp 2) _ rfl w.heap.size _ rfl rfl 24 _ ((HB9.out.block w.heap.size (lt_of_block HRES.out)).trans HRES.out) opSize rfl (by simp [Value.oneCell']) ?_)
            | (go_at_call 14; refine (rgood_any D.r HFIT.out oz _ cz rfl _ HMV.out).mono ?_; rintro e w9 ⟨hge, hb9⟩; rw [HG.out] at hge; subst hge; have HB9 := Lib.hid hb9; clear hb9 f0 f1 f2 f3 f4 f5 f6 f7 f8 f9 f10 f11))
          refine ret_row (p := 2) (u := 3) rfl rfl rfl (setRow_heap _ _ _ _ _ _ ((HB9.out.block w.heap.size (lt_of_block HRES.out)).trans HRES.out)) Tryd.underlying24 rfl opSize ?_
          have hbb := below_setRow (bstep HLOW.out HB9.out) (Nat.le_refl w.heap.size) #[.int .i64 0, .int .i64 0, .int .i64 0, .string ⟨#[]⟩, .string ⟨#[]⟩, .int .i64 0, .int .i64 0, .int .i64 0, .string ⟨#[]⟩, .int .i64 0, .int .i64 0, .slice none 0 0]
          exact ⟨zr, 11, none, 0, 0, rfl, rfl, fun _ => ⟨rfl, rfl⟩, MvAt.nil _ _, hbb, .inr ⟨HDR.out, rfl, rfl⟩⟩
      · have hE : (endA D.l D.sp != 0) = true := bne_iff_ne.2 he
        have HDR : Hid (decR D = none) := Lib.hid (by unfold decR; rw [if_neg (fun h => he h.1)])
        clear he
        go_at_call 41
        refine (vend_is _ _ _ _ HT.out.un).mono ?_
        rintro e w8 ⟨rfl, hb8⟩
        have HT8 := Lib.hid (HT.out.keep hb8)
        clear hb8
        obtain ⟨oz, cz, rfl, hcz1, hcz2, hcz3⟩ := HT8.out.row.form
        have HFORM : Hid (oz = none → D.r.m.length = 0 ∧ cz = 0) := Lib.hid hcz3
        clear hcz1 hcz2 hcz3
        have hx := HT8.out.bx
        obtain ⟨f0, f1, f2, f3, f4, f5, f6, f7, f8, f9, f10, f11⟩ := hx.cells
        have HMV : Hid (MvAt w8 oz D.r.m) := Lib.hid (RowK.pts encM_len (by decide) HT8.out.row)
        have HRES : Hid (w8.heap[w.heap.size]? = some (.cells #[.int .i64 0, .int .i64 0, .int .i64 0, .string ⟨#[]⟩, .string ⟨#[]⟩, .int .i64 0, .int .i64 0, .int .i64 0, .string ⟨#[]⟩, .int .i64 0, .int .i64 0, .slice none 0 0] 24 (0, 0))) := Lib.hid ((HT8.out.low.block w.heap.size (by simp)).trans HR.out)
        have HLOW : Hid (Below w.heap.size w w8) := Lib.hid (H0.out.trans (HT8.out.low.mono (by omega)))
        clear hx
        go_wp2_with (first
          | (refine wpList_store_row rfl 24 (Operand.tmp 2) _ rfl w.heap.size _ rfl rfl 24 _ HRES.out opSize rfl (by simp [Value.oneCell']) ?_))
        refine ret_row (p := 2) (u := 3) rfl rfl rfl (setRow_heap _ _ _ _ _ _ HRES.out) Tryd.underlying24 rfl opSize ?_
        have hbb := below_setRow HLOW.out (Nat.le_refl w.heap.size) #[.int .i64 0, .int .i64 0, .int .i64 0, .string ⟨#[]⟩, .string ⟨#[]⟩, .int .i64 0, .int .i64 0, .int .i64 0, .string ⟨#[]⟩, .int .i64 0, .int .i64 0, .slice none 0 0]
        exact ⟨zr, 11, none, 0, 0, rfl, rfl, fun _ => ⟨rfl, rfl⟩, MvAt.nil _ _, hbb, .inr ⟨HDR.out, rfl, rfl⟩⟩
theorem rdec_any (s : ByteArray) (hs : s.size ≤ 100000) (w : World) : Calls Tryd.prog 17 #[.string s] w (DecPost (decD limQ s.data.toList) w) := by
  by_cases hk : 1 ≤ (headD s.data.toList).r.k ∧ (headD s.data.toList).r.k ≤ 14
  · rcases kinds _ hk with e | e | e | e | e | e | e | e | e | e | e | e | e | e
    · exact rdec_1 s hs w e
    · exact rdec_2 s hs w e
    · exact rdec_3 s hs w e
    · exact rdec_4 s hs w e
    · exact rdec_5 s hs w e
    · exact rdec_6 s hs w e
    · exact rdec_7 s hs w e
    · exact rdec_8 s hs w e
    · exact rdec_9 s hs w e
    · exact rdec_10 s hs w e
    · exact rdec_11 s hs w e
    · exact rdec_12 s hs w e
    · exact rdec_13 s hs w e
    · exact rdec_14 s hs w e
  · exact rdec_0 s hs w hk
end Go.Proofs.YtlffcilgmockmaaDoor.OpW
