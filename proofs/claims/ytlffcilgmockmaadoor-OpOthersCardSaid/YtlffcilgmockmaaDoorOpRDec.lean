/- escheatref06.Decode. -/
import Derived.Test.YtlffcilgmockmaaDoorOpDec
import Derived.Test.YtlffcilgmockmaaDoorOpRGood
namespace Go.Proofs.YtlffcilgmockmaaDoor.OpW
set_option maxRecDepth 100000
open Go.RowKit OpP PackW
/-- what the reference reads at most -/
def limQ : Lim := ⟨65535, 65535, fun n => n.toNat⟩
theorem limQ_ok : limQ.Ok := ⟨by decide, by decide, fun n h0 h => Int.toNat_of_nonneg h0, fun n h0 h => Int.toNat_of_nonneg h0⟩
theorem limQ_b : LimB limQ := ⟨by decide, by decide, fun n h => by show n.toNat ≤ 300; omega⟩
/-- the reference's unpacker in block b, the record so far in block ob, made from B on -/
structure RDecAt (B b ob : Nat) (d : Dn) (v : Value) (w0 w : World) : Prop where
  un : VIs b d.l d.sp w
  bx : OBox w ob d.r v
  row : RowK 51 encM 4 B w v d.r.m
  low : Below B w0 w
  ne : b ≠ ob
  hb : B ≤ b
  ho : B ≤ ob
theorem RDecAt.far {B b ob : Nat} {d : Dn} {v : Value} {w0 w : World} (h : RDecAt B b ob d v w0 w) : v.ownBlock ≠ some b ∧ v.ownBlock ≠ some ob := by
  obtain ⟨s, k, h1, _⟩ := h.un
  exact ⟨own_ne h.row h1 (by decide), own_ne h.row h.bx (by decide)⟩
theorem RDecAt.num {B b ob : Nat} {d : Dn} {v : Value} {w0 w w1 : World} (h : RDecAt B b ob d v w0 w) {l : List UInt8} {sp : Bool} (hu : VIs b l sp w1) (k : Only b w w1) : RDecAt B b ob ⟨l, sp, d.r⟩ v w0 w1 :=
  ⟨hu, k.heap h.bx (Ne.symm h.ne), k.keepRow h.row h.far.1, h.low.trans (k.below h.hb (by have := lt_of_block h.bx; have := h.ho; omega)), h.ne, h.hb, h.ho⟩
theorem RDecAt.set {B b ob : Nat} {d : Dn} {v : Value} {w0 w : World} (h : RDecAt B b ob d v w0 w) (j : Nat) (u : Value) (r : Rec) (hc : (#[.int .i64 d.r.cl, .int .i64 d.r.sq, .int .i64 d.r.k, .string d.r.p, .string d.r.t, .int .i64 d.r.sz, .int .i64 d.r.h, .int .i64 d.r.o, .string d.r.d, .int .i64 d.r.tk, .int .i64 d.r.i, v] : Array Value).setIfInBounds j u = #[.int .i64 r.cl, .int .i64 r.sq, .int .i64 r.k, .string r.p, .string r.t, .int .i64 r.sz, .int .i64 r.h, .int .i64 r.o, .string r.d, .int .i64 r.tk, .int .i64 r.i, v]) (hm : r.m = d.r.m) : RDecAt B b ob ⟨d.l, d.sp, r⟩ v w0 (w.setCell ⟨ob, j, none⟩ u) := by
  have hk : Only ob w (w.setCell ⟨ob, j, none⟩ u) := (Only.refl _ _).setCell j u
  refine ⟨h.un.keepOnly hk h.ne, box_set h.bx hc, ?_, h.low.setCell (p := ⟨ob, j, none⟩) h.ho _, h.ne, h.hb, h.ho⟩
  show RowK _ _ _ _ _ _ r.m
  rw [hm]
  exact hk.keepRow h.row h.far.2
theorem RDecAt.keep {B b ob : Nat} {d : Dn} {v : Value} {w0 w w' : World} (h : RDecAt B b ob d v w0 w) (k : Below w.heap.size w w') : RDecAt B b ob d v w0 w' :=
  ⟨h.un.keep k, h.bx.keep k, h.row.grow k, h.low.trans (k.mono (by have := lt_of_block h.bx; have := h.ho; omega)), h.ne, h.hb, h.ho⟩
theorem RDecAt.start {B b : Nat} {S : List UInt8} {w0 w1 : World} (hb1 : Below B w0 w1) (hB : B ≤ w1.heap.size) (hbB : B ≤ b) (hu : VIs b S false w1) :
    RDecAt B b w1.heap.size ⟨S, false, zr⟩ (.slice none 0 0) w0 (w1.alloc (.cells #[.int .i64 0, .int .i64 0, .int .i64 0, .string ⟨#[]⟩, .string ⟨#[]⟩, .int .i64 0, .int .i64 0, .int .i64 0, .string ⟨#[]⟩, .int .i64 0, .int .i64 0, .slice none 0 0] 24)) :=
  ⟨hu.keep (below_alloc _ _), heap_alloc_new w1 _, RowK.nil _ _, hb1.alloc (by omega) _, by have := hu.lt; omega, hbB, hB⟩
theorem RDecAt.numS {B b ob : Nat} {d d' : Dn} {v : Value} {w0 w w1 : World} {n x : Int} (h : RDecAt B b ob d v w0 w) (hu : VIs b (d.l.drop n.toNat) (numG d.l d.sp n) w1) (ho : Only b w w1) (hx : x = numA d.l d.sp n) (j : Nat) (f : Int → Rec → Rec) (hd : d' = numD n d f)
    (hc : ∀ x, (#[.int .i64 d.r.cl, .int .i64 d.r.sq, .int .i64 d.r.k, .string d.r.p, .string d.r.t, .int .i64 d.r.sz, .int .i64 d.r.h, .int .i64 d.r.o, .string d.r.d, .int .i64 d.r.tk, .int .i64 d.r.i, v] : Array Value).setIfInBounds j (.int .i64 x) = #[.int .i64 (f x d.r).cl, .int .i64 (f x d.r).sq, .int .i64 (f x d.r).k, .string (f x d.r).p, .string (f x d.r).t, .int .i64 (f x d.r).sz, .int .i64 (f x d.r).h, .int .i64 (f x d.r).o, .string (f x d.r).d, .int .i64 (f x d.r).tk, .int .i64 (f x d.r).i, v]) (hm : ∀ x, (f x d.r).m = d.r.m) : RDecAt B b ob d' v w0 (w1.setCell ⟨ob, j, none⟩ (.int .i64 x)) := by
  subst hx
  subst hd
  exact (h.num hu ho).set j _ _ (hc _) (hm _)
theorem RDecAt.textS {B b ob : Nat} {d d' : Dn} {v : Value} {w0 w w1 : World} {m : Int} (h : RDecAt B b ob d v w0 w) (hu : VIs b (textR d.l) (textG d.l d.sp m) w1) (ho : Only b w w1) (j : Nat) (f : ByteArray → Rec → Rec) (hd : d' = textD m d f)
    (hc : ∀ x, (#[.int .i64 d.r.cl, .int .i64 d.r.sq, .int .i64 d.r.k, .string d.r.p, .string d.r.t, .int .i64 d.r.sz, .int .i64 d.r.h, .int .i64 d.r.o, .string d.r.d, .int .i64 d.r.tk, .int .i64 d.r.i, v] : Array Value).setIfInBounds j (.string x) = #[.int .i64 (f x d.r).cl, .int .i64 (f x d.r).sq, .int .i64 (f x d.r).k, .string (f x d.r).p, .string (f x d.r).t, .int .i64 (f x d.r).sz, .int .i64 (f x d.r).h, .int .i64 (f x d.r).o, .string (f x d.r).d, .int .i64 (f x d.r).tk, .int .i64 (f x d.r).i, v]) (hm : ∀ x, (f x d.r).m = d.r.m) : RDecAt B b ob d' v w0 (w1.setCell ⟨ob, j, none⟩ (.string (textA d.l d.sp m))) := by
  subst hd
  exact (h.num hu ho).set j _ _ (hc _) (hm _)
theorem vend_is (b : Nat) (l : List UInt8) (bad : Bool) (w : World) (hp : VIs b l bad w) :
    Calls Tryd.prog 41 #[.pointer (some ⟨b, 0, none⟩)] w fun e w' => e = .returned (.int .i64 (endA l bad)) ∧ Below w.heap.size w w' := by
  refine (vend_any b l bad w hp).mono ?_
  rintro e w' ⟨rfl, m, rfl⟩
  exact ⟨rfl, below_drawn _ _⟩
set_option maxHeartbeats 1600000 in
theorem rdec_0 (s : ByteArray) (hs : s.size ≤ 100000) (w : World) (e0 : ¬ (1 ≤ (headD s.data.toList).r.k ∧ (headD s.data.toList).r.k ≤ 14)) : Calls Tryd.prog 17 #[.string s] w (DecPost (decD limQ s.data.toList) w) := by
  have H0 := Lib.hid (below_alloc w (.cells #[.int .i64 0, .int .i64 0, .int .i64 0, .string ⟨#[]⟩, .string ⟨#[]⟩, .int .i64 0, .int .i64 0, .int .i64 0, .string ⟨#[]⟩, .int .i64 0, .int .i64 0, .slice none 0 0] 24))
  have HR : Hid ((w.alloc (.cells #[.int .i64 0, .int .i64 0, .int .i64 0, .string ⟨#[]⟩, .string ⟨#[]⟩, .int .i64 0, .int .i64 0, .int .i64 0, .string ⟨#[]⟩, .int .i64 0, .int .i64 0, .slice none 0 0] 24)).heap[w.heap.size]? = some (.cells #[.int .i64 0, .int .i64 0, .int .i64 0, .string ⟨#[]⟩, .string ⟨#[]⟩, .int .i64 0, .int .i64 0, .int .i64 0, .string ⟨#[]⟩, .int .i64 0, .int .i64 0, .slice none 0 0] 24 (0, 0))) := Lib.hid (heap_alloc_new w _)
  generalize hS : s.data.toList = S at e0 ⊢
  have HSS := Lib.hid hS
  obtain ⟨D0, hD0⟩ : ∃ D : Dn, D = ⟨S, false, zr⟩ := ⟨_, rfl⟩
  obtain ⟨D1, hD1⟩ : ∃ D : Dn, D = numD 1 D0 (fun v r => { r with k := v }) := ⟨_, rfl⟩
  obtain ⟨x1, hx1⟩ : ∃ x, x = numA D0.l D0.sp 1 := ⟨_, rfl⟩
  obtain ⟨D2, hD2⟩ : ∃ D : Dn, D = numD 1 D1 (fun v r => { r with cl := v }) := ⟨_, rfl⟩
  obtain ⟨x2, hx2⟩ : ∃ x, x = numA D1.l D1.sp 1 := ⟨_, rfl⟩
  obtain ⟨D3, hD3⟩ : ∃ D : Dn, D = numD 4 D2 (fun v r => { r with sq := v }) := ⟨_, rfl⟩
  obtain ⟨x3, hx3⟩ : ∃ x, x = numA D2.l D2.sp 4 := ⟨_, rfl⟩
  have h3 : D3 = headD S := by rw [hD3, hD2, hD1, hD0]; rfl
  have HKC : Hid (D2.r.k = x1) := Lib.hid (by rw [hD2, hD1, hx1]; rfl)
  have ek : (headD S).r.k = x1 := by rw [← h3, hD3]; exact HKC.out
  rw [ek] at e0
  have HDE : Hid (D3 = decD limQ S) := Lib.hid (by rw [decD_none limQ S (by rw [ek]; exact e0), h3])
  have HE0 := Lib.hid hD0
  have HE1 := Lib.hid hD1
  have HE2 := Lib.hid hD2
  have HE3 := Lib.hid hD3
  have HX1 := Lib.hid hx1
  have HX2 := Lib.hid hx2
  have HX3 := Lib.hid hx3
  have q1 : (x1 == 1) = false := beq_eq_false_iff_ne.2 (by omega)
  have q2 : (x1 == 2) = false := beq_eq_false_iff_ne.2 (by omega)
  have q3 : (x1 == 3) = false := beq_eq_false_iff_ne.2 (by omega)
  have q4 : (x1 == 4) = false := beq_eq_false_iff_ne.2 (by omega)
  have q5 : (x1 == 5) = false := beq_eq_false_iff_ne.2 (by omega)
  have q6 : (x1 == 6) = false := beq_eq_false_iff_ne.2 (by omega)
  have q7 : (x1 == 7) = false := beq_eq_false_iff_ne.2 (by omega)
  have q8 : (x1 == 8) = false := beq_eq_false_iff_ne.2 (by omega)
  have q9 : (x1 == 9) = false := beq_eq_false_iff_ne.2 (by omega)
  have q10 : (x1 == 10) = false := beq_eq_false_iff_ne.2 (by omega)
  have q11 : (x1 == 11) = false := beq_eq_false_iff_ne.2 (by omega)
  have q12 : (x1 == 12) = false := beq_eq_false_iff_ne.2 (by omega)
  have q13 : (x1 == 13) = false := beq_eq_false_iff_ne.2 (by omega)
  have q14 : (x1 == 14) = false := beq_eq_false_iff_ne.2 (by omega)
  clear e0 hS h3 ek hD0 hD1 hD2 hD3 hx1 hx2 hx3
  go_enter Tryd.func17, Tryd.ntmps17
  go_wp2_with fail
  go_at_call 38
  refine (ropen_any s _).mono ?_
  rintro e w1 ⟨rfl, hp, hb, hz⟩
  clear hz
  rw [alloc_size] at hp hb
  have HD0 : Hid (RDecAt (w.heap.size + 1) (w.heap.size + 1) w1.heap.size D0 (.slice none 0 0) (w.alloc (.cells #[.int .i64 0, .int .i64 0, .int .i64 0, .string ⟨#[]⟩, .string ⟨#[]⟩, .int .i64 0, .int .i64 0, .int .i64 0, .string ⟨#[]⟩, .int .i64 0, .int .i64 0, .slice none 0 0] 24)) (w1.alloc (.cells #[.int .i64 0, .int .i64 0, .int .i64 0, .string ⟨#[]⟩, .string ⟨#[]⟩, .int .i64 0, .int .i64 0, .int .i64 0, .string ⟨#[]⟩, .int .i64 0, .int .i64 0, .slice none 0 0] 24))) := Lib.hid (by
    rw [HE0.out]
    exact RDecAt.start hb (by have hh := hb.size; rw [alloc_size] at hh; exact hh) (Nat.le_refl _) ⟨s, 0, hp, by omega, by omega, fun _ => by rw [HSS.out]; rfl⟩)
  clear hp hb
  go_wp2_with fail
  generalize w1.alloc (.cells #[.int .i64 0, .int .i64 0, .int .i64 0, .string ⟨#[]⟩, .string ⟨#[]⟩, .int .i64 0, .int .i64 0, .int .i64 0, .string ⟨#[]⟩, .int .i64 0, .int .i64 0, .slice none 0 0] 24) = v0 at HD0 ⊢
  generalize w1.heap.size = ob at HD0 ⊢
  go_at_call 39
  refine (num_as HX1.out (vnum_any _ _ _ 1 _ HD0.out.un)).mono ?_
  rintro e u1 ⟨rfl, hu, ho, hz⟩
  clear hz
  have HD1 := Lib.hid (HD0.out.numS hu ho HX1.out 2 (fun v r => { r with k := v }) HE1.out (fun _ => rfl) (fun _ => rfl))
  have hx := (HD0.out.num hu ho).bx
  have fj := hx.free 2
  obtain ⟨d0, d1, d2, d3, d4, d5, d6, d7, d8, d9, d10, d11⟩ := hx.cells
  clear hu ho hx d0 d1 d3 d4 d5 d6 d7 d8 d9 d10 d11
  go_wp2_with fail
  generalize u1.setCell ⟨ob, 2, none⟩ (.int .i64 x1) = v1 at HD1 ⊢
  clear fj d2 HD0
  go_at_call 39
  refine (num_as HX2.out (vnum_any _ _ _ 1 _ HD1.out.un)).mono ?_
  rintro e u2 ⟨rfl, hu, ho, hz⟩
  clear hz
  have HD2 := Lib.hid (HD1.out.numS hu ho HX2.out 0 (fun v r => { r with cl := v }) HE2.out (fun _ => rfl) (fun _ => rfl))
  have hx := (HD1.out.num hu ho).bx
  have fj := hx.free 0
  obtain ⟨d0, d1, d2, d3, d4, d5, d6, d7, d8, d9, d10, d11⟩ := hx.cells
  clear hu ho hx d1 d2 d3 d4 d5 d6 d7 d8 d9 d10 d11
  go_wp2_with fail
  generalize u2.setCell ⟨ob, 0, none⟩ (.int .i64 x2) = v2 at HD2 ⊢
  clear fj d0 HD1
  go_at_call 39
  refine (num_as HX3.out (vnum_any _ _ _ 4 _ HD2.out.un)).mono ?_
  rintro e u3 ⟨rfl, hu, ho, hz⟩
  clear hz
  have HD3 := Lib.hid (HD2.out.numS hu ho HX3.out 1 (fun v r => { r with sq := v }) HE3.out (fun _ => rfl) (fun _ => rfl))
  have hx := (HD2.out.num hu ho).bx
  have fj := hx.free 1
  obtain ⟨d0, d1, d2, d3, d4, d5, d6, d7, d8, d9, d10, d11⟩ := hx.cells
  rw [HKC.out] at d2
  clear hu ho hx d0 d3 d4 d5 d6 d7 d8 d9 d10 d11
  go_wp2_with fail
  generalize u3.setCell ⟨ob, 1, none⟩ (.int .i64 x3) = v3 at HD3 ⊢
  clear fj d1 d2 HD2
  obtain ⟨vz, HD⟩ : ∃ vz, Hid (RDecAt (w.heap.size + 1) (w.heap.size + 1) ob D3 vz (w.alloc (.cells #[.int .i64 0, .int .i64 0, .int .i64 0, .string ⟨#[]⟩, .string ⟨#[]⟩, .int .i64 0, .int .i64 0, .int .i64 0, .string ⟨#[]⟩, .int .i64 0, .int .i64 0, .slice none 0 0] 24)) v3) := ⟨_, HD3⟩
  clear HD3 HE0 HE1 HE2 HE3 HX1 HX2 HX3 HKC HSS q1 q2 q3 q4 q5 q6 q7 q8 q9 q10 q11 q12 q13 q14
  have HT := HD
  rw [HDE.out] at HT
  have HFIT := Lib.hid (dec_fit limQ limQ_b S)
  generalize decD limQ S = D at *
  by_cases he : endA D.l D.sp = 0
  · have hE : (endA D.l D.sp != 0) = false := by rw [he]; rfl
    have HE := Lib.hid he
    clear he
    cases hg : goodB D.r with
    | true =>
      have HG := Lib.hid hg
      have HDR : Hid (decR D = some D.r) := Lib.hid (by unfold decR; rw [if_pos ⟨HE.out, hg⟩])
      clear hg
      go_at_call 41
      refine (vend_is _ _ _ _ HT.out.un).mono ?_
      rintro e w8 ⟨rfl, hb8⟩
      have HT8 := Lib.hid (HT.out.keep hb8)
      clear hb8
      obtain ⟨oz, cz, rfl, hcz1, hcz2, hcz3⟩ := HT8.out.row.form
      have HFORM : Hid (oz = none → D.r.m.length = 0 ∧ cz = 0) := Lib.hid hcz3
      clear hcz1 hcz2 hcz3
      have hx := HT8.out.bx
      obtain ⟨f0, f1, f2, f3, f4, f5, f6, f7, f8, f9, f10, f11⟩ := hx.cells
      have HMV : Hid (MvAt w8 oz D.r.m) := Lib.hid (RowK.pts encM_len (by decide) HT8.out.row)
      have HRES : Hid (w8.heap[w.heap.size]? = some (.cells #[.int .i64 0, .int .i64 0, .int .i64 0, .string ⟨#[]⟩, .string ⟨#[]⟩, .int .i64 0, .int .i64 0, .int .i64 0, .string ⟨#[]⟩, .int .i64 0, .int .i64 0, .slice none 0 0] 24 (0, 0))) := Lib.hid ((HT8.out.low.block w.heap.size (by simp)).trans HR.out)
      have HLOW : Hid (Below w.heap.size w w8) := Lib.hid (H0.out.trans (HT8.out.low.mono (by omega)))
      clear hx
      go_wp2_with (first
        | (refine wpList_store_row rfl 24 (Operand.tmp 2) _ rfl w.heap.size _ rfl rfl 24 _ ((HB9.out.block w.heap.size (lt_of_block HRES.out)).trans HRES.out) opSize rfl (by simp [Value.oneCell']) ?_)
        | (go_at_call 14; refine (rgood_any D.r HFIT.out oz _ cz rfl _ HMV.out).mono ?_; rintro e w9 ⟨hge, hb9⟩; rw [HG.out] at hge; subst hge; have HB9 := Lib.hid hb9; have hx9 := HT8.out.bx.keep hb9; obtain ⟨g0, g1, g2, g3, g4, g5, g6, g7, g8, g9, g10, g11⟩ := hx9.cells; clear hb9 hx9 f0 f1 f2 f3 f4 f5 f6 f7 f8 f9 f10 f11))
      refine ret_row (p := 2) (u := 3) rfl rfl rfl (setRow_heap _ _ _ _ _ _ ((HB9.out.block w.heap.size (lt_of_block HRES.out)).trans HRES.out)) Tryd.underlying24 rfl opSize ?_
      have hbb := below_setRow (bstep HLOW.out HB9.out) (Nat.le_refl w.heap.size) #[.int .i64 D.r.cl, .int .i64 D.r.sq, .int .i64 D.r.k, .string D.r.p, .string D.r.t, .int .i64 D.r.sz, .int .i64 D.r.h, .int .i64 D.r.o, .string D.r.d, .int .i64 D.r.tk, .int .i64 D.r.i, .slice oz D.r.m.length cz]
      exact ⟨D.r, 0, oz, _, cz, rfl, rfl, HFORM.out, (HMV.out.grow HB9.out).only (setRow_only _ _ _) (fun a ha => by have hh := (own_base HT8.out.row).1 a ha; omega), hbb, .inl ⟨HDR.out, rfl⟩⟩
    | false =>
      have HG := Lib.hid hg
      have HDR : Hid (decR D = none) := Lib.hid (by unfold decR; rw [if_neg (fun h => by rw [hg] at h; cases h.2)])
      clear hg
      go_at_call 41
      refine (vend_is _ _ _ _ HT.out.un).mono ?_
      rintro e w8 ⟨rfl, hb8⟩
      have HT8 := Lib.hid (HT.out.keep hb8)
      clear hb8
      obtain ⟨oz, cz, rfl, hcz1, hcz2, hcz3⟩ := HT8.out.row.form
      have HFORM : Hid (oz = none → D.r.m.length = 0 ∧ cz = 0) := Lib.hid hcz3
      clear hcz1 hcz2 hcz3
      have hx := HT8.out.bx
      obtain ⟨f0, f1, f2, f3, f4, f5, f6, f7, f8, f9, f10, f11⟩ := hx.cells
      have HMV : Hid (MvAt w8 oz D.r.m) := Lib.hid (RowK.pts encM_len (by decide) HT8.out.row)
      have HRES : Hid (w8.heap[w.heap.size]? = some (.cells #[.int .i64 0, .int .i64 0, .int .i64 0, .string ⟨#[]⟩, .string ⟨#[]⟩, .int .i64 0, .int .i64 0, .int .i64 0, .string ⟨#[]⟩, .int .i64 0, .int .i64 0, .slice none 0 0] 24 (0, 0))) := Lib.hid ((HT8.out.low.block w.heap.size (by simp)).trans HR.out)
      have HLOW : Hid (Below w.heap.size w w8) := Lib.hid (H0.out.trans (HT8.out.low.mono (by omega)))
      clear hx
      go_wp2_with (first
        | (refine wpList_store_row rfl 24 (Operand.tmp 2) _ rfl w.heap.size _ rfl rfl 24 _ ((HB9.out.block w.heap.size (lt_of_block HRES.out)).trans HRES.out) opSize rfl (by simp [Value.oneCell']) ?_)
        | (go_at_call 14; refine (rgood_any D.r HFIT.out oz _ cz rfl _ HMV.out).mono ?_; rintro e w9 ⟨hge, hb9⟩; rw [HG.out] at hge; subst hge; have HB9 := Lib.hid hb9; clear hb9 f0 f1 f2 f3 f4 f5 f6 f7 f8 f9 f10 f11))
      refine ret_row (p := 2) (u := 3) rfl rfl rfl (setRow_heap _ _ _ _ _ _ ((HB9.out.block w.heap.size (lt_of_block HRES.out)).trans HRES.out)) Tryd.underlying24 rfl opSize ?_
      have hbb := below_setRow (bstep HLOW.out HB9.out) (Nat.le_refl w.heap.size) #[.int .i64 0, .int .i64 0, .int .i64 0, .string ⟨#[]⟩, .string ⟨#[]⟩, .int .i64 0, .int .i64 0, .int .i64 0, .string ⟨#[]⟩, .int .i64 0, .int .i64 0, .slice none 0 0]
      exact ⟨zr, 11, none, 0, 0, rfl, rfl, fun _ => ⟨rfl, rfl⟩, MvAt.nil _ _, hbb, .inr ⟨HDR.out, rfl, rfl⟩⟩
  · have hE : (endA D.l D.sp != 0) = true := bne_iff_ne.2 he
    have HDR : Hid (decR D = none) := Lib.hid (by unfold decR; rw [if_neg (fun h => he h.1)])
    clear he
    go_at_call 41
    refine (vend_is _ _ _ _ HT.out.un).mono ?_
    rintro e w8 ⟨rfl, hb8⟩
    have HT8 := Lib.hid (HT.out.keep hb8)
    clear hb8
    obtain ⟨oz, cz, rfl, hcz1, hcz2, hcz3⟩ := HT8.out.row.form
    have HFORM : Hid (oz = none → D.r.m.length = 0 ∧ cz = 0) := Lib.hid hcz3
    clear hcz1 hcz2 hcz3
    have hx := HT8.out.bx
    obtain ⟨f0, f1, f2, f3, f4, f5, f6, f7, f8, f9, f10, f11⟩ := hx.cells
    have HMV : Hid (MvAt w8 oz D.r.m) := Lib.hid (RowK.pts encM_len (by decide) HT8.out.row)
    have HRES : Hid (w8.heap[w.heap.size]? = some (.cells #[.int .i64 0, .int .i64 0, .int .i64 0, .string ⟨#[]⟩, .string ⟨#[]⟩, .int .i64 0, .int .i64 0, .int .i64 0, .string ⟨#[]⟩, .int .i64 0, .int .i64 0, .slice none 0 0] 24 (0, 0))) := Lib.hid ((HT8.out.low.block w.heap.size (by simp)).trans HR.out)
    have HLOW : Hid (Below w.heap.size w w8) := Lib.hid (H0.out.trans (HT8.out.low.mono (by omega)))
    clear hx
    go_wp2_with (first
      | (refine wpList_store_row rfl 24 (Operand.tmp 2) _ rfl w.heap.size _ rfl rfl 24 _ HRES.out opSize rfl (by simp [Value.oneCell']) ?_))
    refine ret_row (p := 2) (u := 3) rfl rfl rfl (setRow_heap _ _ _ _ _ _ HRES.out) Tryd.underlying24 rfl opSize ?_
    have hbb := below_setRow HLOW.out (Nat.le_refl w.heap.size) #[.int .i64 0, .int .i64 0, .int .i64 0, .string ⟨#[]⟩, .string ⟨#[]⟩, .int .i64 0, .int .i64 0, .int .i64 0, .string ⟨#[]⟩, .int .i64 0, .int .i64 0, .slice none 0 0]
    exact ⟨zr, 11, none, 0, 0, rfl, rfl, fun _ => ⟨rfl, rfl⟩, MvAt.nil _ _, hbb, .inr ⟨HDR.out, rfl, rfl⟩⟩
set_option maxHeartbeats 1600000 in
theorem rdec_1 (s : ByteArray) (hs : s.size ≤ 100000) (w : World) (e0 : (headD s.data.toList).r.k = 1) : Calls Tryd.prog 17 #[.string s] w (DecPost (decD limQ s.data.toList) w) := by
  have H0 := Lib.hid (below_alloc w (.cells #[.int .i64 0, .int .i64 0, .int .i64 0, .string ⟨#[]⟩, .string ⟨#[]⟩, .int .i64 0, .int .i64 0, .int .i64 0, .string ⟨#[]⟩, .int .i64 0, .int .i64 0, .slice none 0 0] 24))
  have HR : Hid ((w.alloc (.cells #[.int .i64 0, .int .i64 0, .int .i64 0, .string ⟨#[]⟩, .string ⟨#[]⟩, .int .i64 0, .int .i64 0, .int .i64 0, .string ⟨#[]⟩, .int .i64 0, .int .i64 0, .slice none 0 0] 24)).heap[w.heap.size]? = some (.cells #[.int .i64 0, .int .i64 0, .int .i64 0, .string ⟨#[]⟩, .string ⟨#[]⟩, .int .i64 0, .int .i64 0, .int .i64 0, .string ⟨#[]⟩, .int .i64 0, .int .i64 0, .slice none 0 0] 24 (0, 0))) := Lib.hid (heap_alloc_new w _)
  generalize hS : s.data.toList = S at e0 ⊢
  have HSS := Lib.hid hS
  obtain ⟨D0, hD0⟩ : ∃ D : Dn, D = ⟨S, false, zr⟩ := ⟨_, rfl⟩
  obtain ⟨D1, hD1⟩ : ∃ D : Dn, D = numD 1 D0 (fun v r => { r with k := v }) := ⟨_, rfl⟩
  obtain ⟨x1, hx1⟩ : ∃ x, x = numA D0.l D0.sp 1 := ⟨_, rfl⟩
  obtain ⟨D2, hD2⟩ : ∃ D : Dn, D = numD 1 D1 (fun v r => { r with cl := v }) := ⟨_, rfl⟩
  obtain ⟨x2, hx2⟩ : ∃ x, x = numA D1.l D1.sp 1 := ⟨_, rfl⟩
  obtain ⟨D3, hD3⟩ : ∃ D : Dn, D = numD 4 D2 (fun v r => { r with sq := v }) := ⟨_, rfl⟩
  obtain ⟨x3, hx3⟩ : ∃ x, x = numA D2.l D2.sp 4 := ⟨_, rfl⟩
  obtain ⟨D4, hD4⟩ : ∃ D : Dn, D = textD 65535 D3 (fun v r => { r with p := v }) := ⟨_, rfl⟩
  have h3 : D3 = headD S := by rw [hD3, hD2, hD1, hD0]; rfl
  have HKC : Hid (D2.r.k = x1) := Lib.hid (by rw [hD2, hD1, hx1]; rfl)
  have ek : (headD S).r.k = x1 := by rw [← h3, hD3]; exact HKC.out
  rw [ek] at e0
  have HDE : Hid (D4 = decD limQ S) := Lib.hid (by
    unfold decD
    rw [ek, e0, show (fieldsOf 1).data.toList = [112] from by decide, ← h3]
    show _ = (getD limQ 112 D3)
    rw [getD_112, hD4]
    all_goals rfl)
  have HE0 := Lib.hid hD0
  have HE1 := Lib.hid hD1
  have HE2 := Lib.hid hD2
  have HE3 := Lib.hid hD3
  have HE4 := Lib.hid hD4
  have HX1 := Lib.hid hx1
  have HX2 := Lib.hid hx2
  have HX3 := Lib.hid hx3
  have q1 : (x1 == 1) = true := by rw [e0]; rfl
  have q2 : (x1 == 2) = false := by rw [e0]; rfl
  have q3 : (x1 == 3) = false := by rw [e0]; rfl
  have q4 : (x1 == 4) = false := by rw [e0]; rfl
  have q5 : (x1 == 5) = false := by rw [e0]; rfl
  have q6 : (x1 == 6) = false := by rw [e0]; rfl
  have q7 : (x1 == 7) = false := by rw [e0]; rfl
  have q8 : (x1 == 8) = false := by rw [e0]; rfl
  have q9 : (x1 == 9) = false := by rw [e0]; rfl
  have q10 : (x1 == 10) = false := by rw [e0]; rfl
  have q11 : (x1 == 11) = false := by rw [e0]; rfl
  have q12 : (x1 == 12) = false := by rw [e0]; rfl
  have q13 : (x1 == 13) = false := by rw [e0]; rfl
  have q14 : (x1 == 14) = false := by rw [e0]; rfl
  clear e0 hS h3 ek hD0 hD1 hD2 hD3 hD4 hx1 hx2 hx3
  go_enter Tryd.func17, Tryd.ntmps17
  go_wp2_with fail
  go_at_call 38
  refine (ropen_any s _).mono ?_
  rintro e w1 ⟨rfl, hp, hb, hz⟩
  clear hz
  rw [alloc_size] at hp hb
  have HD0 : Hid (RDecAt (w.heap.size + 1) (w.heap.size + 1) w1.heap.size D0 (.slice none 0 0) (w.alloc (.cells #[.int .i64 0, .int .i64 0, .int .i64 0, .string ⟨#[]⟩, .string ⟨#[]⟩, .int .i64 0, .int .i64 0, .int .i64 0, .string ⟨#[]⟩, .int .i64 0, .int .i64 0, .slice none 0 0] 24)) (w1.alloc (.cells #[.int .i64 0, .int .i64 0, .int .i64 0, .string ⟨#[]⟩, .string ⟨#[]⟩, .int .i64 0, .int .i64 0, .int .i64 0, .string ⟨#[]⟩, .int .i64 0, .int .i64 0, .slice none 0 0] 24))) := Lib.hid (by
    rw [HE0.out]
    exact RDecAt.start hb (by have hh := hb.size; rw [alloc_size] at hh; exact hh) (Nat.le_refl _) ⟨s, 0, hp, by omega, by omega, fun _ => by rw [HSS.out]; rfl⟩)
  clear hp hb
  go_wp2_with fail
  generalize w1.alloc (.cells #[.int .i64 0, .int .i64 0, .int .i64 0, .string ⟨#[]⟩, .string ⟨#[]⟩, .int .i64 0, .int .i64 0, .int .i64 0, .string ⟨#[]⟩, .int .i64 0, .int .i64 0, .slice none 0 0] 24) = v0 at HD0 ⊢
  generalize w1.heap.size = ob at HD0 ⊢
  go_at_call 39
  refine (num_as HX1.out (vnum_any _ _ _ 1 _ HD0.out.un)).mono ?_
  rintro e u1 ⟨rfl, hu, ho, hz⟩
  clear hz
  have HD1 := Lib.hid (HD0.out.numS hu ho HX1.out 2 (fun v r => { r with k := v }) HE1.out (fun _ => rfl) (fun _ => rfl))
  have hx := (HD0.out.num hu ho).bx
  have fj := hx.free 2
  obtain ⟨d0, d1, d2, d3, d4, d5, d6, d7, d8, d9, d10, d11⟩ := hx.cells
  clear hu ho hx d0 d1 d3 d4 d5 d6 d7 d8 d9 d10 d11
  go_wp2_with fail
  generalize u1.setCell ⟨ob, 2, none⟩ (.int .i64 x1) = v1 at HD1 ⊢
  clear fj d2 HD0
  go_at_call 39
  refine (num_as HX2.out (vnum_any _ _ _ 1 _ HD1.out.un)).mono ?_
  rintro e u2 ⟨rfl, hu, ho, hz⟩
  clear hz
  have HD2 := Lib.hid (HD1.out.numS hu ho HX2.out 0 (fun v r => { r with cl := v }) HE2.out (fun _ => rfl) (fun _ => rfl))
  have hx := (HD1.out.num hu ho).bx
  have fj := hx.free 0
  obtain ⟨d0, d1, d2, d3, d4, d5, d6, d7, d8, d9, d10, d11⟩ := hx.cells
  clear hu ho hx d1 d2 d3 d4 d5 d6 d7 d8 d9 d10 d11
  go_wp2_with fail
  generalize u2.setCell ⟨ob, 0, none⟩ (.int .i64 x2) = v2 at HD2 ⊢
  clear fj d0 HD1
  go_at_call 39
  refine (num_as HX3.out (vnum_any _ _ _ 4 _ HD2.out.un)).mono ?_
  rintro e u3 ⟨rfl, hu, ho, hz⟩
  clear hz
  have HD3 := Lib.hid (HD2.out.numS hu ho HX3.out 1 (fun v r => { r with sq := v }) HE3.out (fun _ => rfl) (fun _ => rfl))
  have hx := (HD2.out.num hu ho).bx
  have fj := hx.free 1
  obtain ⟨d0, d1, d2, d3, d4, d5, d6, d7, d8, d9, d10, d11⟩ := hx.cells
  rw [HKC.out] at d2
  clear hu ho hx d0 d3 d4 d5 d6 d7 d8 d9 d10 d11
  go_wp2_with fail
  generalize u3.setCell ⟨ob, 1, none⟩ (.int .i64 x3) = v3 at HD3 ⊢
  clear fj d1 d2 HD2
  go_at_call 40
  refine (vtext_is _ _ _ 65535 _ HD3.out.un).mono ?_
  rintro e u4 ⟨rfl, hu, ho⟩
  have HD4 := Lib.hid (HD3.out.textS hu ho 3 (fun v r => { r with p := v }) HE4.out (fun _ => rfl) (fun _ => rfl))
  have hx := (HD3.out.num hu ho).bx
  have fj := hx.free 3
  obtain ⟨d0, d1, d2, d3, d4, d5, d6, d7, d8, d9, d10, d11⟩ := hx.cells
  clear hu ho hx d0 d1 d2 d4 d5 d6 d7 d8 d9 d10 d11
  go_wp2_with fail
  generalize u4.setCell ⟨ob, 3, none⟩ (.string (textA D3.l D3.sp 65535)) = v4 at HD4 ⊢
  clear fj d3 HD3
  obtain ⟨vz, HD⟩ : ∃ vz, Hid (RDecAt (w.heap.size + 1) (w.heap.size + 1) ob D4 vz (w.alloc (.cells #[.int .i64 0, .int .i64 0, .int .i64 0, .string ⟨#[]⟩, .string ⟨#[]⟩, .int .i64 0, .int .i64 0, .int .i64 0, .string ⟨#[]⟩, .int .i64 0, .int .i64 0, .slice none 0 0] 24)) v4) := ⟨_, HD4⟩
  clear HD4 HE0 HE1 HE2 HE3 HE4 HX1 HX2 HX3 HKC HSS q1 q2 q3 q4 q5 q6 q7 q8 q9 q10 q11 q12 q13 q14
  have HT := HD
  rw [HDE.out] at HT
  have HFIT := Lib.hid (dec_fit limQ limQ_b S)
  generalize decD limQ S = D at *
  by_cases he : endA D.l D.sp = 0
  · have hE : (endA D.l D.sp != 0) = false := by rw [he]; rfl
    have HE := Lib.hid he
    clear he
    cases hg : goodB D.r with
    | true =>
      have HG := Lib.hid hg
      have HDR : Hid (decR D = some D.r) := Lib.hid (by unfold decR; rw [if_pos ⟨HE.out, hg⟩])
      clear hg
      go_at_call 41
      refine (vend_is _ _ _ _ HT.out.un).mono ?_
      rintro e w8 ⟨rfl, hb8⟩
      have HT8 := Lib.hid (HT.out.keep hb8)
      clear hb8
      obtain ⟨oz, cz, rfl, hcz1, hcz2, hcz3⟩ := HT8.out.row.form
      have HFORM : Hid (oz = none → D.r.m.length = 0 ∧ cz = 0) := Lib.hid hcz3
      clear hcz1 hcz2 hcz3
      have hx := HT8.out.bx
      obtain ⟨f0, f1, f2, f3, f4, f5, f6, f7, f8, f9, f10, f11⟩ := hx.cells
      have HMV : Hid (MvAt w8 oz D.r.m) := Lib.hid (RowK.pts encM_len (by decide) HT8.out.row)
      have HRES : Hid (w8.heap[w.heap.size]? = some (.cells #[.int .i64 0, .int .i64 0, .int .i64 0, .string ⟨#[]⟩, .string ⟨#[]⟩, .int .i64 0, .int .i64 0, .int .i64 0, .string ⟨#[]⟩, .int .i64 0, .int .i64 0, .slice none 0 0] 24 (0, 0))) := Lib.hid ((HT8.out.low.block w.heap.size (by simp)).trans HR.out)
      have HLOW : Hid (Below w.heap.size w w8) := Lib.hid (H0.out.trans (HT8.out.low.mono (by omega)))
      clear hx
      go_wp2_with (first
        | (refine wpList_store_row rfl 24 (Operand.tmp 2) _ rfl w.heap.size _ rfl rfl 24 _ ((HB9.out.block w.heap.size (lt_of_block HRES.out)).trans HRES.out) opSize rfl (by simp [Value.oneCell']) ?_)
        | (go_at_call 14; refine (rgood_any D.r HFIT.out oz _ cz rfl _ HMV.out).mono ?_; rintro e w9 ⟨hge, hb9⟩; rw [HG.out] at hge; subst hge; have HB9 := Lib.hid hb9; have hx9 := HT8.out.bx.keep hb9; obtain ⟨g0, g1, g2, g3, g4, g5, g6, g7, g8, g9, g10, g11⟩ := hx9.cells; clear hb9 hx9 f0 f1 f2 f3 f4 f5 f6 f7 f8 f9 f10 f11))
      refine ret_row (p := 2) (u := 3) rfl rfl rfl (setRow_heap _ _ _ _ _ _ ((HB9.out.block w.heap.size (lt_of_block HRES.out)).trans HRES.out)) Tryd.underlying24 rfl opSize ?_
      have hbb := below_setRow (bstep HLOW.out HB9.out) (Nat.le_refl w.heap.size) #[.int .i64 D.r.cl, .int .i64 D.r.sq, .int .i64 D.r.k, .string D.r.p, .string D.r.t, .int .i64 D.r.sz, .int .i64 D.r.h, .int .i64 D.r.o, .string D.r.d, .int .i64 D.r.tk, .int .i64 D.r.i, .slice oz D.r.m.length cz]
      exact ⟨D.r, 0, oz, _, cz, rfl, rfl, HFORM.out, (HMV.out.grow HB9.out).only (setRow_only _ _ _) (fun a ha => by have hh := (own_base HT8.out.row).1 a ha; omega), hbb, .inl ⟨HDR.out, rfl⟩⟩
    | false =>
      have HG := Lib.hid hg
      have HDR : Hid (decR D = none) := Lib.hid (by unfold decR; rw [if_neg (fun h => by rw [hg] at h; cases h.2)])
      clear hg
      go_at_call 41
      refine (vend_is _ _ _ _ HT.out.un).mono ?_
      rintro e w8 ⟨rfl, hb8⟩
      have HT8 := Lib.hid (HT.out.keep hb8)
      clear hb8
      obtain ⟨oz, cz, rfl, hcz1, hcz2, hcz3⟩ := HT8.out.row.form
      have HFORM : Hid (oz = none → D.r.m.length = 0 ∧ cz = 0) := Lib.hid hcz3
      clear hcz1 hcz2 hcz3
      have hx := HT8.out.bx
      obtain ⟨f0, f1, f2, f3, f4, f5, f6, f7, f8, f9, f10, f11⟩ := hx.cells
      have HMV : Hid (MvAt w8 oz D.r.m) := Lib.hid (RowK.pts encM_len (by decide) HT8.out.row)
      have HRES : Hid (w8.heap[w.heap.size]? = some (.cells #[.int .i64 0, .int .i64 0, .int .i64 0, .string ⟨#[]⟩, .string ⟨#[]⟩, .int .i64 0, .int .i64 0, .int .i64 0, .string ⟨#[]⟩, .int .i64 0, .int .i64 0, .slice none 0 0] 24 (0, 0))) := Lib.hid ((HT8.out.low.block w.heap.size (by simp)).trans HR.out)
      have HLOW : Hid (Below w.heap.size w w8) := Lib.hid (H0.out.trans (HT8.out.low.mono (by omega)))
      clear hx
      go_wp2_with (first
        | (refine wpList_store_row rfl 24 (Operand.tmp 2) _ rfl w.heap.size _ rfl rfl 24 _ ((HB9.out.block w.heap.size (lt_of_block HRES.out)).trans HRES.out) opSize rfl (by simp [Value.oneCell']) ?_)
        | (go_at_call 14; refine (rgood_any D.r HFIT.out oz _ cz rfl _ HMV.out).mono ?_; rintro e w9 ⟨hge, hb9⟩; rw [HG.out] at hge; subst hge; have HB9 := Lib.hid hb9; clear hb9 f0 f1 f2 f3 f4 f5 f6 f7 f8 f9 f10 f11))
      refine ret_row (p := 2) (u := 3) rfl rfl rfl (setRow_heap _ _ _ _ _ _ ((HB9.out.block w.heap.size (lt_of_block HRES.out)).trans HRES.out)) Tryd.underlying24 rfl opSize ?_
      have hbb := below_setRow (bstep HLOW.out HB9.out) (Nat.le_refl w.heap.size) #[.int .i64 0, .int .i64 0, .int .i64 0, .string ⟨#[]⟩, .string ⟨#[]⟩, .int .i64 0, .int .i64 0, .int .i64 0, .string ⟨#[]⟩, .int .i64 0, .int .i64 0, .slice none 0 0]
      exact ⟨zr, 11, none, 0, 0, rfl, rfl, fun _ => ⟨rfl, rfl⟩, MvAt.nil _ _, hbb, .inr ⟨HDR.out, rfl, rfl⟩⟩
  · have hE : (endA D.l D.sp != 0) = true := bne_iff_ne.2 he
    have HDR : Hid (decR D = none) := Lib.hid (by unfold decR; rw [if_neg (fun h => he h.1)])
    clear he
    go_at_call 41
    refine (vend_is _ _ _ _ HT.out.un).mono ?_
    rintro e w8 ⟨rfl, hb8⟩
    have HT8 := Lib.hid (HT.out.keep hb8)
    clear hb8
    obtain ⟨oz, cz, rfl, hcz1, hcz2, hcz3⟩ := HT8.out.row.form
    have HFORM : Hid (oz = none → D.r.m.length = 0 ∧ cz = 0) := Lib.hid hcz3
    clear hcz1 hcz2 hcz3
    have hx := HT8.out.bx
    obtain ⟨f0, f1, f2, f3, f4, f5, f6, f7, f8, f9, f10, f11⟩ := hx.cells
    have HMV : Hid (MvAt w8 oz D.r.m) := Lib.hid (RowK.pts encM_len (by decide) HT8.out.row)
    have HRES : Hid (w8.heap[w.heap.size]? = some (.cells #[.int .i64 0, .int .i64 0, .int .i64 0, .string ⟨#[]⟩, .string ⟨#[]⟩, .int .i64 0, .int .i64 0, .int .i64 0, .string ⟨#[]⟩, .int .i64 0, .int .i64 0, .slice none 0 0] 24 (0, 0))) := Lib.hid ((HT8.out.low.block w.heap.size (by simp)).trans HR.out)
    have HLOW : Hid (Below w.heap.size w w8) := Lib.hid (H0.out.trans (HT8.out.low.mono (by omega)))
    clear hx
    go_wp2_with (first
      | (refine wpList_store_row rfl 24 (Operand.tmp 2) _ rfl w.heap.size _ rfl rfl 24 _ HRES.out opSize rfl (by simp [Value.oneCell']) ?_))
    refine ret_row (p := 2) (u := 3) rfl rfl rfl (setRow_heap _ _ _ _ _ _ HRES.out) Tryd.underlying24 rfl opSize ?_
    have hbb := below_setRow HLOW.out (Nat.le_refl w.heap.size) #[.int .i64 0, .int .i64 0, .int .i64 0, .string ⟨#[]⟩, .string ⟨#[]⟩, .int .i64 0, .int .i64 0, .int .i64 0, .string ⟨#[]⟩, .int .i64 0, .int .i64 0, .slice none 0 0]
    exact ⟨zr, 11, none, 0, 0, rfl, rfl, fun _ => ⟨rfl, rfl⟩, MvAt.nil _ _, hbb, .inr ⟨HDR.out, rfl, rfl⟩⟩
set_option maxHeartbeats 1600000 in
theorem rdec_2 (s : ByteArray) (hs : s.size ≤ 100000) (w : World) (e0 : (headD s.data.toList).r.k = 2) : Calls Tryd.prog 17 #[.string s] w (DecPost (decD limQ s.data.toList) w) := by
  have H0 := Lib.hid (below_alloc w (.cells #[.int .i64 0, .int .i64 0, .int .i64 0, .string ⟨#[]⟩, .string ⟨#[]⟩, .int .i64 0, .int .i64 0, .int .i64 0, .string ⟨#[]⟩, .int .i64 0, .int .i64 0, .slice none 0 0] 24))
  have HR : Hid ((w.alloc (.cells #[.int .i64 0, .int .i64 0, .int .i64 0, .string ⟨#[]⟩, .string ⟨#[]⟩, .int .i64 0, .int .i64 0, .int .i64 0, .string ⟨#[]⟩, .int .i64 0, .int .i64 0, .slice none 0 0] 24)).heap[w.heap.size]? = some (.cells #[.int .i64 0, .int .i64 0, .int .i64 0, .string ⟨#[]⟩, .string ⟨#[]⟩, .int .i64 0, .int .i64 0, .int .i64 0, .string ⟨#[]⟩, .int .i64 0, .int .i64 0, .slice none 0 0] 24 (0, 0))) := Lib.hid (heap_alloc_new w _)
  generalize hS : s.data.toList = S at e0 ⊢
  have HSS := Lib.hid hS
  obtain ⟨D0, hD0⟩ : ∃ D : Dn, D = ⟨S, false, zr⟩ := ⟨_, rfl⟩
  obtain ⟨D1, hD1⟩ : ∃ D : Dn, D = numD 1 D0 (fun v r => { r with k := v }) := ⟨_, rfl⟩
  obtain ⟨x1, hx1⟩ : ∃ x, x = numA D0.l D0.sp 1 := ⟨_, rfl⟩
  obtain ⟨D2, hD2⟩ : ∃ D : Dn, D = numD 1 D1 (fun v r => { r with cl := v }) := ⟨_, rfl⟩
  obtain ⟨x2, hx2⟩ : ∃ x, x = numA D1.l D1.sp 1 := ⟨_, rfl⟩
  obtain ⟨D3, hD3⟩ : ∃ D : Dn, D = numD 4 D2 (fun v r => { r with sq := v }) := ⟨_, rfl⟩
  obtain ⟨x3, hx3⟩ : ∃ x, x = numA D2.l D2.sp 4 := ⟨_, rfl⟩
  obtain ⟨D4, hD4⟩ : ∃ D : Dn, D = textD 65535 D3 (fun v r => { r with p := v }) := ⟨_, rfl⟩
  have h3 : D3 = headD S := by rw [hD3, hD2, hD1, hD0]; rfl
  have HKC : Hid (D2.r.k = x1) := Lib.hid (by rw [hD2, hD1, hx1]; rfl)
  have ek : (headD S).r.k = x1 := by rw [← h3, hD3]; exact HKC.out
  rw [ek] at e0
  have HDE : Hid (D4 = decD limQ S) := Lib.hid (by
    unfold decD
    rw [ek, e0, show (fieldsOf 2).data.toList = [112] from by decide, ← h3]
    show _ = (getD limQ 112 D3)
    rw [getD_112, hD4]
    all_goals rfl)
  have HE0 := Lib.hid hD0
  have HE1 := Lib.hid hD1
  have HE2 := Lib.hid hD2
  have HE3 := Lib.hid hD3
  have HE4 := Lib.hid hD4
  have HX1 := Lib.hid hx1
  have HX2 := Lib.hid hx2
  have HX3 := Lib.hid hx3
  have q1 : (x1 == 1) = false := by rw [e0]; rfl
  have q2 : (x1 == 2) = true := by rw [e0]; rfl
  have q3 : (x1 == 3) = false := by rw [e0]; rfl
  have q4 : (x1 == 4) = false := by rw [e0]; rfl
  have q5 : (x1 == 5) = false := by rw [e0]; rfl
  have q6 : (x1 == 6) = false := by rw [e0]; rfl
  have q7 : (x1 == 7) = false := by rw [e0]; rfl
  have q8 : (x1 == 8) = false := by rw [e0]; rfl
  have q9 : (x1 == 9) = false := by rw [e0]; rfl
  have q10 : (x1 == 10) = false := by rw [e0]; rfl
  have q11 : (x1 == 11) = false := by rw [e0]; rfl
  have q12 : (x1 == 12) = false := by rw [e0]; rfl
  have q13 : (x1 == 13) = false := by rw [e0]; rfl
  have q14 : (x1 == 14) = false := by rw [e0]; rfl
  clear e0 hS h3 ek hD0 hD1 hD2 hD3 hD4 hx1 hx2 hx3
  go_enter Tryd.func17, Tryd.ntmps17
  go_wp2_with fail
  go_at_call 38
  refine (ropen_any s _).mono ?_
  rintro e w1 ⟨rfl, hp, hb, hz⟩
  clear hz
  rw [alloc_size] at hp hb
  have HD0 : Hid (RDecAt (w.heap.size + 1) (w.heap.size + 1) w1.heap.size D0 (.slice none 0 0) (w.alloc (.cells #[.int .i64 0, .int .i64 0, .int .i64 0, .string ⟨#[]⟩, .string ⟨#[]⟩, .int .i64 0, .int .i64 0, .int .i64 0, .string ⟨#[]⟩, .int .i64 0, .int .i64 0, .slice none 0 0] 24)) (w1.alloc (.cells #[.int .i64 0, .int .i64 0, .int .i64 0, .string ⟨#[]⟩, .string ⟨#[]⟩, .int .i64 0, .int .i64 0, .int .i64 0, .string ⟨#[]⟩, .int .i64 0, .int .i64 0, .slice none 0 0] 24))) := Lib.hid (by
    rw [HE0.out]
    exact RDecAt.start hb (by have hh := hb.size; rw [alloc_size] at hh; exact hh) (Nat.le_refl _) ⟨s, 0, hp, by omega, by omega, fun _ => by rw [HSS.out]; rfl⟩)
  clear hp hb
  go_wp2_with fail
  generalize w1.alloc (.cells #[.int .i64 0, .int .i64 0, .int .i64 0, .string ⟨#[]⟩, .string ⟨#[]⟩, .int .i64 0, .int .i64 0, .int .i64 0, .string ⟨#[]⟩, .int .i64 0, .int .i64 0, .slice none 0 0] 24) = v0 at HD0 ⊢
  generalize w1.heap.size = ob at HD0 ⊢
  go_at_call 39
  refine (num_as HX1.out (vnum_any _ _ _ 1 _ HD0.out.un)).mono ?_
  rintro e u1 ⟨rfl, hu, ho, hz⟩
  clear hz
  have HD1 := Lib.hid (HD0.out.numS hu ho HX1.out 2 (fun v r => { r with k := v }) HE1.out (fun _ => rfl) (fun _ => rfl))
  have hx := (HD0.out.num hu ho).bx
  have fj := hx.free 2
  obtain ⟨d0, d1, d2, d3, d4, d5, d6, d7, d8, d9, d10, d11⟩ := hx.cells
  clear hu ho hx d0 d1 d3 d4 d5 d6 d7 d8 d9 d10 d11
  go_wp2_with fail
  generalize u1.setCell ⟨ob, 2, none⟩ (.int .i64 x1) = v1 at HD1 ⊢
  clear fj d2 HD0
  go_at_call 39
  refine (num_as HX2.out (vnum_any _ _ _ 1 _ HD1.out.un)).mono ?_
  rintro e u2 ⟨rfl, hu, ho, hz⟩
  clear hz
  have HD2 := Lib.hid (HD1.out.numS hu ho HX2.out 0 (fun v r => { r with cl := v }) HE2.out (fun _ => rfl) (fun _ => rfl))
  have hx := (HD1.out.num hu ho).bx
  have fj := hx.free 0
  obtain ⟨d0, d1, d2, d3, d4, d5, d6, d7, d8, d9, d10, d11⟩ := hx.cells
  clear hu ho hx d1 d2 d3 d4 d5 d6 d7 d8 d9 d10 d11
  go_wp2_with fail
  generalize u2.setCell ⟨ob, 0, none⟩ (.int .i64 x2) = v2 at HD2 ⊢
  clear fj d0 HD1
  go_at_call 39
  refine (num_as HX3.out (vnum_any _ _ _ 4 _ HD2.out.un)).mono ?_
  rintro e u3 ⟨rfl, hu, ho, hz⟩
  clear hz
  have HD3 := Lib.hid (HD2.out.numS hu ho HX3.out 1 (fun v r => { r with sq := v }) HE3.out (fun _ => rfl) (fun _ => rfl))
  have hx := (HD2.out.num hu ho).bx
  have fj := hx.free 1
  obtain ⟨d0, d1, d2, d3, d4, d5, d6, d7, d8, d9, d10, d11⟩ := hx.cells
  rw [HKC.out] at d2
  clear hu ho hx d0 d3 d4 d5 d6 d7 d8 d9 d10 d11
  go_wp2_with fail
  generalize u3.setCell ⟨ob, 1, none⟩ (.int .i64 x3) = v3 at HD3 ⊢
  clear fj d1 d2 HD2
  go_at_call 40
  refine (vtext_is _ _ _ 65535 _ HD3.out.un).mono ?_
  rintro e u4 ⟨rfl, hu, ho⟩
  have HD4 := Lib.hid (HD3.out.textS hu ho 3 (fun v r => { r with p := v }) HE4.out (fun _ => rfl) (fun _ => rfl))
  have hx := (HD3.out.num hu ho).bx
  have fj := hx.free 3
  obtain ⟨d0, d1, d2, d3, d4, d5, d6, d7, d8, d9, d10, d11⟩ := hx.cells
  clear hu ho hx d0 d1 d2 d4 d5 d6 d7 d8 d9 d10 d11
  go_wp2_with fail
  generalize u4.setCell ⟨ob, 3, none⟩ (.string (textA D3.l D3.sp 65535)) = v4 at HD4 ⊢
  clear fj d3 HD3
  obtain ⟨vz, HD⟩ : ∃ vz, Hid (RDecAt (w.heap.size + 1) (w.heap.size + 1) ob D4 vz (w.alloc (.cells #[.int .i64 0, .int .i64 0, .int .i64 0, .string ⟨#[]⟩, .string ⟨#[]⟩, .int .i64 0, .int .i64 0, .int .i64 0, .string ⟨#[]⟩, .int .i64 0, .int .i64 0, .slice none 0 0] 24)) v4) := ⟨_, HD4⟩
  clear HD4 HE0 HE1 HE2 HE3 HE4 HX1 HX2 HX3 HKC HSS q1 q2 q3 q4 q5 q6 q7 q8 q9 q10 q11 q12 q13 q14
  have HT := HD
  rw [HDE.out] at HT
  have HFIT := Lib.hid (dec_fit limQ limQ_b S)
  generalize decD limQ S = D at *
  by_cases he : endA D.l D.sp = 0
  · have hE : (endA D.l D.sp != 0) = false := by rw [he]; rfl
    have HE := Lib.hid he
    clear he
    cases hg : goodB D.r with
    | true =>
      have HG := Lib.hid hg
      have HDR : Hid (decR D = some D.r) := Lib.hid (by unfold decR; rw [if_pos ⟨HE.out, hg⟩])
      clear hg
      go_at_call 41
      refine (vend_is _ _ _ _ HT.out.un).mono ?_
      rintro e w8 ⟨rfl, hb8⟩
      have HT8 := Lib.hid (HT.out.keep hb8)
      clear hb8
      obtain ⟨oz, cz, rfl, hcz1, hcz2, hcz3⟩ := HT8.out.row.form
      have HFORM : Hid (oz = none → D.r.m.length = 0 ∧ cz = 0) := Lib.hid hcz3
      clear hcz1 hcz2 hcz3
      have hx := HT8.out.bx
      obtain ⟨f0, f1, f2, f3, f4, f5, f6, f7, f8, f9, f10, f11⟩ := hx.cells
      have HMV : Hid (MvAt w8 oz D.r.m) := Lib.hid (RowK.pts encM_len (by decide) HT8.out.row)
      have HRES : Hid (w8.heap[w.heap.size]? = some (.cells #[.int .i64 0, .int .i64 0, .int .i64 0, .string ⟨#[]⟩, .string ⟨#[]⟩, .int .i64 0, .int .i64 0, .int .i64 0, .string ⟨#[]⟩, .int .i64 0, .int .i64 0, .slice none 0 0] 24 (0, 0))) := Lib.hid ((HT8.out.low.block w.heap.size (by simp)).trans HR.out)
      have HLOW : Hid (Below w.heap.size w w8) := Lib.hid (H0.out.trans (HT8.out.low.mono (by omega)))
      clear hx
      go_wp2_with (first
        | (refine wpList_store_row rfl 24 (Operand.tmp 2) _ rfl w.heap.size _ rfl rfl 24 _ ((HB9.out.block w.heap.size (lt_of_block HRES.out)).trans HRES.out) opSize rfl (by simp [Value.oneCell']) ?_)
        | (go_at_call 14; refine (rgood_any D.r HFIT.out oz _ cz rfl _ HMV.out).mono ?_; rintro e w9 ⟨hge, hb9⟩; rw [HG.out] at hge; subst hge; have HB9 := Lib.hid hb9; have hx9 := HT8.out.bx.keep hb9; obtain ⟨g0, g1, g2, g3, g4, g5, g6, g7, g8, g9, g10, g11⟩ := hx9.cells; clear hb9 hx9 f0 f1 f2 f3 f4 f5 f6 f7 f8 f9 f10 f11))
      refine ret_row (p := 2) (u := 3) rfl rfl rfl (setRow_heap _ _ _ _ _ _ ((HB9.out.block w.heap.size (lt_of_block HRES.out)).trans HRES.out)) Tryd.underlying24 rfl opSize ?_
      have hbb := below_setRow (bstep HLOW.out HB9.out) (Nat.le_refl w.heap.size) #[.int .i64 D.r.cl, .int .i64 D.r.sq, .int .i64 D.r.k, .string D.r.p, .string D.r.t, .int .i64 D.r.sz, .int .i64 D.r.h, .int .i64 D.r.o, .string D.r.d, .int .i64 D.r.tk, .int .i64 D.r.i, .slice oz D.r.m.length cz]
      exact ⟨D.r, 0, oz, _, cz, rfl, rfl, HFORM.out, (HMV.out.grow HB9.out).only (setRow_only _ _ _) (fun a ha => by have hh := (own_base HT8.out.row).1 a ha; omega), hbb, .inl ⟨HDR.out, rfl⟩⟩
    | false =>
      have HG := Lib.hid hg
      have HDR : Hid (decR D = none) := Lib.hid (by unfold decR; rw [if_neg (fun h => by rw [hg] at h; cases h.2)])
      clear hg
      go_at_call 41
      refine (vend_is _ _ _ _ HT.out.un).mono ?_
      rintro e w8 ⟨rfl, hb8⟩
      have HT8 := Lib.hid (HT.out.keep hb8)
      clear hb8
      obtain ⟨oz, cz, rfl, hcz1, hcz2, hcz3⟩ := HT8.out.row.form
      have HFORM : Hid (oz = none → D.r.m.length = 0 ∧ cz = 0) := Lib.hid hcz3
      clear hcz1 hcz2 hcz3
      have hx := HT8.out.bx
      obtain ⟨f0, f1, f2, f3, f4, f5, f6, f7, f8, f9, f10, f11⟩ := hx.cells
      have HMV : Hid (MvAt w8 oz D.r.m) := Lib.hid (RowK.pts encM_len (by decide) HT8.out.row)
      have HRES : Hid (w8.heap[w.heap.size]? = some (.cells #[.int .i64 0, .int .i64 0, .int .i64 0, .string ⟨#[]⟩, .string ⟨#[]⟩, .int .i64 0, .int .i64 0, .int .i64 0, .string ⟨#[]⟩, .int .i64 0, .int .i64 0, .slice none 0 0] 24 (0, 0))) := Lib.hid ((HT8.out.low.block w.heap.size (by simp)).trans HR.out)
      have HLOW : Hid (Below w.heap.size w w8) := Lib.hid (H0.out.trans (HT8.out.low.mono (by omega)))
      clear hx
      go_wp2_with (first
        | (refine wpList_store_row rfl 24 (Operand.tmp 2) _ rfl w.heap.size _ rfl rfl 24 _ ((HB9.out.block w.heap.size (lt_of_block HRES.out)).trans HRES.out) opSize rfl (by simp [Value.oneCell']) ?_)
        | (go_at_call 14; refine (rgood_any D.r HFIT.out oz _ cz rfl _ HMV.out).mono ?_; rintro e w9 ⟨hge, hb9⟩; rw [HG.out] at hge; subst hge; have HB9 := Lib.hid hb9; clear hb9 f0 f1 f2 f3 f4 f5 f6 f7 f8 f9 f10 f11))
      refine ret_row (p := 2) (u := 3) rfl rfl rfl (setRow_heap _ _ _ _ _ _ ((HB9.out.block w.heap.size (lt_of_block HRES.out)).trans HRES.out)) Tryd.underlying24 rfl opSize ?_
      have hbb := below_setRow (bstep HLOW.out HB9.out) (Nat.le_refl w.heap.size) #[.int .i64 0, .int .i64 0, .int .i64 0, .string ⟨#[]⟩, .string ⟨#[]⟩, .int .i64 0, .int .i64 0, .int .i64 0, .string ⟨#[]⟩, .int .i64 0, .int .i64 0, .slice none 0 0]
      exact ⟨zr, 11, none, 0, 0, rfl, rfl, fun _ => ⟨rfl, rfl⟩, MvAt.nil _ _, hbb, .inr ⟨HDR.out, rfl, rfl⟩⟩
  · have hE : (endA D.l D.sp != 0) = true := bne_iff_ne.2 he
    have HDR : Hid (decR D = none) := Lib.hid (by unfold decR; rw [if_neg (fun h => he h.1)])
    clear he
    go_at_call 41
    refine (vend_is _ _ _ _ HT.out.un).mono ?_
    rintro e w8 ⟨rfl, hb8⟩
    have HT8 := Lib.hid (HT.out.keep hb8)
    clear hb8
    obtain ⟨oz, cz, rfl, hcz1, hcz2, hcz3⟩ := HT8.out.row.form
    have HFORM : Hid (oz = none → D.r.m.length = 0 ∧ cz = 0) := Lib.hid hcz3
    clear hcz1 hcz2 hcz3
    have hx := HT8.out.bx
    obtain ⟨f0, f1, f2, f3, f4, f5, f6, f7, f8, f9, f10, f11⟩ := hx.cells
    have HMV : Hid (MvAt w8 oz D.r.m) := Lib.hid (RowK.pts encM_len (by decide) HT8.out.row)
    have HRES : Hid (w8.heap[w.heap.size]? = some (.cells #[.int .i64 0, .int .i64 0, .int .i64 0, .string ⟨#[]⟩, .string ⟨#[]⟩, .int .i64 0, .int .i64 0, .int .i64 0, .string ⟨#[]⟩, .int .i64 0, .int .i64 0, .slice none 0 0] 24 (0, 0))) := Lib.hid ((HT8.out.low.block w.heap.size (by simp)).trans HR.out)
    have HLOW : Hid (Below w.heap.size w w8) := Lib.hid (H0.out.trans (HT8.out.low.mono (by omega)))
    clear hx
    go_wp2_with (first
      | (refine wpList_store_row rfl 24 (Operand.tmp 2) _ rfl w.heap.size _ rfl rfl 24 _ HRES.out opSize rfl (by simp [Value.oneCell']) ?_))
    refine ret_row (p := 2) (u := 3) rfl rfl rfl (setRow_heap _ _ _ _ _ _ HRES.out) Tryd.underlying24 rfl opSize ?_
    have hbb := below_setRow HLOW.out (Nat.le_refl w.heap.size) #[.int .i64 0, .int .i64 0, .int .i64 0, .string ⟨#[]⟩, .string ⟨#[]⟩, .int .i64 0, .int .i64 0, .int .i64 0, .string ⟨#[]⟩, .int .i64 0, .int .i64 0, .slice none 0 0]
    exact ⟨zr, 11, none, 0, 0, rfl, rfl, fun _ => ⟨rfl, rfl⟩, MvAt.nil _ _, hbb, .inr ⟨HDR.out, rfl, rfl⟩⟩
set_option maxHeartbeats 1600000 in
theorem rdec_3 (s : ByteArray) (hs : s.size ≤ 100000) (w : World) (e0 : (headD s.data.toList).r.k = 3) : Calls Tryd.prog 17 #[.string s] w (DecPost (decD limQ s.data.toList) w) := by
  have H0 := Lib.hid (below_alloc w (.cells #[.int .i64 0, .int .i64 0, .int .i64 0, .string ⟨#[]⟩, .string ⟨#[]⟩, .int .i64 0, .int .i64 0, .int .i64 0, .string ⟨#[]⟩, .int .i64 0, .int .i64 0, .slice none 0 0] 24))
  have HR : Hid ((w.alloc (.cells #[.int .i64 0, .int .i64 0, .int .i64 0, .string ⟨#[]⟩, .string ⟨#[]⟩, .int .i64 0, .int .i64 0, .int .i64 0, .string ⟨#[]⟩, .int .i64 0, .int .i64 0, .slice none 0 0] 24)).heap[w.heap.size]? = some (.cells #[.int .i64 0, .int .i64 0, .int .i64 0, .string ⟨#[]⟩, .string ⟨#[]⟩, .int .i64 0, .int .i64 0, .int .i64 0, .string ⟨#[]⟩, .int .i64 0, .int .i64 0, .slice none 0 0] 24 (0, 0))) := Lib.hid (heap_alloc_new w _)
  generalize hS : s.data.toList = S at e0 ⊢
  have HSS := Lib.hid hS
  obtain ⟨D0, hD0⟩ : ∃ D : Dn, D = ⟨S, false, zr⟩ := ⟨_, rfl⟩
  obtain ⟨D1, hD1⟩ : ∃ D : Dn, D = numD 1 D0 (fun v r => { r with k := v }) := ⟨_, rfl⟩
  obtain ⟨x1, hx1⟩ : ∃ x, x = numA D0.l D0.sp 1 := ⟨_, rfl⟩
  obtain ⟨D2, hD2⟩ : ∃ D : Dn, D = numD 1 D1 (fun v r => { r with cl := v }) := ⟨_, rfl⟩
  obtain ⟨x2, hx2⟩ : ∃ x, x = numA D1.l D1.sp 1 := ⟨_, rfl⟩
  obtain ⟨D3, hD3⟩ : ∃ D : Dn, D = numD 4 D2 (fun v r => { r with sq := v }) := ⟨_, rfl⟩
  obtain ⟨x3, hx3⟩ : ∃ x, x = numA D2.l D2.sp 4 := ⟨_, rfl⟩
  obtain ⟨D4, hD4⟩ : ∃ D : Dn, D = textD 65535 D3 (fun v r => { r with p := v }) := ⟨_, rfl⟩
  have h3 : D3 = headD S := by rw [hD3, hD2, hD1, hD0]; rfl
  have HKC : Hid (D2.r.k = x1) := Lib.hid (by rw [hD2, hD1, hx1]; rfl)
  have ek : (headD S).r.k = x1 := by rw [← h3, hD3]; exact HKC.out
  rw [ek] at e0
  have HDE : Hid (D4 = decD limQ S) := Lib.hid (by
    unfold decD
    rw [ek, e0, show (fieldsOf 3).data.toList = [112] from by decide, ← h3]
    show _ = (getD limQ 112 D3)
    rw [getD_112, hD4]
    all_goals rfl)
  have HE0 := Lib.hid hD0
  have HE1 := Lib.hid hD1
  have HE2 := Lib.hid hD2
  have HE3 := Lib.hid hD3
  have HE4 := Lib.hid hD4
  have HX1 := Lib.hid hx1
  have HX2 := Lib.hid hx2
  have HX3 := Lib.hid hx3
  have q1 : (x1 == 1) = false := by rw [e0]; rfl
  have q2 : (x1 == 2) = false := by rw [e0]; rfl
  have q3 : (x1 == 3) = true := by rw [e0]; rfl
  have q4 : (x1 == 4) = false := by rw [e0]; rfl
  have q5 : (x1 == 5) = false := by rw [e0]; rfl
  have q6 : (x1 == 6) = false := by rw [e0]; rfl
  have q7 : (x1 == 7) = false := by rw [e0]; rfl
  have q8 : (x1 == 8) = false := by rw [e0]; rfl
  have q9 : (x1 == 9) = false := by rw [e0]; rfl
  have q10 : (x1 == 10) = false := by rw [e0]; rfl
  have q11 : (x1 == 11) = false := by rw [e0]; rfl
  have q12 : (x1 == 12) = false := by rw [e0]; rfl
  have q13 : (x1 == 13) = false := by rw [e0]; rfl
  have q14 : (x1 == 14) = false := by rw [e0]; rfl
  clear e0 hS h3 ek hD0 hD1 hD2 hD3 hD4 hx1 hx2 hx3
  go_enter Tryd.func17, Tryd.ntmps17
  go_wp2_with fail
  go_at_call 38
  refine (ropen_any s _).mono ?_
  rintro e w1 ⟨rfl, hp, hb, hz⟩
  clear hz
  rw [alloc_size] at hp hb
  have HD0 : Hid (RDecAt (w.heap.size + 1) (w.heap.size + 1) w1.heap.size D0 (.slice none 0 0) (w.alloc (.cells #[.int .i64 0, .int .i64 0, .int .i64 0, .string ⟨#[]⟩, .string ⟨#[]⟩, .int .i64 0, .int .i64 0, .int .i64 0, .string ⟨#[]⟩, .int .i64 0, .int .i64 0, .slice none 0 0] 24)) (w1.alloc (.cells #[.int .i64 0, .int .i64 0, .int .i64 0, .string ⟨#[]⟩, .string ⟨#[]⟩, .int .i64 0, .int .i64 0, .int .i64 0, .string ⟨#[]⟩, .int .i64 0, .int .i64 0, .slice none 0 0] 24))) := Lib.hid (by
    rw [HE0.out]
    exact RDecAt.start hb (by have hh := hb.size; rw [alloc_size] at hh; exact hh) (Nat.le_refl _) ⟨s, 0, hp, by omega, by omega, fun _ => by rw [HSS.out]; rfl⟩)
  clear hp hb
  go_wp2_with fail
  generalize w1.alloc (.cells #[.int .i64 0, .int .i64 0, .int .i64 0, .string ⟨#[]⟩, .string ⟨#[]⟩, .int .i64 0, .int .i64 0, .int .i64 0, .string ⟨#[]⟩, .int .i64 0, .int .i64 0, .slice none 0 0] 24) = v0 at HD0 ⊢
  generalize w1.heap.size = ob at HD0 ⊢
  go_at_call 39
  refine (num_as HX1.out (vnum_any _ _ _ 1 _ HD0.out.un)).mono ?_
  rintro e u1 ⟨rfl, hu, ho, hz⟩
  clear hz
  have HD1 := Lib.hid (HD0.out.numS hu ho HX1.out 2 (fun v r => { r with k := v }) HE1.out (fun _ => rfl) (fun _ => rfl))
  have hx := (HD0.out.num hu ho).bx
  have fj := hx.free 2
  obtain ⟨d0, d1, d2, d3, d4, d5, d6, d7, d8, d9, d10, d11⟩ := hx.cells
  clear hu ho hx d0 d1 d3 d4 d5 d6 d7 d8 d9 d10 d11
  go_wp2_with fail
  generalize u1.setCell ⟨ob, 2, none⟩ (.int .i64 x1) = v1 at HD1 ⊢
  clear fj d2 HD0
  go_at_call 39
  refine (num_as HX2.out (vnum_any _ _ _ 1 _ HD1.out.un)).mono ?_
  rintro e u2 ⟨rfl, hu, ho, hz⟩
  clear hz
  have HD2 := Lib.hid (HD1.out.numS hu ho HX2.out 0 (fun v r => { r with cl := v }) HE2.out (fun _ => rfl) (fun _ => rfl))
  have hx := (HD1.out.num hu ho).bx
  have fj := hx.free 0
  obtain ⟨d0, d1, d2, d3, d4, d5, d6, d7, d8, d9, d10, d11⟩ := hx.cells
  clear hu ho hx d1 d2 d3 d4 d5 d6 d7 d8 d9 d10 d11
  go_wp2_with fail
  generalize u2.setCell ⟨ob, 0, none⟩ (.int .i64 x2) = v2 at HD2 ⊢
  clear fj d0 HD1
  go_at_call 39
  refine (num_as HX3.out (vnum_any _ _ _ 4 _ HD2.out.un)).mono ?_
  rintro e u3 ⟨rfl, hu, ho, hz⟩
  clear hz
  have HD3 := Lib.hid (HD2.out.numS hu ho HX3.out 1 (fun v r => { r with sq := v }) HE3.out (fun _ => rfl) (fun _ => rfl))
  have hx := (HD2.out.num hu ho).bx
  have fj := hx.free 1
  obtain ⟨d0, d1, d2, d3, d4, d5, d6, d7, d8, d9, d10, d11⟩ := hx.cells
  rw [HKC.out] at d2
  clear hu ho hx d0 d3 d4 d5 d6 d7 d8 d9 d10 d11
  go_wp2_with fail
  generalize u3.setCell ⟨ob, 1, none⟩ (.int .i64 x3) = v3 at HD3 ⊢
  clear fj d1 d2 HD2
  go_at_call 40
  refine (vtext_is _ _ _ 65535 _ HD3.out.un).mono ?_
  rintro e u4 ⟨rfl, hu, ho⟩
  have HD4 := Lib.hid (HD3.out.textS hu ho 3 (fun v r => { r with p := v }) HE4.out (fun _ => rfl) (fun _ => rfl))
  have hx := (HD3.out.num hu ho).bx
  have fj := hx.free 3
  obtain ⟨d0, d1, d2, d3, d4, d5, d6, d7, d8, d9, d10, d11⟩ := hx.cells
  clear hu ho hx d0 d1 d2 d4 d5 d6 d7 d8 d9 d10 d11
  go_wp2_with fail
  generalize u4.setCell ⟨ob, 3, none⟩ (.string (textA D3.l D3.sp 65535)) = v4 at HD4 ⊢
  clear fj d3 HD3
  obtain ⟨vz, HD⟩ : ∃ vz, Hid (RDecAt (w.heap.size + 1) (w.heap.size + 1) ob D4 vz (w.alloc (.cells #[.int .i64 0, .int .i64 0, .int .i64 0, .string ⟨#[]⟩, .string ⟨#[]⟩, .int .i64 0, .int .i64 0, .int .i64 0, .string ⟨#[]⟩, .int .i64 0, .int .i64 0, .slice none 0 0] 24)) v4) := ⟨_, HD4⟩
  clear HD4 HE0 HE1 HE2 HE3 HE4 HX1 HX2 HX3 HKC HSS q1 q2 q3 q4 q5 q6 q7 q8 q9 q10 q11 q12 q13 q14
  have HT := HD
  rw [HDE.out] at HT
  have HFIT := Lib.hid (dec_fit limQ limQ_b S)
  generalize decD limQ S = D at *
  by_cases he : endA D.l D.sp = 0
  · have hE : (endA D.l D.sp != 0) = false := by rw [he]; rfl
    have HE := Lib.hid he
    clear he
    cases hg : goodB D.r with
    | true =>
      have HG := Lib.hid hg
      have HDR : Hid (decR D = some D.r) := Lib.hid (by unfold decR; rw [if_pos ⟨HE.out, hg⟩])
      clear hg
      go_at_call 41
      refine (vend_is _ _ _ _ HT.out.un).mono ?_
      rintro e w8 ⟨rfl, hb8⟩
      have HT8 := Lib.hid (HT.out.keep hb8)
      clear hb8
      obtain ⟨oz, cz, rfl, hcz1, hcz2, hcz3⟩ := HT8.out.row.form
      have HFORM : Hid (oz = none → D.r.m.length = 0 ∧ cz = 0) := Lib.hid hcz3
      clear hcz1 hcz2 hcz3
      have hx := HT8.out.bx
      obtain ⟨f0, f1, f2, f3, f4, f5, f6, f7, f8, f9, f10, f11⟩ := hx.cells
      have HMV : Hid (MvAt w8 oz D.r.m) := Lib.hid (RowK.pts encM_len (by decide) HT8.out.row)
      have HRES : Hid (w8.heap[w.heap.size]? = some (.cells #[.int .i64 0, .int .i64 0, .int .i64 0, .string ⟨#[]⟩, .string ⟨#[]⟩, .int .i64 0, .int .i64 0, .int .i64 0, .string ⟨#[]⟩, .int .i64 0, .int .i64 0, .slice none 0 0] 24 (0, 0))) := Lib.hid ((HT8.out.low.block w.heap.size (by simp)).trans HR.out)
      have HLOW : Hid (Below w.heap.size w w8) := Lib.hid (H0.out.trans (HT8.out.low.mono (by omega)))
      clear hx
      go_wp2_with (first
        | (refine wpList_store_row rfl 24 (Operand.tmp 2) _ rfl w.heap.size _ rfl rfl 24 _ ((HB9.out.block w.heap.size (lt_of_block HRES.out)).trans HRES.out) opSize rfl (by simp [Value.oneCell']) ?_)
        | (go_at_call 14; refine (rgood_any D.r HFIT.out oz _ cz rfl _ HMV.out).mono ?_; rintro e w9 ⟨hge, hb9⟩; rw [HG.out] at hge; subst hge; have HB9 := Lib.hid hb9; have hx9 := HT8.out.bx.keep hb9; obtain ⟨g0, g1, g2, g3, g4, g5, g6, g7, g8, g9, g10, g11⟩ := hx9.cells; clear hb9 hx9 f0 f1 f2 f3 f4 f5 f6 f7 f8 f9 f10 f11))
      refine ret_row (p := 2) (u := 3) rfl rfl rfl (setRow_heap _ _ _ _ _ _ ((HB9.out.block w.heap.size (lt_of_block HRES.out)).trans HRES.out)) Tryd.underlying24 rfl opSize ?_
      have hbb := below_setRow (bstep HLOW.out HB9.out) (Nat.le_refl w.heap.size) #[.int .i64 D.r.cl, .int .i64 D.r.sq, .int .i64 D.r.k, .string D.r.p, .string D.r.t, .int .i64 D.r.sz, .int .i64 D.r.h, .int .i64 D.r.o, .string D.r.d, .int .i64 D.r.tk, .int .i64 D.r.i, .slice oz D.r.m.length cz]
      exact ⟨D.r, 0, oz, _, cz, rfl, rfl, HFORM.out, (HMV.out.grow HB9.out).only (setRow_only _ _ _) (fun a ha => by have hh := (own_base HT8.out.row).1 a ha; omega), hbb, .inl ⟨HDR.out, rfl⟩⟩
    | false =>
      have HG := Lib.hid hg
      have HDR : Hid (decR D = none) := Lib.hid (by unfold decR; rw [if_neg (fun h => by rw [hg] at h; cases h.2)])
      clear hg
      go_at_call 41
      refine (vend_is _ _ _ _ HT.out.un).mono ?_
      rintro e w8 ⟨rfl, hb8⟩
      have HT8 := Lib.hid (HT.out.keep hb8)
      clear hb8
      obtain ⟨oz, cz, rfl, hcz1, hcz2, hcz3⟩ := HT8.out.row.form
      have HFORM : Hid (oz = none → D.r.m.length = 0 ∧ cz = 0) := Lib.hid hcz3
      clear hcz1 hcz2 hcz3
      have hx := HT8.out.bx
      obtain ⟨f0, f1, f2, f3, f4, f5, f6, f7, f8, f9, f10, f11⟩ := hx.cells
      have HMV : Hid (MvAt w8 oz D.r.m) := Lib.hid (RowK.pts encM_len (by decide) HT8.out.row)
      have HRES : Hid (w8.heap[w.heap.size]? = some (.cells #[.int .i64 0, .int .i64 0, .int .i64 0, .string ⟨#[]⟩, .string ⟨#[]⟩, .int .i64 0, .int .i64 0, .int .i64 0, .string ⟨#[]⟩, .int .i64 0, .int .i64 0, .slice none 0 0] 24 (0, 0))) := Lib.hid ((HT8.out.low.block w.heap.size (by simp)).trans HR.out)
      have HLOW : Hid (Below w.heap.size w w8) := Lib.hid (H0.out.trans (HT8.out.low.mono (by omega)))
      clear hx
      go_wp2_with (first
        | (refine wpList_store_row rfl 24 (Operand.tmp 2) _ rfl w.heap.size _ rfl rfl 24 _ ((HB9.out.block w.heap.size (lt_of_block HRES.out)).trans HRES.out) opSize rfl (by simp [Value.oneCell']) ?_)
        | (go_at_call 14; refine (rgood_any D.r HFIT.out oz _ cz rfl _ HMV.out).mono ?_; rintro e w9 ⟨hge, hb9⟩; rw [HG.out] at hge; subst hge; have HB9 := Lib.hid hb9; clear hb9 f0 f1 f2 f3 f4 f5 f6 f7 f8 f9 f10 f11))
      refine ret_row (p := 2) (u := 3) rfl rfl rfl (setRow_heap _ _ _ _ _ _ ((HB9.out.block w.heap.size (lt_of_block HRES.out)).trans HRES.out)) Tryd.underlying24 rfl opSize ?_
      have hbb := below_setRow (bstep HLOW.out HB9.out) (Nat.le_refl w.heap.size) #[.int .i64 0, .int .i64 0, .int .i64 0, .string ⟨#[]⟩, .string ⟨#[]⟩, .int .i64 0, .int .i64 0, .int .i64 0, .string ⟨#[]⟩, .int .i64 0, .int .i64 0, .slice none 0 0]
      exact ⟨zr, 11, none, 0, 0, rfl, rfl, fun _ => ⟨rfl, rfl⟩, MvAt.nil _ _, hbb, .inr ⟨HDR.out, rfl, rfl⟩⟩
  · have hE : (endA D.l D.sp != 0) = true := bne_iff_ne.2 he
    have HDR : Hid (decR D = none) := Lib.hid (by unfold decR; rw [if_neg (fun h => he h.1)])
    clear he
    go_at_call 41
    refine (vend_is _ _ _ _ HT.out.un).mono ?_
    rintro e w8 ⟨rfl, hb8⟩
    have HT8 := Lib.hid (HT.out.keep hb8)
    clear hb8
    obtain ⟨oz, cz, rfl, hcz1, hcz2, hcz3⟩ := HT8.out.row.form
    have HFORM : Hid (oz = none → D.r.m.length = 0 ∧ cz = 0) := Lib.hid hcz3
    clear hcz1 hcz2 hcz3
    have hx := HT8.out.bx
    obtain ⟨f0, f1, f2, f3, f4, f5, f6, f7, f8, f9, f10, f11⟩ := hx.cells
    have HMV : Hid (MvAt w8 oz D.r.m) := Lib.hid (RowK.pts encM_len (by decide) HT8.out.row)
    have HRES : Hid (w8.heap[w.heap.size]? = some (.cells #[.int .i64 0, .int .i64 0, .int .i64 0, .string ⟨#[]⟩, .string ⟨#[]⟩, .int .i64 0, .int .i64 0, .int .i64 0, .string ⟨#[]⟩, .int .i64 0, .int .i64 0, .slice none 0 0] 24 (0, 0))) := Lib.hid ((HT8.out.low.block w.heap.size (by simp)).trans HR.out)
    have HLOW : Hid (Below w.heap.size w w8) := Lib.hid (H0.out.trans (HT8.out.low.mono (by omega)))
    clear hx
    go_wp2_with (first
      | (refine wpList_store_row rfl 24 (Operand.tmp 2) _ rfl w.heap.size _ rfl rfl 24 _ HRES.out opSize rfl (by simp [Value.oneCell']) ?_))
    refine ret_row (p := 2) (u := 3) rfl rfl rfl (setRow_heap _ _ _ _ _ _ HRES.out) Tryd.underlying24 rfl opSize ?_
    have hbb := below_setRow HLOW.out (Nat.le_refl w.heap.size) #[.int .i64 0, .int .i64 0, .int .i64 0, .string ⟨#[]⟩, .string ⟨#[]⟩, .int .i64 0, .int .i64 0, .int .i64 0, .string ⟨#[]⟩, .int .i64 0, .int .i64 0, .slice none 0 0]
    exact ⟨zr, 11, none, 0, 0, rfl, rfl, fun _ => ⟨rfl, rfl⟩, MvAt.nil _ _, hbb, .inr ⟨HDR.out, rfl, rfl⟩⟩
set_option maxHeartbeats 1600000 in
theorem rdec_4 (s : ByteArray) (hs : s.size ≤ 100000) (w : World) (e0 : (headD s.data.toList).r.k = 4) : Calls Tryd.prog 17 #[.string s] w (DecPost (decD limQ s.data.toList) w) := by
  have H0 := Lib.hid (below_alloc w (.cells #[.int .i64 0, .int .i64 0, .int .i64 0, .string ⟨#[]⟩, .string ⟨#[]⟩, .int .i64 0, .int .i64 0, .int .i64 0, .string ⟨#[]⟩, .int .i64 0, .int .i64 0, .slice none 0 0] 24))
  have HR : Hid ((w.alloc (.cells #[.int .i64 0, .int .i64 0, .int .i64 0, .string ⟨#[]⟩, .string ⟨#[]⟩, .int .i64 0, .int .i64 0, .int .i64 0, .string ⟨#[]⟩, .int .i64 0, .int .i64 0, .slice none 0 0] 24)).heap[w.heap.size]? = some (.cells #[.int .i64 0, .int .i64 0, .int .i64 0, .string ⟨#[]⟩, .string ⟨#[]⟩, .int .i64 0, .int .i64 0, .int .i64 0, .string ⟨#[]⟩, .int .i64 0, .int .i64 0, .slice none 0 0] 24 (0, 0))) := Lib.hid (heap_alloc_new w _)
  generalize hS : s.data.toList = S at e0 ⊢
  have HSS := Lib.hid hS
  obtain ⟨D0, hD0⟩ : ∃ D : Dn, D = ⟨S, false, zr⟩ := ⟨_, rfl⟩
  obtain ⟨D1, hD1⟩ : ∃ D : Dn, D = numD 1 D0 (fun v r => { r with k := v }) := ⟨_, rfl⟩
  obtain ⟨x1, hx1⟩ : ∃ x, x = numA D0.l D0.sp 1 := ⟨_, rfl⟩
  obtain ⟨D2, hD2⟩ : ∃ D : Dn, D = numD 1 D1 (fun v r => { r with cl := v }) := ⟨_, rfl⟩
  obtain ⟨x2, hx2⟩ : ∃ x, x = numA D1.l D1.sp 1 := ⟨_, rfl⟩
  obtain ⟨D3, hD3⟩ : ∃ D : Dn, D = numD 4 D2 (fun v r => { r with sq := v }) := ⟨_, rfl⟩
  obtain ⟨x3, hx3⟩ : ∃ x, x = numA D2.l D2.sp 4 := ⟨_, rfl⟩
  obtain ⟨D4, hD4⟩ : ∃ D : Dn, D = textD 65535 D3 (fun v r => { r with p := v }) := ⟨_, rfl⟩
  obtain ⟨D5, hD5⟩ : ∃ D : Dn, D = textD 65535 D4 (fun v r => { r with t := v }) := ⟨_, rfl⟩
  have h3 : D3 = headD S := by rw [hD3, hD2, hD1, hD0]; rfl
  have HKC : Hid (D2.r.k = x1) := Lib.hid (by rw [hD2, hD1, hx1]; rfl)
  have ek : (headD S).r.k = x1 := by rw [← h3, hD3]; exact HKC.out
  rw [ek] at e0
  have HDE : Hid (D5 = decD limQ S) := Lib.hid (by
    unfold decD
    rw [ek, e0, show (fieldsOf 4).data.toList = [112, 116] from by decide, ← h3]
    show _ = (getD limQ 116 (getD limQ 112 D3))
    rw [getD_116, getD_112, hD5, hD4]
    all_goals rfl)
  have HE0 := Lib.hid hD0
  have HE1 := Lib.hid hD1
  have HE2 := Lib.hid hD2
  have HE3 := Lib.hid hD3
  have HE4 := Lib.hid hD4
  have HE5 := Lib.hid hD5
  have HX1 := Lib.hid hx1
  have HX2 := Lib.hid hx2
  have HX3 := Lib.hid hx3
  have q1 : (x1 == 1) = false := by rw [e0]; rfl
  have q2 : (x1 == 2) = false := by rw [e0]; rfl
  have q3 : (x1 == 3) = false := by rw [e0]; rfl
  have q4 : (x1 == 4) = true := by rw [e0]; rfl
  have q5 : (x1 == 5) = false := by rw [e0]; rfl
  have q6 : (x1 == 6) = false := by rw [e0]; rfl
  have q7 : (x1 == 7) = false := by rw [e0]; rfl
  have q8 : (x1 == 8) = false := by rw [e0]; rfl
  have q9 : (x1 == 9) = false := by rw [e0]; rfl
  have q10 : (x1 == 10) = false := by rw [e0]; rfl
  have q11 : (x1 == 11) = false := by rw [e0]; rfl
  have q12 : (x1 == 12) = false := by rw [e0]; rfl
  have q13 : (x1 == 13) = false := by rw [e0]; rfl
  have q14 : (x1 == 14) = false := by rw [e0]; rfl
  clear e0 hS h3 ek hD0 hD1 hD2 hD3 hD4 hD5 hx1 hx2 hx3
  go_enter Tryd.func17, Tryd.ntmps17
  go_wp2_with fail
  go_at_call 38
  refine (ropen_any s _).mono ?_
  rintro e w1 ⟨rfl, hp, hb, hz⟩
  clear hz
  rw [alloc_size] at hp hb
  have HD0 : Hid (RDecAt (w.heap.size + 1) (w.heap.size + 1) w1.heap.size D0 (.slice none 0 0) (w.alloc (.cells #[.int .i64 0, .int .i64 0, .int .i64 0, .string ⟨#[]⟩, .string ⟨#[]⟩, .int .i64 0, .int .i64 0, .int .i64 0, .string ⟨#[]⟩, .int .i64 0, .int .i64 0, .slice none 0 0] 24)) (w1.alloc (.cells #[.int .i64 0, .int .i64 0, .int .i64 0, .string ⟨#[]⟩, .string ⟨#[]⟩, .int .i64 0, .int .i64 0, .int .i64 0, .string ⟨#[]⟩, .int .i64 0, .int .i64 0, .slice none 0 0] 24))) := Lib.hid (by
    rw [HE0.out]
    exact RDecAt.start hb (by have hh := hb.size; rw [alloc_size] at hh; exact hh) (Nat.le_refl _) ⟨s, 0, hp, by omega, by omega, fun _ => by rw [HSS.out]; rfl⟩)
  clear hp hb
  go_wp2_with fail
  generalize w1.alloc (.cells #[.int .i64 0, .int .i64 0, .int .i64 0, .string ⟨#[]⟩, .string ⟨#[]⟩, .int .i64 0, .int .i64 0, .int .i64 0, .string ⟨#[]⟩, .int .i64 0, .int .i64 0, .slice none 0 0] 24) = v0 at HD0 ⊢
  generalize w1.heap.size = ob at HD0 ⊢
  go_at_call 39
  refine (num_as HX1.out (vnum_any _ _ _ 1 _ HD0.out.un)).mono ?_
  rintro e u1 ⟨rfl, hu, ho, hz⟩
  clear hz
  have HD1 := Lib.hid (HD0.out.numS hu ho HX1.out 2 (fun v r => { r with k := v }) HE1.out (fun _ => rfl) (fun _ => rfl))
  have hx := (HD0.out.num hu ho).bx
  have fj := hx.free 2
  obtain ⟨d0, d1, d2, d3, d4, d5, d6, d7, d8, d9, d10, d11⟩ := hx.cells
  clear hu ho hx d0 d1 d3 d4 d5 d6 d7 d8 d9 d10 d11
  go_wp2_with fail
  generalize u1.setCell ⟨ob, 2, none⟩ (.int .i64 x1) = v1 at HD1 ⊢
  clear fj d2 HD0
  go_at_call 39
  refine (num_as HX2.out (vnum_any _ _ _ 1 _ HD1.out.un)).mono ?_
  rintro e u2 ⟨rfl, hu, ho, hz⟩
  clear hz
  have HD2 := Lib.hid (HD1.out.numS hu ho HX2.out 0 (fun v r => { r with cl := v }) HE2.out (fun _ => rfl) (fun _ => rfl))
  have hx := (HD1.out.num hu ho).bx
  have fj := hx.free 0
  obtain ⟨d0, d1, d2, d3, d4, d5, d6, d7, d8, d9, d10, d11⟩ := hx.cells
  clear hu ho hx d1 d2 d3 d4 d5 d6 d7 d8 d9 d10 d11
  go_wp2_with fail
  generalize u2.setCell ⟨ob, 0, none⟩ (.int .i64 x2) = v2 at HD2 ⊢
  clear fj d0 HD1
  go_at_call 39
  refine (num_as HX3.out (vnum_any _ _ _ 4 _ HD2.out.un)).mono ?_
  rintro e u3 ⟨rfl, hu, ho, hz⟩
  clear hz
  have HD3 := Lib.hid (HD2.out.numS hu ho HX3.out 1 (fun v r => { r with sq := v }) HE3.out (fun _ => rfl) (fun _ => rfl))
  have hx := (HD2.out.num hu ho).bx
  have fj := hx.free 1
  obtain ⟨d0, d1, d2, d3, d4, d5, d6, d7, d8, d9, d10, d11⟩ := hx.cells
  rw [HKC.out] at d2
  clear hu ho hx d0 d3 d4 d5 d6 d7 d8 d9 d10 d11
  go_wp2_with fail
  generalize u3.setCell ⟨ob, 1, none⟩ (.int .i64 x3) = v3 at HD3 ⊢
  clear fj d1 d2 HD2
  go_at_call 40
  refine (vtext_is _ _ _ 65535 _ HD3.out.un).mono ?_
  rintro e u4 ⟨rfl, hu, ho⟩
  have HD4 := Lib.hid (HD3.out.textS hu ho 3 (fun v r => { r with p := v }) HE4.out (fun _ => rfl) (fun _ => rfl))
  have hx := (HD3.out.num hu ho).bx
  have fj := hx.free 3
  obtain ⟨d0, d1, d2, d3, d4, d5, d6, d7, d8, d9, d10, d11⟩ := hx.cells
  clear hu ho hx d0 d1 d2 d4 d5 d6 d7 d8 d9 d10 d11
  go_wp2_with fail
  generalize u4.setCell ⟨ob, 3, none⟩ (.string (textA D3.l D3.sp 65535)) = v4 at HD4 ⊢
  clear fj d3 HD3
  go_at_call 40
  refine (vtext_is _ _ _ 65535 _ HD4.out.un).mono ?_
  rintro e u5 ⟨rfl, hu, ho⟩
  have HD5 := Lib.hid (HD4.out.textS hu ho 4 (fun v r => { r with t := v }) HE5.out (fun _ => rfl) (fun _ => rfl))
  have hx := (HD4.out.num hu ho).bx
  have fj := hx.free 4
  obtain ⟨d0, d1, d2, d3, d4, d5, d6, d7, d8, d9, d10, d11⟩ := hx.cells
  clear hu ho hx d0 d1 d2 d3 d5 d6 d7 d8 d9 d10 d11
  go_wp2_with fail
  generalize u5.setCell ⟨ob, 4, none⟩ (.string (textA D4.l D4.sp 65535)) = v5 at HD5 ⊢
  clear fj d4 HD4
  obtain ⟨vz, HD⟩ : ∃ vz, Hid (RDecAt (w.heap.size + 1) (w.heap.size + 1) ob D5 vz (w.alloc (.cells #[.int .i64 0, .int .i64 0, .int .i64 0, .string ⟨#[]⟩, .string ⟨#[]⟩, .int .i64 0, .int .i64 0, .int .i64 0, .string ⟨#[]⟩, .int .i64 0, .int .i64 0, .slice none 0 0] 24)) v5) := ⟨_, HD5⟩
  clear HD5 HE0 HE1 HE2 HE3 HE4 HE5 HX1 HX2 HX3 HKC HSS q1 q2 q3 q4 q5 q6 q7 q8 q9 q10 q11 q12 q13 q14
  have HT := HD
  rw [HDE.out] at HT
  have HFIT := Lib.hid (dec_fit limQ limQ_b S)
  generalize decD limQ S = D at *
  by_cases he : endA D.l D.sp = 0
  · have hE : (endA D.l D.sp != 0) = false := by rw [he]; rfl
    have HE := Lib.hid he
    clear he
    cases hg : goodB D.r with
    | true =>
      have HG := Lib.hid hg
      have HDR : Hid (decR D = some D.r) := Lib.hid (by unfold decR; rw [if_pos ⟨HE.out, hg⟩])
      clear hg
      go_at_call 41
      refine (vend_is _ _ _ _ HT.out.un).mono ?_
      rintro e w8 ⟨rfl, hb8⟩
      have HT8 := Lib.hid (HT.out.keep hb8)
      clear hb8
      obtain ⟨oz, cz, rfl, hcz1, hcz2, hcz3⟩ := HT8.out.row.form
      have HFORM : Hid (oz = none → D.r.m.length = 0 ∧ cz = 0) := Lib.hid hcz3
      clear hcz1 hcz2 hcz3
      have hx := HT8.out.bx
      obtain ⟨f0, f1, f2, f3, f4, f5, f6, f7, f8, f9, f10, f11⟩ := hx.cells
      have HMV : Hid (MvAt w8 oz D.r.m) := Lib.hid (RowK.pts encM_len (by decide) HT8.out.row)
      have HRES : Hid (w8.heap[w.heap.size]? = some (.cells #[.int .i64 0, .int .i64 0, .int .i64 0, .string ⟨#[]⟩, .string ⟨#[]⟩, .int .i64 0, .int .i64 0, .int .i64 0, .string ⟨#[]⟩, .int .i64 0, .int .i64 0, .slice none 0 0] 24 (0, 0))) := Lib.hid ((HT8.out.low.block w.heap.size (by simp)).trans HR.out)
      have HLOW : Hid (Below w.heap.size w w8) := Lib.hid (H0.out.trans (HT8.out.low.mono (by omega)))
      clear hx
      go_wp2_with (first
        | (refine wpList_store_row rfl 24 (Operand.tmp 2) _ rfl w.heap.size _ rfl rfl 24 _ ((HB9.out.block w.heap.size (lt_of_block HRES.out)).trans HRES.out) opSize rfl (by simp [Value.oneCell']) ?_)
        | (go_at_call 14; refine (rgood_any D.r HFIT.out oz _ cz rfl _ HMV.out).mono ?_; rintro e w9 ⟨hge, hb9⟩; rw [HG.out] at hge; subst hge; have HB9 := Lib.hid hb9; have hx9 := HT8.out.bx.keep hb9; obtain ⟨g0, g1, g2, g3, g4, g5, g6, g7, g8, g9, g10, g11⟩ := hx9.cells; clear hb9 hx9 f0 f1 f2 f3 f4 f5 f6 f7 f8 f9 f10 f11))
      refine ret_row (p := 2) (u := 3) rfl rfl rfl (setRow_heap _ _ _ _ _ _ ((HB9.out.block w.heap.size (lt_of_block HRES.out)).trans HRES.out)) Tryd.underlying24 rfl opSize ?_
      have hbb := below_setRow (bstep HLOW.out HB9.out) (Nat.le_refl w.heap.size) #[.int .i64 D.r.cl, .int .i64 D.r.sq, .int .i64 D.r.k, .string D.r.p, .string D.r.t, .int .i64 D.r.sz, .int .i64 D.r.h, .int .i64 D.r.o, .string D.r.d, .int .i64 D.r.tk, .int .i64 D.r.i, .slice oz D.r.m.length cz]
      exact ⟨D.r, 0, oz, _, cz, rfl, rfl, HFORM.out, (HMV.out.grow HB9.out).only (setRow_only _ _ _) (fun a ha => by have hh := (own_base HT8.out.row).1 a ha; omega), hbb, .inl ⟨HDR.out, rfl⟩⟩
    | false =>
      have HG := Lib.hid hg
      have HDR : Hid (decR D = none) := Lib.hid (by unfold decR; rw [if_neg (fun h => by rw [hg] at h; cases h.2)])
      clear hg
      go_at_call 41
      refine (vend_is _ _ _ _ HT.out.un).mono ?_
      rintro e w8 ⟨rfl, hb8⟩
      have HT8 := Lib.hid (HT.out.keep hb8)
      clear hb8
      obtain ⟨oz, cz, rfl, hcz1, hcz2, hcz3⟩ := HT8.out.row.form
      have HFORM : Hid (oz = none → D.r.m.length = 0 ∧ cz = 0) := Lib.hid hcz3
      clear hcz1 hcz2 hcz3
      have hx := HT8.out.bx
      obtain ⟨f0, f1, f2, f3, f4, f5, f6, f7, f8, f9, f10, f11⟩ := hx.cells
      have HMV : Hid (MvAt w8 oz D.r.m) := Lib.hid (RowK.pts encM_len (by decide) HT8.out.row)
      have HRES : Hid (w8.heap[w.heap.size]? = some (.cells #[.int .i64 0, .int .i64 0, .int .i64 0, .string ⟨#[]⟩, .string ⟨#[]⟩, .int .i64 0, .int .i64 0, .int .i64 0, .string ⟨#[]⟩, .int .i64 0, .int .i64 0, .slice none 0 0] 24 (0, 0))) := Lib.hid ((HT8.out.low.block w.heap.size (by simp)).trans HR.out)
      have HLOW : Hid (Below w.heap.size w w8) := Lib.hid (H0.out.trans (HT8.out.low.mono (by omega)))
      clear hx
      go_wp2_with (first
        | (refine wpList_store_row rfl 24 (Operand.tmp 2) _ rfl w.heap.size _ rfl rfl 24 _ ((HB9.out.block w.heap.size (lt_of_block HRES.out)).trans HRES.out) opSize rfl (by simp [Value.oneCell']) ?_)
        | (go_at_call 14; refine (rgood_any D.r HFIT.out oz _ cz rfl _ HMV.out).mono ?_; rintro e w9 ⟨hge, hb9⟩; rw [HG.out] at hge; subst hge; have HB9 := Lib.hid hb9; clear hb9 f0 f1 f2 f3 f4 f5 f6 f7 f8 f9 f10 f11))
      refine ret_row (p := 2) (u := 3) rfl rfl rfl (setRow_heap _ _ _ _ _ _ ((HB9.out.block w.heap.size (lt_of_block HRES.out)).trans HRES.out)) Tryd.underlying24 rfl opSize ?_
      have hbb := below_setRow (bstep HLOW.out HB9.out) (Nat.le_refl w.heap.size) #[.int .i64 0, .int .i64 0, .int .i64 0, .string ⟨#[]⟩, .string ⟨#[]⟩, .int .i64 0, .int .i64 0, .int .i64 0, .string ⟨#[]⟩, .int .i64 0, .int .i64 0, .slice none 0 0]
      exact ⟨zr, 11, none, 0, 0, rfl, rfl, fun _ => ⟨rfl, rfl⟩, MvAt.nil _ _, hbb, .inr ⟨HDR.out, rfl, rfl⟩⟩
  · have hE : (endA D.l D.sp != 0) = true := bne_iff_ne.2 he
    have HDR : Hid (decR D = none) := Lib.hid (by unfold decR; rw [if_neg (fun h => he h.1)])
    clear he
    go_at_call 41
    refine (vend_is _ _ _ _ HT.out.un).mono ?_
    rintro e w8 ⟨rfl, hb8⟩
    have HT8 := Lib.hid (HT.out.keep hb8)
    clear hb8
    obtain ⟨oz, cz, rfl, hcz1, hcz2, hcz3⟩ := HT8.out.row.form
    have HFORM : Hid (oz = none → D.r.m.length = 0 ∧ cz = 0) := Lib.hid hcz3
    clear hcz1 hcz2 hcz3
    have hx := HT8.out.bx
    obtain ⟨f0, f1, f2, f3, f4, f5, f6, f7, f8, f9, f10, f11⟩ := hx.cells
    have HMV : Hid (MvAt w8 oz D.r.m) := Lib.hid (RowK.pts encM_len (by decide) HT8.out.row)
    have HRES : Hid (w8.heap[w.heap.size]? = some (.cells #[.int .i64 0, .int .i64 0, .int .i64 0, .string ⟨#[]⟩, .string ⟨#[]⟩, .int .i64 0, .int .i64 0, .int .i64 0, .string ⟨#[]⟩, .int .i64 0, .int .i64 0, .slice none 0 0] 24 (0, 0))) := Lib.hid ((HT8.out.low.block w.heap.size (by simp)).trans HR.out)
    have HLOW : Hid (Below w.heap.size w w8) := Lib.hid (H0.out.trans (HT8.out.low.mono (by omega)))
    clear hx
    go_wp2_with (first
      | (refine wpList_store_row rfl 24 (Operand.tmp 2) _ rfl w.heap.size _ rfl rfl 24 _ HRES.out opSize rfl (by simp [Value.oneCell']) ?_))
    refine ret_row (p := 2) (u := 3) rfl rfl rfl (setRow_heap _ _ _ _ _ _ HRES.out) Tryd.underlying24 rfl opSize ?_
    have hbb := below_setRow HLOW.out (Nat.le_refl w.heap.size) #[.int .i64 0, .int .i64 0, .int .i64 0, .string ⟨#[]⟩, .string ⟨#[]⟩, .int .i64 0, .int .i64 0, .int .i64 0, .string ⟨#[]⟩, .int .i64 0, .int .i64 0, .slice none 0 0]
    exact ⟨zr, 11, none, 0, 0, rfl, rfl, fun _ => ⟨rfl, rfl⟩, MvAt.nil _ _, hbb, .inr ⟨HDR.out, rfl, rfl⟩⟩
set_option maxHeartbeats 1600000 in
theorem rdec_5 (s : ByteArray) (hs : s.size ≤ 100000) (w : World) (e0 : (headD s.data.toList).r.k = 5) : Calls Tryd.prog 17 #[.string s] w (DecPost (decD limQ s.data.toList) w) := by
  have H0 := Lib.hid (below_alloc w (.cells #[.int .i64 0, .int .i64 0, .int .i64 0, .string ⟨#[]⟩, .string ⟨#[]⟩, .int .i64 0, .int .i64 0, .int .i64 0, .string ⟨#[]⟩, .int .i64 0, .int .i64 0, .slice none 0 0] 24))
  have HR : Hid ((w.alloc (.cells #[.int .i64 0, .int .i64 0, .int .i64 0, .string ⟨#[]⟩, .string ⟨#[]⟩, .int .i64 0, .int .i64 0, .int .i64 0, .string ⟨#[]⟩, .int .i64 0, .int .i64 0, .slice none 0 0] 24)).heap[w.heap.size]? = some (.cells #[.int .i64 0, .int .i64 0, .int .i64 0, .string ⟨#[]⟩, .string ⟨#[]⟩, .int .i64 0, .int .i64 0, .int .i64 0, .string ⟨#[]⟩, .int .i64 0, .int .i64 0, .slice none 0 0] 24 (0, 0))) := Lib.hid (heap_alloc_new w _)
  generalize hS : s.data.toList = S at e0 ⊢
  have HSS := Lib.hid hS
  obtain ⟨D0, hD0⟩ : ∃ D : Dn, D = ⟨S, false, zr⟩ := ⟨_, rfl⟩
  obtain ⟨D1, hD1⟩ : ∃ D : Dn, D = numD 1 D0 (fun v r => { r with k := v }) := ⟨_, rfl⟩
  obtain ⟨x1, hx1⟩ : ∃ x, x = numA D0.l D0.sp 1 := ⟨_, rfl⟩
  obtain ⟨D2, hD2⟩ : ∃ D : Dn, D = numD 1 D1 (fun v r => { r with cl := v }) := ⟨_, rfl⟩
  obtain ⟨x2, hx2⟩ : ∃ x, x = numA D1.l D1.sp 1 := ⟨_, rfl⟩
  obtain ⟨D3, hD3⟩ : ∃ D : Dn, D = numD 4 D2 (fun v r => { r with sq := v }) := ⟨_, rfl⟩
  obtain ⟨x3, hx3⟩ : ∃ x, x = numA D2.l D2.sp 4 := ⟨_, rfl⟩
  obtain ⟨D4, hD4⟩ : ∃ D : Dn, D = textD 65535 D3 (fun v r => { r with p := v }) := ⟨_, rfl⟩
  have h3 : D3 = headD S := by rw [hD3, hD2, hD1, hD0]; rfl
  have HKC : Hid (D2.r.k = x1) := Lib.hid (by rw [hD2, hD1, hx1]; rfl)
  have ek : (headD S).r.k = x1 := by rw [← h3, hD3]; exact HKC.out
  rw [ek] at e0
  have HDE : Hid (D4 = decD limQ S) := Lib.hid (by
    unfold decD
    rw [ek, e0, show (fieldsOf 5).data.toList = [112] from by decide, ← h3]
    show _ = (getD limQ 112 D3)
    rw [getD_112, hD4]
    all_goals rfl)
  have HE0 := Lib.hid hD0
  have HE1 := Lib.hid hD1
  have HE2 := Lib.hid hD2
  have HE3 := Lib.hid hD3
  have HE4 := Lib.hid hD4
  have HX1 := Lib.hid hx1
  have HX2 := Lib.hid hx2
  have HX3 := Lib.hid hx3
  have q1 : (x1 == 1) = false := by rw [e0]; rfl
  have q2 : (x1 == 2) = false := by rw [e0]; rfl
  have q3 : (x1 == 3) = false := by rw [e0]; rfl
  have q4 : (x1 == 4) = false := by rw [e0]; rfl
  have q5 : (x1 == 5) = true := by rw [e0]; rfl
  have q6 : (x1 == 6) = false := by rw [e0]; rfl
  have q7 : (x1 == 7) = false := by rw [e0]; rfl
  have q8 : (x1 == 8) = false := by rw [e0]; rfl
  have q9 : (x1 == 9) = false := by rw [e0]; rfl
  have q10 : (x1 == 10) = false := by rw [e0]; rfl
  have q11 : (x1 == 11) = false := by rw [e0]; rfl
  have q12 : (x1 == 12) = false := by rw [e0]; rfl
  have q13 : (x1 == 13) = false := by rw [e0]; rfl
  have q14 : (x1 == 14) = false := by rw [e0]; rfl
  clear e0 hS h3 ek hD0 hD1 hD2 hD3 hD4 hx1 hx2 hx3
  go_enter Tryd.func17, Tryd.ntmps17
  go_wp2_with fail
  go_at_call 38
  refine (ropen_any s _).mono ?_
  rintro e w1 ⟨rfl, hp, hb, hz⟩
  clear hz
  rw [alloc_size] at hp hb
  have HD0 : Hid (RDecAt (w.heap.size + 1) (w.heap.size + 1) w1.heap.size D0 (.slice none 0 0) (w.alloc (.cells #[.int .i64 0, .int .i64 0, .int .i64 0, .string ⟨#[]⟩, .string ⟨#[]⟩, .int .i64 0, .int .i64 0, .int .i64 0, .string ⟨#[]⟩, .int .i64 0, .int .i64 0, .slice none 0 0] 24)) (w1.alloc (.cells #[.int .i64 0, .int .i64 0, .int .i64 0, .string ⟨#[]⟩, .string ⟨#[]⟩, .int .i64 0, .int .i64 0, .int .i64 0, .string ⟨#[]⟩, .int .i64 0, .int .i64 0, .slice none 0 0] 24))) := Lib.hid (by
    rw [HE0.out]
    exact RDecAt.start hb (by have hh := hb.size; rw [alloc_size] at hh; exact hh) (Nat.le_refl _) ⟨s, 0, hp, by omega, by omega, fun _ => by rw [HSS.out]; rfl⟩)
  clear hp hb
  go_wp2_with fail
  generalize w1.alloc (.cells #[.int .i64 0, .int .i64 0, .int .i64 0, .string ⟨#[]⟩, .string ⟨#[]⟩, .int .i64 0, .int .i64 0, .int .i64 0, .string ⟨#[]⟩, .int .i64 0, .int .i64 0, .slice none 0 0] 24) = v0 at HD0 ⊢
  generalize w1.heap.size = ob at HD0 ⊢
  go_at_call 39
  refine (num_as HX1.out (vnum_any _ _ _ 1 _ HD0.out.un)).mono ?_
  rintro e u1 ⟨rfl, hu, ho, hz⟩
  clear hz
  have HD1 := Lib.hid (HD0.out.numS hu ho HX1.out 2 (fun v r => { r with k := v }) HE1.out (fun _ => rfl) (fun _ => rfl))
  have hx := (HD0.out.num hu ho).bx
  have fj := hx.free 2
  obtain ⟨d0, d1, d2, d3, d4, d5, d6, d7, d8, d9, d10, d11⟩ := hx.cells
  clear hu ho hx d0 d1 d3 d4 d5 d6 d7 d8 d9 d10 d11
  go_wp2_with fail
  generalize u1.setCell ⟨ob, 2, none⟩ (.int .i64 x1) = v1 at HD1 ⊢
  clear fj d2 HD0
  go_at_call 39
  refine (num_as HX2.out (vnum_any _ _ _ 1 _ HD1.out.un)).mono ?_
  rintro e u2 ⟨rfl, hu, ho, hz⟩
  clear hz
  have HD2 := Lib.hid (HD1.out.numS hu ho HX2.out 0 (fun v r => { r with cl := v }) HE2.out (fun _ => rfl) (fun _ => rfl))
  have hx := (HD1.out.num hu ho).bx
  have fj := hx.free 0
  obtain ⟨d0, d1, d2, d3, d4, d5, d6, d7, d8, d9, d10, d11⟩ := hx.cells
  clear hu ho hx d1 d2 d3 d4 d5 d6 d7 d8 d9 d10 d11
  go_wp2_with fail
  generalize u2.setCell ⟨ob, 0, none⟩ (.int .i64 x2) = v2 at HD2 ⊢
  clear fj d0 HD1
  go_at_call 39
  refine (num_as HX3.out (vnum_any _ _ _ 4 _ HD2.out.un)).mono ?_
  rintro e u3 ⟨rfl, hu, ho, hz⟩
  clear hz
  have HD3 := Lib.hid (HD2.out.numS hu ho HX3.out 1 (fun v r => { r with sq := v }) HE3.out (fun _ => rfl) (fun _ => rfl))
  have hx := (HD2.out.num hu ho).bx
  have fj := hx.free 1
  obtain ⟨d0, d1, d2, d3, d4, d5, d6, d7, d8, d9, d10, d11⟩ := hx.cells
  rw [HKC.out] at d2
  clear hu ho hx d0 d3 d4 d5 d6 d7 d8 d9 d10 d11
  go_wp2_with fail
  generalize u3.setCell ⟨ob, 1, none⟩ (.int .i64 x3) = v3 at HD3 ⊢
  clear fj d1 d2 HD2
  go_at_call 40
  refine (vtext_is _ _ _ 65535 _ HD3.out.un).mono ?_
  rintro e u4 ⟨rfl, hu, ho⟩
  have HD4 := Lib.hid (HD3.out.textS hu ho 3 (fun v r => { r with p := v }) HE4.out (fun _ => rfl) (fun _ => rfl))
  have hx := (HD3.out.num hu ho).bx
  have fj := hx.free 3
  obtain ⟨d0, d1, d2, d3, d4, d5, d6, d7, d8, d9, d10, d11⟩ := hx.cells
  clear hu ho hx d0 d1 d2 d4 d5 d6 d7 d8 d9 d10 d11
  go_wp2_with fail
  generalize u4.setCell ⟨ob, 3, none⟩ (.string (textA D3.l D3.sp 65535)) = v4 at HD4 ⊢
  clear fj d3 HD3
  obtain ⟨vz, HD⟩ : ∃ vz, Hid (RDecAt (w.heap.size + 1) (w.heap.size + 1) ob D4 vz (w.alloc (.cells #[.int .i64 0, .int .i64 0, .int .i64 0, .string ⟨#[]⟩, .string ⟨#[]⟩, .int .i64 0, .int .i64 0, .int .i64 0, .string ⟨#[]⟩, .int .i64 0, .int .i64 0, .slice none 0 0] 24)) v4) := ⟨_, HD4⟩
  clear HD4 HE0 HE1 HE2 HE3 HE4 HX1 HX2 HX3 HKC HSS q1 q2 q3 q4 q5 q6 q7 q8 q9 q10 q11 q12 q13 q14
  have HT := HD
  rw [HDE.out] at HT
  have HFIT := Lib.hid (dec_fit limQ limQ_b S)
  generalize decD limQ S = D at *
  by_cases he : endA D.l D.sp = 0
  · have hE : (endA D.l D.sp != 0) = false := by rw [he]; rfl
    have HE := Lib.hid he
    clear he
    cases hg : goodB D.r with
    | true =>
      have HG := Lib.hid hg
      have HDR : Hid (decR D = some D.r) := Lib.hid (by unfold decR; rw [if_pos ⟨HE.out, hg⟩])
      clear hg
      go_at_call 41
      refine (vend_is _ _ _ _ HT.out.un).mono ?_
      rintro e w8 ⟨rfl, hb8⟩
      have HT8 := Lib.hid (HT.out.keep hb8)
      clear hb8
      obtain ⟨oz, cz, rfl, hcz1, hcz2, hcz3⟩ := HT8.out.row.form
      have HFORM : Hid (oz = none → D.r.m.length = 0 ∧ cz = 0) := Lib.hid hcz3
      clear hcz1 hcz2 hcz3
      have hx := HT8.out.bx
      obtain ⟨f0, f1, f2, f3, f4, f5, f6, f7, f8, f9, f10, f11⟩ := hx.cells
      have HMV : Hid (MvAt w8 oz D.r.m) := Lib.hid (RowK.pts encM_len (by decide) HT8.out.row)
      have HRES : Hid (w8.heap[w.heap.size]? = some (.cells #[.int .i64 0, .int .i64 0, .int .i64 0, .string ⟨#[]⟩, .string ⟨#[]⟩, .int .i64 0, .int .i64 0, .int .i64 0, .string ⟨#[]⟩, .int .i64 0, .int .i64 0, .slice none 0 0] 24 (0, 0))) := Lib.hid ((HT8.out.low.block w.heap.size (by simp)).trans HR.out)
      have HLOW : Hid (Below w.heap.size w w8) := Lib.hid (H0.out.trans (HT8.out.low.mono (by omega)))
      clear hx
      go_wp2_with (first
        | (refine wpList_store_row rfl 24 (Operand.tmp 2) _ rfl w.heap.size _ rfl rfl 24 _ ((HB9.out.block w.heap.size (lt_of_block HRES.out)).trans HRES.out) opSize rfl (by simp [Value.oneCell']) ?_)
        | (go_at_call 14; refine (rgood_any D.r HFIT.out oz _ cz rfl _ HMV.out).mono ?_; rintro e w9 ⟨hge, hb9⟩; rw [HG.out] at hge; subst hge; have HB9 := Lib.hid hb9; have hx9 := HT8.out.bx.keep hb9; obtain ⟨g0, g1, g2, g3, g4, g5, g6, g7, g8, g9, g10, g11⟩ := hx9.cells; clear hb9 hx9 f0 f1 f2 f3 f4 f5 f6 f7 f8 f9 f10 f11))
      refine ret_row (p := 2) (u := 3) rfl rfl rfl (setRow_heap _ _ _ _ _ _ ((HB9.out.block w.heap.size (lt_of_block HRES.out)).trans HRES.out)) Tryd.underlying24 rfl opSize ?_
      have hbb := below_setRow (bstep HLOW.out HB9.out) (Nat.le_refl w.heap.size) #[.int .i64 D.r.cl, .int .i64 D.r.sq, .int .i64 D.r.k, .string D.r.p, .string D.r.t, .int .i64 D.r.sz, .int .i64 D.r.h, .int .i64 D.r.o, .string D.r.d, .int .i64 D.r.tk, .int .i64 D.r.i, .slice oz D.r.m.length cz]
      exact ⟨D.r, 0, oz, _, cz, rfl, rfl, HFORM.out, (HMV.out.grow HB9.out).only (setRow_only _ _ _) (fun a ha => by have hh := (own_base HT8.out.row).1 a ha; omega), hbb, .inl ⟨HDR.out, rfl⟩⟩
    | false =>
      have HG := Lib.hid hg
      have HDR : Hid (decR D = none) := Lib.hid (by unfold decR; rw [if_neg (fun h => by rw [hg] at h; cases h.2)])
      clear hg
      go_at_call 41
      refine (vend_is _ _ _ _ HT.out.un).mono ?_
      rintro e w8 ⟨rfl, hb8⟩
      have HT8 := Lib.hid (HT.out.keep hb8)
      clear hb8
      obtain ⟨oz, cz, rfl, hcz1, hcz2, hcz3⟩ := HT8.out.row.form
      have HFORM : Hid (oz = none → D.r.m.length = 0 ∧ cz = 0) := Lib.hid hcz3
      clear hcz1 hcz2 hcz3
      have hx := HT8.out.bx
      obtain ⟨f0, f1, f2, f3, f4, f5, f6, f7, f8, f9, f10, f11⟩ := hx.cells
      have HMV : Hid (MvAt w8 oz D.r.m) := Lib.hid (RowK.pts encM_len (by decide) HT8.out.row)
      have HRES : Hid (w8.heap[w.heap.size]? = some (.cells #[.int .i64 0, .int .i64 0, .int .i64 0, .string ⟨#[]⟩, .string ⟨#[]⟩, .int .i64 0, .int .i64 0, .int .i64 0, .string ⟨#[]⟩, .int .i64 0, .int .i64 0, .slice none 0 0] 24 (0, 0))) := Lib.hid ((HT8.out.low.block w.heap.size (by simp)).trans HR.out)
      have HLOW : Hid (Below w.heap.size w w8) := Lib.hid (H0.out.trans (HT8.out.low.mono (by omega)))
      clear hx
      go_wp2_with (first
        | (refine wpList_store_row rfl 24 (Operand.tmp 2) _ rfl w.heap.size _ rfl rfl 24 _ ((HB9.out.block w.heap.size (lt_of_block HRES.out)).trans HRES.out) opSize rfl (by simp [Value.oneCell']) ?_)
        | (go_at_call 14; refine (rgood_any D.r HFIT.out oz _ cz rfl _ HMV.out).mono ?_; rintro e w9 ⟨hge, hb9⟩; rw [HG.out] at hge; subst hge; have HB9 := Lib.hid hb9; clear hb9 f0 f1 f2 f3 f4 f5 f6 f7 f8 f9 f10 f11))
      refine ret_row (p := 2) (u := 3) rfl rfl rfl (setRow_heap _ _ _ _ _ _ ((HB9.out.block w.heap.size (lt_of_block HRES.out)).trans HRES.out)) Tryd.underlying24 rfl opSize ?_
      have hbb := below_setRow (bstep HLOW.out HB9.out) (Nat.le_refl w.heap.size) #[.int .i64 0, .int .i64 0, .int .i64 0, .string ⟨#[]⟩, .string ⟨#[]⟩, .int .i64 0, .int .i64 0, .int .i64 0, .string ⟨#[]⟩, .int .i64 0, .int .i64 0, .slice none 0 0]
      exact ⟨zr, 11, none, 0, 0, rfl, rfl, fun _ => ⟨rfl, rfl⟩, MvAt.nil _ _, hbb, .inr ⟨HDR.out, rfl, rfl⟩⟩
  · have hE : (endA D.l D.sp != 0) = true := bne_iff_ne.2 he
    have HDR : Hid (decR D = none) := Lib.hid (by unfold decR; rw [if_neg (fun h => he h.1)])
    clear he
    go_at_call 41
    refine (vend_is _ _ _ _ HT.out.un).mono ?_
    rintro e w8 ⟨rfl, hb8⟩
    have HT8 := Lib.hid (HT.out.keep hb8)
    clear hb8
    obtain ⟨oz, cz, rfl, hcz1, hcz2, hcz3⟩ := HT8.out.row.form
    have HFORM : Hid (oz = none → D.r.m.length = 0 ∧ cz = 0) := Lib.hid hcz3
    clear hcz1 hcz2 hcz3
    have hx := HT8.out.bx
    obtain ⟨f0, f1, f2, f3, f4, f5, f6, f7, f8, f9, f10, f11⟩ := hx.cells
    have HMV : Hid (MvAt w8 oz D.r.m) := Lib.hid (RowK.pts encM_len (by decide) HT8.out.row)
    have HRES : Hid (w8.heap[w.heap.size]? = some (.cells #[.int .i64 0, .int .i64 0, .int .i64 0, .string ⟨#[]⟩, .string ⟨#[]⟩, .int .i64 0, .int .i64 0, .int .i64 0, .string ⟨#[]⟩, .int .i64 0, .int .i64 0, .slice none 0 0] 24 (0, 0))) := Lib.hid ((HT8.out.low.block w.heap.size (by simp)).trans HR.out)
    have HLOW : Hid (Below w.heap.size w w8) := Lib.hid (H0.out.trans (HT8.out.low.mono (by omega)))
    clear hx
    go_wp2_with (first
      | (refine wpList_store_row rfl 24 (Operand.tmp 2) _ rfl w.heap.size _ rfl rfl 24 _ HRES.out opSize rfl (by simp [Value.oneCell']) ?_))
    refine ret_row (p := 2) (u := 3) rfl rfl rfl (setRow_heap _ _ _ _ _ _ HRES.out) Tryd.underlying24 rfl opSize ?_
    have hbb := below_setRow HLOW.out (Nat.le_refl w.heap.size) #[.int .i64 0, .int .i64 0, .int .i64 0, .string ⟨#[]⟩, .string ⟨#[]⟩, .int .i64 0, .int .i64 0, .int .i64 0, .string ⟨#[]⟩, .int .i64 0, .int .i64 0, .slice none 0 0]
    exact ⟨zr, 11, none, 0, 0, rfl, rfl, fun _ => ⟨rfl, rfl⟩, MvAt.nil _ _, hbb, .inr ⟨HDR.out, rfl, rfl⟩⟩
set_option maxHeartbeats 1600000 in
theorem rdec_6 (s : ByteArray) (hs : s.size ≤ 100000) (w : World) (e0 : (headD s.data.toList).r.k = 6) : Calls Tryd.prog 17 #[.string s] w (DecPost (decD limQ s.data.toList) w) := by
  have H0 := Lib.hid (below_alloc w (.cells #[.int .i64 0, .int .i64 0, .int .i64 0, .string ⟨#[]⟩, .string ⟨#[]⟩, .int .i64 0, .int .i64 0, .int .i64 0, .string ⟨#[]⟩, .int .i64 0, .int .i64 0, .slice none 0 0] 24))
  have HR : Hid ((w.alloc (.cells #[.int .i64 0, .int .i64 0, .int .i64 0, .string ⟨#[]⟩, .string ⟨#[]⟩, .int .i64 0, .int .i64 0, .int .i64 0, .string ⟨#[]⟩, .int .i64 0, .int .i64 0, .slice none 0 0] 24)).heap[w.heap.size]? = some (.cells #[.int .i64 0, .int .i64 0, .int .i64 0, .string ⟨#[]⟩, .string ⟨#[]⟩, .int .i64 0, .int .i64 0, .int .i64 0, .string ⟨#[]⟩, .int .i64 0, .int .i64 0, .slice none 0 0] 24 (0, 0))) := Lib.hid (heap_alloc_new w _)
  generalize hS : s.data.toList = S at e0 ⊢
  have HSS := Lib.hid hS
  obtain ⟨D0, hD0⟩ : ∃ D : Dn, D = ⟨S, false, zr⟩ := ⟨_, rfl⟩
  obtain ⟨D1, hD1⟩ : ∃ D : Dn, D = numD 1 D0 (fun v r => { r with k := v }) := ⟨_, rfl⟩
  obtain ⟨x1, hx1⟩ : ∃ x, x = numA D0.l D0.sp 1 := ⟨_, rfl⟩
  obtain ⟨D2, hD2⟩ : ∃ D : Dn, D = numD 1 D1 (fun v r => { r with cl := v }) := ⟨_, rfl⟩
  obtain ⟨x2, hx2⟩ : ∃ x, x = numA D1.l D1.sp 1 := ⟨_, rfl⟩
  obtain ⟨D3, hD3⟩ : ∃ D : Dn, D = numD 4 D2 (fun v r => { r with sq := v }) := ⟨_, rfl⟩
  obtain ⟨x3, hx3⟩ : ∃ x, x = numA D2.l D2.sp 4 := ⟨_, rfl⟩
  obtain ⟨D4, hD4⟩ : ∃ D : Dn, D = textD 65535 D3 (fun v r => { r with p := v }) := ⟨_, rfl⟩
  obtain ⟨D5, hD5⟩ : ∃ D : Dn, D = textD 65535 D4 (fun v r => { r with t := v }) := ⟨_, rfl⟩
  have h3 : D3 = headD S := by rw [hD3, hD2, hD1, hD0]; rfl
  have HKC : Hid (D2.r.k = x1) := Lib.hid (by rw [hD2, hD1, hx1]; rfl)
  have ek : (headD S).r.k = x1 := by rw [← h3, hD3]; exact HKC.out
  rw [ek] at e0
  have HDE : Hid (D5 = decD limQ S) := Lib.hid (by
    unfold decD
    rw [ek, e0, show (fieldsOf 6).data.toList = [112, 116] from by decide, ← h3]
    show _ = (getD limQ 116 (getD limQ 112 D3))
    rw [getD_116, getD_112, hD5, hD4]
    all_goals rfl)
  have HE0 := Lib.hid hD0
  have HE1 := Lib.hid hD1
  have HE2 := Lib.hid hD2
  have HE3 := Lib.hid hD3
  have HE4 := Lib.hid hD4
  have HE5 := Lib.hid hD5
  have HX1 := Lib.hid hx1
  have HX2 := Lib.hid hx2
  have HX3 := Lib.hid hx3
  have q1 : (x1 == 1) = false := by rw [e0]; rfl
  have q2 : (x1 == 2) = false := by rw [e0]; rfl
  have q3 : (x1 == 3) = false := by rw [e0]; rfl
  have q4 : (x1 == 4) = false := by rw [e0]; rfl
  have q5 : (x1 == 5) = false := by rw [e0]; rfl
  have q6 : (x1 == 6) = true := by rw [e0]; rfl
  have q7 : (x1 == 7) = false := by rw [e0]; rfl
  have q8 : (x1 == 8) = false := by rw [e0]; rfl
  have q9 : (x1 == 9) = false := by rw [e0]; rfl
  have q10 : (x1 == 10) = false := by rw [e0]; rfl
  have q11 : (x1 == 11) = false := by rw [e0]; rfl
  have q12 : (x1 == 12) = false := by rw [e0]; rfl
  have q13 : (x1 == 13) = false := by rw [e0]; rfl
  have q14 : (x1 == 14) = false := by rw [e0]; rfl
  clear e0 hS h3 ek hD0 hD1 hD2 hD3 hD4 hD5 hx1 hx2 hx3
  go_enter Tryd.func17, Tryd.ntmps17
  go_wp2_with fail
  go_at_call 38
  refine (ropen_any s _).mono ?_
  rintro e w1 ⟨rfl, hp, hb, hz⟩
  clear hz
  rw [alloc_size] at hp hb
  have HD0 : Hid (RDecAt (w.heap.size + 1) (w.heap.size + 1) w1.heap.size D0 (.slice none 0 0) (w.alloc (.cells #[.int .i64 0, .int .i64 0, .int .i64 0, .string ⟨#[]⟩, .string ⟨#[]⟩, .int .i64 0, .int .i64 0, .int .i64 0, .string ⟨#[]⟩, .int .i64 0, .int .i64 0, .slice none 0 0] 24)) (w1.alloc (.cells #[.int .i64 0, .int .i64 0, .int .i64 0, .string ⟨#[]⟩, .string ⟨#[]⟩, .int .i64 0, .int .i64 0, .int .i64 0, .string ⟨#[]⟩, .int .i64 0, .int .i64 0, .slice none 0 0] 24))) := Lib.hid (by
    rw [HE0.out]
    exact RDecAt.start hb (by have hh := hb.size; rw [alloc_size] at hh; exact hh) (Nat.le_refl _) ⟨s, 0, hp, by omega, by omega, fun _ => by rw [HSS.out]; rfl⟩)
  clear hp hb
  go_wp2_with fail
  generalize w1.alloc (.cells #[.int .i64 0, .int .i64 0, .int .i64 0, .string ⟨#[]⟩, .string ⟨#[]⟩, .int .i64 0, .int .i64 0, .int .i64 0, .string ⟨#[]⟩, .int .i64 0, .int .i64 0, .slice none 0 0] 24) = v0 at HD0 ⊢
  generalize w1.heap.size = ob at HD0 ⊢
  go_at_call 39
  refine (num_as HX1.out (vnum_any _ _ _ 1 _ HD0.out.un)).mono ?_
  rintro e u1 ⟨rfl, hu, ho, hz⟩
  clear hz
  have HD1 := Lib.hid (HD0.out.numS hu ho HX1.out 2 (fun v r => { r with k := v }) HE1.out (fun _ => rfl) (fun _ => rfl))
  have hx := (HD0.out.num hu ho).bx
  have fj := hx.free 2
  obtain ⟨d0, d1, d2, d3, d4, d5, d6, d7, d8, d9, d10, d11⟩ := hx.cells
  clear hu ho hx d0 d1 d3 d4 d5 d6 d7 d8 d9 d10 d11
  go_wp2_with fail
  generalize u1.setCell ⟨ob, 2, none⟩ (.int .i64 x1) = v1 at HD1 ⊢
  clear fj d2 HD0
  go_at_call 39
  refine (num_as HX2.out (vnum_any _ _ _ 1 _ HD1.out.un)).mono ?_
  rintro e u2 ⟨rfl, hu, ho, hz⟩
  clear hz
  have HD2 := Lib.hid (HD1.out.numS hu ho HX2.out 0 (fun v r => { r with cl := v }) HE2.out (fun _ => rfl) (fun _ => rfl))
  have hx := (HD1.out.num hu ho).bx
  have fj := hx.free 0
  obtain ⟨d0, d1, d2, d3, d4, d5, d6, d7, d8, d9, d10, d11⟩ := hx.cells
  clear hu ho hx d1 d2 d3 d4 d5 d6 d7 d8 d9 d10 d11
  go_wp2_with fail
  generalize u2.setCell ⟨ob, 0, none⟩ (.int .i64 x2) = v2 at HD2 ⊢
  clear fj d0 HD1
  go_at_call 39
  refine (num_as HX3.out (vnum_any _ _ _ 4 _ HD2.out.un)).mono ?_
  rintro e u3 ⟨rfl, hu, ho, hz⟩
  clear hz
  have HD3 := Lib.hid (HD2.out.numS hu ho HX3.out 1 (fun v r => { r with sq := v }) HE3.out (fun _ => rfl) (fun _ => rfl))
  have hx := (HD2.out.num hu ho).bx
  have fj := hx.free 1
  obtain ⟨d0, d1, d2, d3, d4, d5, d6, d7, d8, d9, d10, d11⟩ := hx.cells
  rw [HKC.out] at d2
  clear hu ho hx d0 d3 d4 d5 d6 d7 d8 d9 d10 d11
  go_wp2_with fail
  generalize u3.setCell ⟨ob, 1, none⟩ (.int .i64 x3) = v3 at HD3 ⊢
  clear fj d1 d2 HD2
  go_at_call 40
  refine (vtext_is _ _ _ 65535 _ HD3.out.un).mono ?_
  rintro e u4 ⟨rfl, hu, ho⟩
  have HD4 := Lib.hid (HD3.out.textS hu ho 3 (fun v r => { r with p := v }) HE4.out (fun _ => rfl) (fun _ => rfl))
  have hx := (HD3.out.num hu ho).bx
  have fj := hx.free 3
  obtain ⟨d0, d1, d2, d3, d4, d5, d6, d7, d8, d9, d10, d11⟩ := hx.cells
  clear hu ho hx d0 d1 d2 d4 d5 d6 d7 d8 d9 d10 d11
  go_wp2_with fail
  generalize u4.setCell ⟨ob, 3, none⟩ (.string (textA D3.l D3.sp 65535)) = v4 at HD4 ⊢
  clear fj d3 HD3
  go_at_call 40
  refine (vtext_is _ _ _ 65535 _ HD4.out.un).mono ?_
  rintro e u5 ⟨rfl, hu, ho⟩
  have HD5 := Lib.hid (HD4.out.textS hu ho 4 (fun v r => { r with t := v }) HE5.out (fun _ => rfl) (fun _ => rfl))
  have hx := (HD4.out.num hu ho).bx
  have fj := hx.free 4
  obtain ⟨d0, d1, d2, d3, d4, d5, d6, d7, d8, d9, d10, d11⟩ := hx.cells
  clear hu ho hx d0 d1 d2 d3 d5 d6 d7 d8 d9 d10 d11
  go_wp2_with fail
  generalize u5.setCell ⟨ob, 4, none⟩ (.string (textA D4.l D4.sp 65535)) = v5 at HD5 ⊢
  clear fj d4 HD4
  obtain ⟨vz, HD⟩ : ∃ vz, Hid (RDecAt (w.heap.size + 1) (w.heap.size + 1) ob D5 vz (w.alloc (.cells #[.int .i64 0, .int .i64 0, .int .i64 0, .string ⟨#[]⟩, .string ⟨#[]⟩, .int .i64 0, .int .i64 0, .int .i64 0, .string ⟨#[]⟩, .int .i64 0, .int .i64 0, .slice none 0 0] 24)) v5) := ⟨_, HD5⟩
  clear HD5 HE0 HE1 HE2 HE3 HE4 HE5 HX1 HX2 HX3 HKC HSS q1 q2 q3 q4 q5 q6 q7 q8 q9 q10 q11 q12 q13 q14
  have HT := HD
  rw [HDE.out] at HT
  have HFIT := Lib.hid (dec_fit limQ limQ_b S)
  generalize decD limQ S = D at *
  by_cases he : endA D.l D.sp = 0
  · have hE : (endA D.l D.sp != 0) = false := by rw [he]; rfl
    have HE := Lib.hid he
    clear he
    cases hg : goodB D.r with
    | true =>
      have HG := Lib.hid hg
      have HDR : Hid (decR D = some D.r) := Lib.hid (by unfold decR; rw [if_pos ⟨HE.out, hg⟩])
      clear hg
      go_at_call 41
      refine (vend_is _ _ _ _ HT.out.un).mono ?_
      rintro e w8 ⟨rfl, hb8⟩
      have HT8 := Lib.hid (HT.out.keep hb8)
      clear hb8
      obtain ⟨oz, cz, rfl, hcz1, hcz2, hcz3⟩ := HT8.out.row.form
      have HFORM : Hid (oz = none → D.r.m.length = 0 ∧ cz = 0) := Lib.hid hcz3
      clear hcz1 hcz2 hcz3
      have hx := HT8.out.bx
      obtain ⟨f0, f1, f2, f3, f4, f5, f6, f7, f8, f9, f10, f11⟩ := hx.cells
      have HMV : Hid (MvAt w8 oz D.r.m) := Lib.hid (RowK.pts encM_len (by decide) HT8.out.row)
      have HRES : Hid (w8.heap[w.heap.size]? = some (.cells #[.int .i64 0, .int .i64 0, .int .i64 0, .string ⟨#[]⟩, .string ⟨#[]⟩, .int .i64 0, .int .i64 0, .int .i64 0, .string ⟨#[]⟩, .int .i64 0, .int .i64 0, .slice none 0 0] 24 (0, 0))) := Lib.hid ((HT8.out.low.block w.heap.size (by simp)).trans HR.out)
      have HLOW : Hid (Below w.heap.size w w8) := Lib.hid (H0.out.trans (HT8.out.low.mono (by omega)))
      clear hx
      go_wp2_with (first
        | (refine wpList_store_row rfl 24 (Operand.tmp 2) _ rfl w.heap.size _ rfl rfl 24 _ ((HB9.out.block w.heap.size (lt_of_block HRES.out)).trans HRES.out) opSize rfl (by simp [Value.oneCell']) ?_)
        | (go_at_call 14; refine (rgood_any D.r HFIT.out oz _ cz rfl _ HMV.out).mono ?_; rintro e w9 ⟨hge, hb9⟩; rw [HG.out] at hge; subst hge; have HB9 := Lib.hid hb9; have hx9 := HT8.out.bx.keep hb9; obtain ⟨g0, g1, g2, g3, g4, g5, g6, g7, g8, g9, g10, g11⟩ := hx9.cells; clear hb9 hx9 f0 f1 f2 f3 f4 f5 f6 f7 f8 f9 f10 f11))
      refine ret_row (p := 2) (u := 3) rfl rfl rfl (setRow_heap _ _ _ _ _ _ ((HB9.out.block w.heap.size (lt_of_block HRES.out)).trans HRES.out)) Tryd.underlying24 rfl opSize ?_
      have hbb := below_setRow (bstep HLOW.out HB9.out) (Nat.le_refl w.heap.size) #[.int .i64 D.r.cl, .int .i64 D.r.sq, .int .i64 D.r.k, .string D.r.p, .string D.r.t, .int .i64 D.r.sz, .int .i64 D.r.h, .int .i64 D.r.o, .string D.r.d, .int .i64 D.r.tk, .int .i64 D.r.i, .slice oz D.r.m.length cz]
      exact ⟨D.r, 0, oz, _, cz, rfl, rfl, HFORM.out, (HMV.out.grow HB9.out).only (setRow_only _ _ _) (fun a ha => by have hh := (own_base HT8.out.row).1 a ha; omega), hbb, .inl ⟨HDR.out, rfl⟩⟩
    | false =>
      have HG := Lib.hid hg
      have HDR : Hid (decR D = none) := Lib.hid (by unfold decR; rw [if_neg (fun h => by rw [hg] at h; cases h.2)])
      clear hg
      go_at_call 41
      refine (vend_is _ _ _ _ HT.out.un).mono ?_
      rintro e w8 ⟨rfl, hb8⟩
      have HT8 := Lib.hid (HT.out.keep hb8)
      clear hb8
      obtain ⟨oz, cz, rfl, hcz1, hcz2, hcz3⟩ := HT8.out.row.form
      have HFORM : Hid (oz = none → D.r.m.length = 0 ∧ cz = 0) := Lib.hid hcz3
      clear hcz1 hcz2 hcz3
      have hx := HT8.out.bx
      obtain ⟨f0, f1, f2, f3, f4, f5, f6, f7, f8, f9, f10, f11⟩ := hx.cells
      have HMV : Hid (MvAt w8 oz D.r.m) := Lib.hid (RowK.pts encM_len (by decide) HT8.out.row)
      have HRES : Hid (w8.heap[w.heap.size]? = some (.cells #[.int .i64 0, .int .i64 0, .int .i64 0, .string ⟨#[]⟩, .string ⟨#[]⟩, .int .i64 0, .int .i64 0, .int .i64 0, .string ⟨#[]⟩, .int .i64 0, .int .i64 0, .slice none 0 0] 24 (0, 0))) := Lib.hid ((HT8.out.low.block w.heap.size (by simp)).trans HR.out)
      have HLOW : Hid (Below w.heap.size w w8) := Lib.hid (H0.out.trans (HT8.out.low.mono (by omega)))
      clear hx
      go_wp2_with (first
        | (refine wpList_store_row rfl 24 (Operand.tmp 2) _ rfl w.heap.size _ rfl rfl 24 _ ((HB9.out.block w.heap.size (lt_of_block HRES.out)).trans HRES.out) opSize rfl (by simp [Value.oneCell']) ?_)
        | (go_at_call 14; refine (rgood_any D.r HFIT.out oz _ cz rfl _ HMV.out).mono ?_; rintro e w9 ⟨hge, hb9⟩; rw [HG.out] at hge; subst hge; have HB9 := Lib.hid hb9; clear hb9 f0 f1 f2 f3 f4 f5 f6 f7 f8 f9 f10 f11))
      refine ret_row (p := 2) (u := 3) rfl rfl rfl (setRow_heap _ _ _ _ _ _ ((HB9.out.block w.heap.size (lt_of_block HRES.out)).trans HRES.out)) Tryd.underlying24 rfl opSize ?_
      have hbb := below_setRow (bstep HLOW.out HB9.out) (Nat.le_refl w.heap.size) #[.int .i64 0, .int .i64 0, .int .i64 0, .string ⟨#[]⟩, .string ⟨#[]⟩, .int .i64 0, .int .i64 0, .int .i64 0, .string ⟨#[]⟩, .int .i64 0, .int .i64 0, .slice none 0 0]
      exact ⟨zr, 11, none, 0, 0, rfl, rfl, fun _ => ⟨rfl, rfl⟩, MvAt.nil _ _, hbb, .inr ⟨HDR.out, rfl, rfl⟩⟩
  · have hE : (endA D.l D.sp != 0) = true := bne_iff_ne.2 he
    have HDR : Hid (decR D = none) := Lib.hid (by unfold decR; rw [if_neg (fun h => he h.1)])
    clear he
    go_at_call 41
    refine (vend_is _ _ _ _ HT.out.un).mono ?_
    rintro e w8 ⟨rfl, hb8⟩
    have HT8 := Lib.hid (HT.out.keep hb8)
    clear hb8
    obtain ⟨oz, cz, rfl, hcz1, hcz2, hcz3⟩ := HT8.out.row.form
    have HFORM : Hid (oz = none → D.r.m.length = 0 ∧ cz = 0) := Lib.hid hcz3
    clear hcz1 hcz2 hcz3
    have hx := HT8.out.bx
    obtain ⟨f0, f1, f2, f3, f4, f5, f6, f7, f8, f9, f10, f11⟩ := hx.cells
    have HMV : Hid (MvAt w8 oz D.r.m) := Lib.hid (RowK.pts encM_len (by decide) HT8.out.row)
    have HRES : Hid (w8.heap[w.heap.size]? = some (.cells #[.int .i64 0, .int .i64 0, .int .i64 0, .string ⟨#[]⟩, .string ⟨#[]⟩, .int .i64 0, .int .i64 0, .int .i64 0, .string ⟨#[]⟩, .int .i64 0, .int .i64 0, .slice none 0 0] 24 (0, 0))) := Lib.hid ((HT8.out.low.block w.heap.size (by simp)).trans HR.out)
    have HLOW : Hid (Below w.heap.size w w8) := Lib.hid (H0.out.trans (HT8.out.low.mono (by omega)))
    clear hx
    go_wp2_with (first
      | (refine wpList_store_row rfl 24 (Operand.tmp 2) _ rfl w.heap.size _ rfl rfl 24 _ HRES.out opSize rfl (by simp [Value.oneCell']) ?_))
    refine ret_row (p := 2) (u := 3) rfl rfl rfl (setRow_heap _ _ _ _ _ _ HRES.out) Tryd.underlying24 rfl opSize ?_
    have hbb := below_setRow HLOW.out (Nat.le_refl w.heap.size) #[.int .i64 0, .int .i64 0, .int .i64 0, .string ⟨#[]⟩, .string ⟨#[]⟩, .int .i64 0, .int .i64 0, .int .i64 0, .string ⟨#[]⟩, .int .i64 0, .int .i64 0, .slice none 0 0]
    exact ⟨zr, 11, none, 0, 0, rfl, rfl, fun _ => ⟨rfl, rfl⟩, MvAt.nil _ _, hbb, .inr ⟨HDR.out, rfl, rfl⟩⟩
set_option maxHeartbeats 1600000 in
theorem rdec_7 (s : ByteArray) (hs : s.size ≤ 100000) (w : World) (e0 : (headD s.data.toList).r.k = 7) : Calls Tryd.prog 17 #[.string s] w (DecPost (decD limQ s.data.toList) w) := by
  have H0 := Lib.hid (below_alloc w (.cells #[.int .i64 0, .int .i64 0, .int .i64 0, .string ⟨#[]⟩, .string ⟨#[]⟩, .int .i64 0, .int .i64 0, .int .i64 0, .string ⟨#[]⟩, .int .i64 0, .int .i64 0, .slice none 0 0] 24))
  have HR : Hid ((w.alloc (.cells #[.int .i64 0, .int .i64 0, .int .i64 0, .string ⟨#[]⟩, .string ⟨#[]⟩, .int .i64 0, .int .i64 0, .int .i64 0, .string ⟨#[]⟩, .int .i64 0, .int .i64 0, .slice none 0 0] 24)).heap[w.heap.size]? = some (.cells #[.int .i64 0, .int .i64 0, .int .i64 0, .string ⟨#[]⟩, .string ⟨#[]⟩, .int .i64 0, .int .i64 0, .int .i64 0, .string ⟨#[]⟩, .int .i64 0, .int .i64 0, .slice none 0 0] 24 (0, 0))) := Lib.hid (heap_alloc_new w _)
  generalize hS : s.data.toList = S at e0 ⊢
  have HSS := Lib.hid hS
  obtain ⟨D0, hD0⟩ : ∃ D : Dn, D = ⟨S, false, zr⟩ := ⟨_, rfl⟩
  obtain ⟨D1, hD1⟩ : ∃ D : Dn, D = numD 1 D0 (fun v r => { r with k := v }) := ⟨_, rfl⟩
  obtain ⟨x1, hx1⟩ : ∃ x, x = numA D0.l D0.sp 1 := ⟨_, rfl⟩
  obtain ⟨D2, hD2⟩ : ∃ D : Dn, D = numD 1 D1 (fun v r => { r with cl := v }) := ⟨_, rfl⟩
  obtain ⟨x2, hx2⟩ : ∃ x, x = numA D1.l D1.sp 1 := ⟨_, rfl⟩
  obtain ⟨D3, hD3⟩ : ∃ D : Dn, D = numD 4 D2 (fun v r => { r with sq := v }) := ⟨_, rfl⟩
  obtain ⟨x3, hx3⟩ : ∃ x, x = numA D2.l D2.sp 4 := ⟨_, rfl⟩
  obtain ⟨D4, hD4⟩ : ∃ D : Dn, D = textD 65535 D3 (fun v r => { r with p := v }) := ⟨_, rfl⟩
  obtain ⟨D5, hD5⟩ : ∃ D : Dn, D = numD 4 D4 (fun v r => { r with sz := v }) := ⟨_, rfl⟩
  obtain ⟨x5, hx5⟩ : ∃ x, x = numA D4.l D4.sp 4 := ⟨_, rfl⟩
  have h3 : D3 = headD S := by rw [hD3, hD2, hD1, hD0]; rfl
  have HKC : Hid (D2.r.k = x1) := Lib.hid (by rw [hD2, hD1, hx1]; rfl)
  have ek : (headD S).r.k = x1 := by rw [← h3, hD3]; exact HKC.out
  rw [ek] at e0
  have HDE : Hid (D5 = decD limQ S) := Lib.hid (by
    unfold decD
    rw [ek, e0, show (fieldsOf 7).data.toList = [112, 115] from by decide, ← h3]
    show _ = (getD limQ 115 (getD limQ 112 D3))
    rw [getD_115, getD_112, hD5, hD4]
    all_goals rfl)
  have HE0 := Lib.hid hD0
  have HE1 := Lib.hid hD1
  have HE2 := Lib.hid hD2
  have HE3 := Lib.hid hD3
  have HE4 := Lib.hid hD4
  have HE5 := Lib.hid hD5
  have HX1 := Lib.hid hx1
  have HX2 := Lib.hid hx2
  have HX3 := Lib.hid hx3
  have HX5 := Lib.hid hx5
  have q1 : (x1 == 1) = false := by rw [e0]; rfl
  have q2 : (x1 == 2) = false := by rw [e0]; rfl
  have q3 : (x1 == 3) = false := by rw [e0]; rfl
  have q4 : (x1 == 4) = false := by rw [e0]; rfl
  have q5 : (x1 == 5) = false := by rw [e0]; rfl
  have q6 : (x1 == 6) = false := by rw [e0]; rfl
  have q7 : (x1 == 7) = true := by rw [e0]; rfl
  have q8 : (x1 == 8) = false := by rw [e0]; rfl
  have q9 : (x1 == 9) = false := by rw [e0]; rfl
  have q10 : (x1 == 10) = false := by rw [e0]; rfl
  have q11 : (x1 == 11) = false := by rw [e0]; rfl
  have q12 : (x1 == 12) = false := by rw [e0]; rfl
  have q13 : (x1 == 13) = false := by rw [e0]; rfl
  have q14 : (x1 == 14) = false := by rw [e0]; rfl
  clear e0 hS h3 ek hD0 hD1 hD2 hD3 hD4 hD5 hx1 hx2 hx3 hx5
  go_enter Tryd.func17, Tryd.ntmps17
  go_wp2_with fail
  go_at_call 38
  refine (ropen_any s _).mono ?_
  rintro e w1 ⟨rfl, hp, hb, hz⟩
  clear hz
  rw [alloc_size] at hp hb
  have HD0 : Hid (RDecAt (w.heap.size + 1) (w.heap.size + 1) w1.heap.size D0 (.slice none 0 0) (w.alloc (.cells #[.int .i64 0, .int .i64 0, .int .i64 0, .string ⟨#[]⟩, .string ⟨#[]⟩, .int .i64 0, .int .i64 0, .int .i64 0, .string ⟨#[]⟩, .int .i64 0, .int .i64 0, .slice none 0 0] 24)) (w1.alloc (.cells #[.int .i64 0, .int .i64 0, .int .i64 0, .string ⟨#[]⟩, .string ⟨#[]⟩, .int .i64 0, .int .i64 0, .int .i64 0, .string ⟨#[]⟩, .int .i64 0, .int .i64 0, .slice none 0 0] 24))) := Lib.hid (by
    rw [HE0.out]
    exact RDecAt.start hb (by have hh := hb.size; rw [alloc_size] at hh; exact hh) (Nat.le_refl _) ⟨s, 0, hp, by omega, by omega, fun _ => by rw [HSS.out]; rfl⟩)
  clear hp hb
  go_wp2_with fail
  generalize w1.alloc (.cells #[.int .i64 0, .int .i64 0, .int .i64 0, .string ⟨#[]⟩, .string ⟨#[]⟩, .int .i64 0, .int .i64 0, .int .i64 0, .string ⟨#[]⟩, .int .i64 0, .int .i64 0, .slice none 0 0] 24) = v0 at HD0 ⊢
  generalize w1.heap.size = ob at HD0 ⊢
  go_at_call 39
  refine (num_as HX1.out (vnum_any _ _ _ 1 _ HD0.out.un)).mono ?_
  rintro e u1 ⟨rfl, hu, ho, hz⟩
  clear hz
  have HD1 := Lib.hid (HD0.out.numS hu ho HX1.out 2 (fun v r => { r with k := v }) HE1.out (fun _ => rfl) (fun _ => rfl))
  have hx := (HD0.out.num hu ho).bx
  have fj := hx.free 2
  obtain ⟨d0, d1, d2, d3, d4, d5, d6, d7, d8, d9, d10, d11⟩ := hx.cells
  clear hu ho hx d0 d1 d3 d4 d5 d6 d7 d8 d9 d10 d11
  go_wp2_with fail
  generalize u1.setCell ⟨ob, 2, none⟩ (.int .i64 x1) = v1 at HD1 ⊢
  clear fj d2 HD0
  go_at_call 39
  refine (num_as HX2.out (vnum_any _ _ _ 1 _ HD1.out.un)).mono ?_
  rintro e u2 ⟨rfl, hu, ho, hz⟩
  clear hz
  have HD2 := Lib.hid (HD1.out.numS hu ho HX2.out 0 (fun v r => { r with cl := v }) HE2.out (fun _ => rfl) (fun _ => rfl))
  have hx := (HD1.out.num hu ho).bx
  have fj := hx.free 0
  obtain ⟨d0, d1, d2, d3, d4, d5, d6, d7, d8, d9, d10, d11⟩ := hx.cells
  clear hu ho hx d1 d2 d3 d4 d5 d6 d7 d8 d9 d10 d11
  go_wp2_with fail
  generalize u2.setCell ⟨ob, 0, none⟩ (.int .i64 x2) = v2 at HD2 ⊢
  clear fj d0 HD1
  go_at_call 39
  refine (num_as HX3.out (vnum_any _ _ _ 4 _ HD2.out.un)).mono ?_
  rintro e u3 ⟨rfl, hu, ho, hz⟩
  clear hz
  have HD3 := Lib.hid (HD2.out.numS hu ho HX3.out 1 (fun v r => { r with sq := v }) HE3.out (fun _ => rfl) (fun _ => rfl))
  have hx := (HD2.out.num hu ho).bx
  have fj := hx.free 1
  obtain ⟨d0, d1, d2, d3, d4, d5, d6, d7, d8, d9, d10, d11⟩ := hx.cells
  rw [HKC.out] at d2
  clear hu ho hx d0 d3 d4 d5 d6 d7 d8 d9 d10 d11
  go_wp2_with fail
  generalize u3.setCell ⟨ob, 1, none⟩ (.int .i64 x3) = v3 at HD3 ⊢
  clear fj d1 d2 HD2
  go_at_call 40
  refine (vtext_is _ _ _ 65535 _ HD3.out.un).mono ?_
  rintro e u4 ⟨rfl, hu, ho⟩
  have HD4 := Lib.hid (HD3.out.textS hu ho 3 (fun v r => { r with p := v }) HE4.out (fun _ => rfl) (fun _ => rfl))
  have hx := (HD3.out.num hu ho).bx
  have fj := hx.free 3
  obtain ⟨d0, d1, d2, d3, d4, d5, d6, d7, d8, d9, d10, d11⟩ := hx.cells
  clear hu ho hx d0 d1 d2 d4 d5 d6 d7 d8 d9 d10 d11
  go_wp2_with fail
  generalize u4.setCell ⟨ob, 3, none⟩ (.string (textA D3.l D3.sp 65535)) = v4 at HD4 ⊢
  clear fj d3 HD3
  go_at_call 39
  refine (num_as HX5.out (vnum_any _ _ _ 4 _ HD4.out.un)).mono ?_
  rintro e u5 ⟨rfl, hu, ho, hz⟩
  clear hz
  have HD5 := Lib.hid (HD4.out.numS hu ho HX5.out 5 (fun v r => { r with sz := v }) HE5.out (fun _ => rfl) (fun _ => rfl))
  have hx := (HD4.out.num hu ho).bx
  have fj := hx.free 5
  obtain ⟨d0, d1, d2, d3, d4, d5, d6, d7, d8, d9, d10, d11⟩ := hx.cells
  clear hu ho hx d0 d1 d2 d3 d4 d6 d7 d8 d9 d10 d11
  go_wp2_with fail
  generalize u5.setCell ⟨ob, 5, none⟩ (.int .i64 x5) = v5 at HD5 ⊢
  clear fj d5 HD4
  obtain ⟨vz, HD⟩ : ∃ vz, Hid (RDecAt (w.heap.size + 1) (w.heap.size + 1) ob D5 vz (w.alloc (.cells #[.int .i64 0, .int .i64 0, .int .i64 0, .string ⟨#[]⟩, .string ⟨#[]⟩, .int .i64 0, .int .i64 0, .int .i64 0, .string ⟨#[]⟩, .int .i64 0, .int .i64 0, .slice none 0 0] 24)) v5) := ⟨_, HD5⟩
  clear HD5 HE0 HE1 HE2 HE3 HE4 HE5 HX1 HX2 HX3 HX5 HKC HSS q1 q2 q3 q4 q5 q6 q7 q8 q9 q10 q11 q12 q13 q14
  have HT := HD
  rw [HDE.out] at HT
  have HFIT := Lib.hid (dec_fit limQ limQ_b S)
  generalize decD limQ S = D at *
  by_cases he : endA D.l D.sp = 0
  · have hE : (endA D.l D.sp != 0) = false := by rw [he]; rfl
    have HE := Lib.hid he
    clear he
    cases hg : goodB D.r with
    | true =>
      have HG := Lib.hid hg
      have HDR : Hid (decR D = some D.r) := Lib.hid (by unfold decR; rw [if_pos ⟨HE.out, hg⟩])
      clear hg
      go_at_call 41
      refine (vend_is _ _ _ _ HT.out.un).mono ?_
      rintro e w8 ⟨rfl, hb8⟩
      have HT8 := Lib.hid (HT.out.keep hb8)
      clear hb8
      obtain ⟨oz, cz, rfl, hcz1, hcz2, hcz3⟩ := HT8.out.row.form
      have HFORM : Hid (oz = none → D.r.m.length = 0 ∧ cz = 0) := Lib.hid hcz3
      clear hcz1 hcz2 hcz3
      have hx := HT8.out.bx
      obtain ⟨f0, f1, f2, f3, f4, f5, f6, f7, f8, f9, f10, f11⟩ := hx.cells
      have HMV : Hid (MvAt w8 oz D.r.m) := Lib.hid (RowK.pts encM_len (by decide) HT8.out.row)
      have HRES : Hid (w8.heap[w.heap.size]? = some (.cells #[.int .i64 0, .int .i64 0, .int .i64 0, .string ⟨#[]⟩, .string ⟨#[]⟩, .int .i64 0, .int .i64 0, .int .i64 0, .string ⟨#[]⟩, .int .i64 0, .int .i64 0, .slice none 0 0] 24 (0, 0))) := Lib.hid ((HT8.out.low.block w.heap.size (by simp)).trans HR.out)
      have HLOW : Hid (Below w.heap.size w w8) := Lib.hid (H0.out.trans (HT8.out.low.mono (by omega)))
      clear hx
      go_wp2_with (first
        | (refine wpList_store_row rfl 24 (Operand.tmp 2) _ rfl w.heap.size _ rfl rfl 24 _ ((HB9.out.block w.heap.size (lt_of_block HRES.out)).trans HRES.out) opSize rfl (by simp [Value.oneCell']) ?_)
        | (go_at_call 14; refine (rgood_any D.r HFIT.out oz _ cz rfl _ HMV.out).mono ?_; rintro e w9 ⟨hge, hb9⟩; rw [HG.out] at hge; subst hge; have HB9 := Lib.hid hb9; have hx9 := HT8.out.bx.keep hb9; obtain ⟨g0, g1, g2, g3, g4, g5, g6, g7, g8, g9, g10, g11⟩ := hx9.cells; clear hb9 hx9 f0 f1 f2 f3 f4 f5 f6 f7 f8 f9 f10 f11))
      refine ret_row (p := 2) (u := 3) rfl rfl rfl (setRow_heap _ _ _ _ _ _ ((HB9.out.block w.heap.size (lt_of_block HRES.out)).trans HRES.out)) Tryd.underlying24 rfl opSize ?_
      have hbb := below_setRow (bstep HLOW.out HB9.out) (Nat.le_refl w.heap.size) #[.int .i64 D.r.cl, .int .i64 D.r.sq, .int .i64 D.r.k, .string D.r.p, .string D.r.t, .int .i64 D.r.sz, .int .i64 D.r.h, .int .i64 D.r.o, .string D.r.d, .int .i64 D.r.tk, .int .i64 D.r.i, .slice oz D.r.m.length cz]
      exact ⟨D.r, 0, oz, _, cz, rfl, rfl, HFORM.out, (HMV.out.grow HB9.out).only (setRow_only _ _ _) (fun a ha => by have hh := (own_base HT8.out.row).1 a ha; omega), hbb, .inl ⟨HDR.out, rfl⟩⟩
    | false =>
      have HG := Lib.hid hg
      have HDR : Hid (decR D = none) := Lib.hid (by unfold decR; rw [if_neg (fun h => by rw [hg] at h; cases h.2)])
      clear hg
      go_at_call 41
      refine (vend_is _ _ _ _ HT.out.un).mono ?_
      rintro e w8 ⟨rfl, hb8⟩
      have HT8 := Lib.hid (HT.out.keep hb8)
      clear hb8
      obtain ⟨oz, cz, rfl, hcz1, hcz2, hcz3⟩ := HT8.out.row.form
      have HFORM : Hid (oz = none → D.r.m.length = 0 ∧ cz = 0) := Lib.hid hcz3
      clear hcz1 hcz2 hcz3
      have hx := HT8.out.bx
      obtain ⟨f0, f1, f2, f3, f4, f5, f6, f7, f8, f9, f10, f11⟩ := hx.cells
      have HMV : Hid (MvAt w8 oz D.r.m) := Lib.hid (RowK.pts encM_len (by decide) HT8.out.row)
      have HRES : Hid (w8.heap[w.heap.size]? = some (.cells #[.int .i64 0, .int .i64 0, .int .i64 0, .string ⟨#[]⟩, .string ⟨#[]⟩, .int .i64 0, .int .i64 0, .int .i64 0, .string ⟨#[]⟩, .int .i64 0, .int .i64 0, .slice none 0 0] 24 (0, 0))) := Lib.hid ((HT8.out.low.block w.heap.size (by simp)).trans HR.out)
      have HLOW : Hid (Below w.heap.size w w8) := Lib.hid (H0.out.trans (HT8.out.low.mono (by omega)))
      clear hx
      go_wp2_with (first
        | (refine wpList_store_row rfl 24 (Operand.tmp 2) _ rfl w.heap.size _ rfl rfl 24 _ ((HB9.out.block w.heap.size (lt_of_block HRES.out)).trans HRES.out) opSize rfl (by simp [Value.oneCell']) ?_)
        | (go_at_call 14; refine (rgood_any D.r HFIT.out oz _ cz rfl _ HMV.out).mono ?_; rintro e w9 ⟨hge, hb9⟩; rw [HG.out] at hge; subst hge; have HB9 := Lib.hid hb9; clear hb9 f0 f1 f2 f3 f4 f5 f6 f7 f8 f9 f10 f11))
      refine ret_row (p := 2) (u := 3) rfl rfl rfl (setRow_heap _ _ _ _ _ _ ((HB9.out.block w.heap.size (lt_of_block HRES.out)).trans HRES.out)) Tryd.underlying24 rfl opSize ?_
      have hbb := below_setRow (bstep HLOW.out HB9.out) (Nat.le_refl w.heap.size) #[.int .i64 0, .int .i64 0, .int .i64 0, .string ⟨#[]⟩, .string ⟨#[]⟩, .int .i64 0, .int .i64 0, .int .i64 0, .string ⟨#[]⟩, .int .i64 0, .int .i64 0, .slice none 0 0]
      exact ⟨zr, 11, none, 0, 0, rfl, rfl, fun _ => ⟨rfl, rfl⟩, MvAt.nil _ _, hbb, .inr ⟨HDR.out, rfl, rfl⟩⟩
  · have hE : (endA D.l D.sp != 0) = true := bne_iff_ne.2 he
    have HDR : Hid (decR D = none) := Lib.hid (by unfold decR; rw [if_neg (fun h => he h.1)])
    clear he
    go_at_call 41
    refine (vend_is _ _ _ _ HT.out.un).mono ?_
    rintro e w8 ⟨rfl, hb8⟩
    have HT8 := Lib.hid (HT.out.keep hb8)
    clear hb8
    obtain ⟨oz, cz, rfl, hcz1, hcz2, hcz3⟩ := HT8.out.row.form
    have HFORM : Hid (oz = none → D.r.m.length = 0 ∧ cz = 0) := Lib.hid hcz3
    clear hcz1 hcz2 hcz3
    have hx := HT8.out.bx
    obtain ⟨f0, f1, f2, f3, f4, f5, f6, f7, f8, f9, f10, f11⟩ := hx.cells
    have HMV : Hid (MvAt w8 oz D.r.m) := Lib.hid (RowK.pts encM_len (by decide) HT8.out.row)
    have HRES : Hid (w8.heap[w.heap.size]? = some (.cells #[.int .i64 0, .int .i64 0, .int .i64 0, .string ⟨#[]⟩, .string ⟨#[]⟩, .int .i64 0, .int .i64 0, .int .i64 0, .string ⟨#[]⟩, .int .i64 0, .int .i64 0, .slice none 0 0] 24 (0, 0))) := Lib.hid ((HT8.out.low.block w.heap.size (by simp)).trans HR.out)
    have HLOW : Hid (Below w.heap.size w w8) := Lib.hid (H0.out.trans (HT8.out.low.mono (by omega)))
    clear hx
    go_wp2_with (first
      | (refine wpList_store_row rfl 24 (Operand.tmp 2) _ rfl w.heap.size _ rfl rfl 24 _ HRES.out opSize rfl (by simp [Value.oneCell']) ?_))
    refine ret_row (p := 2) (u := 3) rfl rfl rfl (setRow_heap _ _ _ _ _ _ HRES.out) Tryd.underlying24 rfl opSize ?_
    have hbb := below_setRow HLOW.out (Nat.le_refl w.heap.size) #[.int .i64 0, .int .i64 0, .int .i64 0, .string ⟨#[]⟩, .string ⟨#[]⟩, .int .i64 0, .int .i64 0, .int .i64 0, .string ⟨#[]⟩, .int .i64 0, .int .i64 0, .slice none 0 0]
    exact ⟨zr, 11, none, 0, 0, rfl, rfl, fun _ => ⟨rfl, rfl⟩, MvAt.nil _ _, hbb, .inr ⟨HDR.out, rfl, rfl⟩⟩
set_option maxHeartbeats 1600000 in
theorem rdec_8 (s : ByteArray) (hs : s.size ≤ 100000) (w : World) (e0 : (headD s.data.toList).r.k = 8) : Calls Tryd.prog 17 #[.string s] w (DecPost (decD limQ s.data.toList) w) := by
  have H0 := Lib.hid (below_alloc w (.cells #[.int .i64 0, .int .i64 0, .int .i64 0, .string ⟨#[]⟩, .string ⟨#[]⟩, .int .i64 0, .int .i64 0, .int .i64 0, .string ⟨#[]⟩, .int .i64 0, .int .i64 0, .slice none 0 0] 24))
  have HR : Hid ((w.alloc (.cells #[.int .i64 0, .int .i64 0, .int .i64 0, .string ⟨#[]⟩, .string ⟨#[]⟩, .int .i64 0, .int .i64 0, .int .i64 0, .string ⟨#[]⟩, .int .i64 0, .int .i64 0, .slice none 0 0] 24)).heap[w.heap.size]? = some (.cells #[.int .i64 0, .int .i64 0, .int .i64 0, .string ⟨#[]⟩, .string ⟨#[]⟩, .int .i64 0, .int .i64 0, .int .i64 0, .string ⟨#[]⟩, .int .i64 0, .int .i64 0, .slice none 0 0] 24 (0, 0))) := Lib.hid (heap_alloc_new w _)
  generalize hS : s.data.toList = S at e0 ⊢
  have HSS := Lib.hid hS
  obtain ⟨D0, hD0⟩ : ∃ D : Dn, D = ⟨S, false, zr⟩ := ⟨_, rfl⟩
  obtain ⟨D1, hD1⟩ : ∃ D : Dn, D = numD 1 D0 (fun v r => { r with k := v }) := ⟨_, rfl⟩
  obtain ⟨x1, hx1⟩ : ∃ x, x = numA D0.l D0.sp 1 := ⟨_, rfl⟩
  obtain ⟨D2, hD2⟩ : ∃ D : Dn, D = numD 1 D1 (fun v r => { r with cl := v }) := ⟨_, rfl⟩
  obtain ⟨x2, hx2⟩ : ∃ x, x = numA D1.l D1.sp 1 := ⟨_, rfl⟩
  obtain ⟨D3, hD3⟩ : ∃ D : Dn, D = numD 4 D2 (fun v r => { r with sq := v }) := ⟨_, rfl⟩
  obtain ⟨x3, hx3⟩ : ∃ x, x = numA D2.l D2.sp 4 := ⟨_, rfl⟩
  obtain ⟨D4, hD4⟩ : ∃ D : Dn, D = textD 65535 D3 (fun v r => { r with p := v }) := ⟨_, rfl⟩
  have h3 : D3 = headD S := by rw [hD3, hD2, hD1, hD0]; rfl
  have HKC : Hid (D2.r.k = x1) := Lib.hid (by rw [hD2, hD1, hx1]; rfl)
  have ek : (headD S).r.k = x1 := by rw [← h3, hD3]; exact HKC.out
  rw [ek] at e0
  have HDE : Hid (D4 = decD limQ S) := Lib.hid (by
    unfold decD
    rw [ek, e0, show (fieldsOf 8).data.toList = [112] from by decide, ← h3]
    show _ = (getD limQ 112 D3)
    rw [getD_112, hD4]
    all_goals rfl)
  have HE0 := Lib.hid hD0
  have HE1 := Lib.hid hD1
  have HE2 := Lib.hid hD2
  have HE3 := Lib.hid hD3
  have HE4 := Lib.hid hD4
  have HX1 := Lib.hid hx1
  have HX2 := Lib.hid hx2
  have HX3 := Lib.hid hx3
  have q1 : (x1 == 1) = false := by rw [e0]; rfl
  have q2 : (x1 == 2) = false := by rw [e0]; rfl
  have q3 : (x1 == 3) = false := by rw [e0]; rfl
  have q4 : (x1 == 4) = false := by rw [e0]; rfl
  have q5 : (x1 == 5) = false := by rw [e0]; rfl
  have q6 : (x1 == 6) = false := by rw [e0]; rfl
  have q7 : (x1 == 7) = false := by rw [e0]; rfl
  have q8 : (x1 == 8) = true := by rw [e0]; rfl
  have q9 : (x1 == 9) = false := by rw [e0]; rfl
  have q10 : (x1 == 10) = false := by rw [e0]; rfl
  have q11 : (x1 == 11) = false := by rw [e0]; rfl
  have q12 : (x1 == 12) = false := by rw [e0]; rfl
  have q13 : (x1 == 13) = false := by rw [e0]; rfl
  have q14 : (x1 == 14) = false := by rw [e0]; rfl
  clear e0 hS h3 ek hD0 hD1 hD2 hD3 hD4 hx1 hx2 hx3
  go_enter Tryd.func17, Tryd.ntmps17
  go_wp2_with fail
  go_at_call 38
  refine (ropen_any s _).mono ?_
  rintro e w1 ⟨rfl, hp, hb, hz⟩
  clear hz
  rw [alloc_size] at hp hb
  have HD0 : Hid (RDecAt (w.heap.size + 1) (w.heap.size + 1) w1.heap.size D0 (.slice none 0 0) (w.alloc (.cells #[.int .i64 0, .int .i64 0, .int .i64 0, .string ⟨#[]⟩, .string ⟨#[]⟩, .int .i64 0, .int .i64 0, .int .i64 0, .string ⟨#[]⟩, .int .i64 0, .int .i64 0, .slice none 0 0] 24)) (w1.alloc (.cells #[.int .i64 0, .int .i64 0, .int .i64 0, .string ⟨#[]⟩, .string ⟨#[]⟩, .int .i64 0, .int .i64 0, .int .i64 0, .string ⟨#[]⟩, .int .i64 0, .int .i64 0, .slice none 0 0] 24))) := Lib.hid (by
    rw [HE0.out]
    exact RDecAt.start hb (by have hh := hb.size; rw [alloc_size] at hh; exact hh) (Nat.le_refl _) ⟨s, 0, hp, by omega, by omega, fun _ => by rw [HSS.out]; rfl⟩)
  clear hp hb
  go_wp2_with fail
  generalize w1.alloc (.cells #[.int .i64 0, .int .i64 0, .int .i64 0, .string ⟨#[]⟩, .string ⟨#[]⟩, .int .i64 0, .int .i64 0, .int .i64 0, .string ⟨#[]⟩, .int .i64 0, .int .i64 0, .slice none 0 0] 24) = v0 at HD0 ⊢
  generalize w1.heap.size = ob at HD0 ⊢
  go_at_call 39
  refine (num_as HX1.out (vnum_any _ _ _ 1 _ HD0.out.un)).mono ?_
  rintro e u1 ⟨rfl, hu, ho, hz⟩
  clear hz
  have HD1 := Lib.hid (HD0.out.numS hu ho HX1.out 2 (fun v r => { r with k := v }) HE1.out (fun _ => rfl) (fun _ => rfl))
  have hx := (HD0.out.num hu ho).bx
  have fj := hx.free 2
  obtain ⟨d0, d1, d2, d3, d4, d5, d6, d7, d8, d9, d10, d11⟩ := hx.cells
  clear hu ho hx d0 d1 d3 d4 d5 d6 d7 d8 d9 d10 d11
  go_wp2_with fail
  generalize u1.setCell ⟨ob, 2, none⟩ (.int .i64 x1) = v1 at HD1 ⊢
  clear fj d2 HD0
  go_at_call 39
  refine (num_as HX2.out (vnum_any _ _ _ 1 _ HD1.out.un)).mono ?_
  rintro e u2 ⟨rfl, hu, ho, hz⟩
  clear hz
  have HD2 := Lib.hid (HD1.out.numS hu ho HX2.out 0 (fun v r => { r with cl := v }) HE2.out (fun _ => rfl) (fun _ => rfl))
  have hx := (HD1.out.num hu ho).bx
  have fj := hx.free 0
  obtain ⟨d0, d1, d2, d3, d4, d5, d6, d7, d8, d9, d10, d11⟩ := hx.cells
  clear hu ho hx d1 d2 d3 d4 d5 d6 d7 d8 d9 d10 d11
  go_wp2_with fail
  generalize u2.setCell ⟨ob, 0, none⟩ (.int .i64 x2) = v2 at HD2 ⊢
  clear fj d0 HD1
  go_at_call 39
  refine (num_as HX3.out (vnum_any _ _ _ 4 _ HD2.out.un)).mono ?_
  rintro e u3 ⟨rfl, hu, ho, hz⟩
  clear hz
  have HD3 := Lib.hid (HD2.out.numS hu ho HX3.out 1 (fun v r => { r with sq := v }) HE3.out (fun _ => rfl) (fun _ => rfl))
  have hx := (HD2.out.num hu ho).bx
  have fj := hx.free 1
  obtain ⟨d0, d1, d2, d3, d4, d5, d6, d7, d8, d9, d10, d11⟩ := hx.cells
  rw [HKC.out] at d2
  clear hu ho hx d0 d3 d4 d5 d6 d7 d8 d9 d10 d11
  go_wp2_with fail
  generalize u3.setCell ⟨ob, 1, none⟩ (.int .i64 x3) = v3 at HD3 ⊢
  clear fj d1 d2 HD2
  go_at_call 40
  refine (vtext_is _ _ _ 65535 _ HD3.out.un).mono ?_
  rintro e u4 ⟨rfl, hu, ho⟩
  have HD4 := Lib.hid (HD3.out.textS hu ho 3 (fun v r => { r with p := v }) HE4.out (fun _ => rfl) (fun _ => rfl))
  have hx := (HD3.out.num hu ho).bx
  have fj := hx.free 3
  obtain ⟨d0, d1, d2, d3, d4, d5, d6, d7, d8, d9, d10, d11⟩ := hx.cells
  clear hu ho hx d0 d1 d2 d4 d5 d6 d7 d8 d9 d10 d11
  go_wp2_with fail
  generalize u4.setCell ⟨ob, 3, none⟩ (.string (textA D3.l D3.sp 65535)) = v4 at HD4 ⊢
  clear fj d3 HD3
  obtain ⟨vz, HD⟩ : ∃ vz, Hid (RDecAt (w.heap.size + 1) (w.heap.size + 1) ob D4 vz (w.alloc (.cells #[.int .i64 0, .int .i64 0, .int .i64 0, .string ⟨#[]⟩, .string ⟨#[]⟩, .int .i64 0, .int .i64 0, .int .i64 0, .string ⟨#[]⟩, .int .i64 0, .int .i64 0, .slice none 0 0] 24)) v4) := ⟨_, HD4⟩
  clear HD4 HE0 HE1 HE2 HE3 HE4 HX1 HX2 HX3 HKC HSS q1 q2 q3 q4 q5 q6 q7 q8 q9 q10 q11 q12 q13 q14
  have HT := HD
  rw [HDE.out] at HT
  have HFIT := Lib.hid (dec_fit limQ limQ_b S)
  generalize decD limQ S = D at *
  by_cases he : endA D.l D.sp = 0
  · have hE : (endA D.l D.sp != 0) = false := by rw [he]; rfl
    have HE := Lib.hid he
    clear he
    cases hg : goodB D.r with
    | true =>
      have HG := Lib.hid hg
      have HDR : Hid (decR D = some D.r) := Lib.hid (by unfold decR; rw [if_pos ⟨HE.out, hg⟩])
      clear hg
      go_at_call 41
      refine (vend_is _ _ _ _ HT.out.un).mono ?_
      rintro e w8 ⟨rfl, hb8⟩
      have HT8 := Lib.hid (HT.out.keep hb8)
      clear hb8
      obtain ⟨oz, cz, rfl, hcz1, hcz2, hcz3⟩ := HT8.out.row.form
      have HFORM : Hid (oz = none → D.r.m.length = 0 ∧ cz = 0) := Lib.hid hcz3
      clear hcz1 hcz2 hcz3
      have hx := HT8.out.bx
      obtain ⟨f0, f1, f2, f3, f4, f5, f6, f7, f8, f9, f10, f11⟩ := hx.cells
      have HMV : Hid (MvAt w8 oz D.r.m) := Lib.hid (RowK.pts encM_len (by decide) HT8.out.row)
      have HRES : Hid (w8.heap[w.heap.size]? = some (.cells #[.int .i64 0, .int .i64 0, .int .i64 0, .string ⟨#[]⟩, .string ⟨#[]⟩, .int .i64 0, .int .i64 0, .int .i64 0, .string ⟨#[]⟩, .int .i64 0, .int .i64 0, .slice none 0 0] 24 (0, 0))) := Lib.hid ((HT8.out.low.block w.heap.size (by simp)).trans HR.out)
      have HLOW : Hid (Below w.heap.size w w8) := Lib.hid (H0.out.trans (HT8.out.low.mono (by omega)))
      clear hx
      go_wp2_with (first
        | (refine wpList_store_row rfl 24 (Operand.tmp 2) _ rfl w.heap.size _ rfl rfl 24 _ ((HB9.out.block w.heap.size (lt_of_block HRES.out)).trans HRES.out) opSize rfl (by simp [Value.oneCell']) ?_)
        | (go_at_call 14; refine (rgood_any D.r HFIT.out oz _ cz rfl _ HMV.out).mono ?_; rintro e w9 ⟨hge, hb9⟩; rw [HG.out] at hge; subst hge; have HB9 := Lib.hid hb9; have hx9 := HT8.out.bx.keep hb9; obtain ⟨g0, g1, g2, g3, g4, g5, g6, g7, g8, g9, g10, g11⟩ := hx9.cells; clear hb9 hx9 f0 f1 f2 f3 f4 f5 f6 f7 f8 f9 f10 f11))
      refine ret_row (p := 2) (u := 3) rfl rfl rfl (setRow_heap _ _ _ _ _ _ ((HB9.out.block w.heap.size (lt_of_block HRES.out)).trans HRES.out)) Tryd.underlying24 rfl opSize ?_
      have hbb := below_setRow (bstep HLOW.out HB9.out) (Nat.le_refl w.heap.size) #[.int .i64 D.r.cl, .int .i64 D.r.sq, .int .i64 D.r.k, .string D.r.p, .string D.r.t, .int .i64 D.r.sz, .int .i64 D.r.h, .int .i64 D.r.o, .string D.r.d, .int .i64 D.r.tk, .int .i64 D.r.i, .slice oz D.r.m.length cz]
      exact ⟨D.r, 0, oz, _, cz, rfl, rfl, HFORM.out, (HMV.out.grow HB9.out).only (setRow_only _ _ _) (fun a ha => by have hh := (own_base HT8.out.row).1 a ha; omega), hbb, .inl ⟨HDR.out, rfl⟩⟩
    | false =>
      have HG := Lib.hid hg
      have HDR : Hid (decR D = none) := Lib.hid (by unfold decR; rw [if_neg (fun h => by rw [hg] at h; cases h.2)])
      clear hg
      go_at_call 41
      refine (vend_is _ _ _ _ HT.out.un).mono ?_
      rintro e w8 ⟨rfl, hb8⟩
      have HT8 := Lib.hid (HT.out.keep hb8)
      clear hb8
      obtain ⟨oz, cz, rfl, hcz1, hcz2, hcz3⟩ := HT8.out.row.form
      have HFORM : Hid (oz = none → D.r.m.length = 0 ∧ cz = 0) := Lib.hid hcz3
      clear hcz1 hcz2 hcz3
      have hx := HT8.out.bx
      obtain ⟨f0, f1, f2, f3, f4, f5, f6, f7, f8, f9, f10, f11⟩ := hx.cells
      have HMV : Hid (MvAt w8 oz D.r.m) := Lib.hid (RowK.pts encM_len (by decide) HT8.out.row)
      have HRES : Hid (w8.heap[w.heap.size]? = some (.cells #[.int .i64 0, .int .i64 0, .int .i64 0, .string ⟨#[]⟩, .string ⟨#[]⟩, .int .i64 0, .int .i64 0, .int .i64 0, .string ⟨#[]⟩, .int .i64 0, .int .i64 0, .slice none 0 0] 24 (0, 0))) := Lib.hid ((HT8.out.low.block w.heap.size (by simp)).trans HR.out)
      have HLOW : Hid (Below w.heap.size w w8) := Lib.hid (H0.out.trans (HT8.out.low.mono (by omega)))
      clear hx
      go_wp2_with (first
        | (refine wpList_store_row rfl 24 (Operand.tmp 2) _ rfl w.heap.size _ rfl rfl 24 _ ((HB9.out.block w.heap.size (lt_of_block HRES.out)).trans HRES.out) opSize rfl (by simp [Value.oneCell']) ?_)
        | (go_at_call 14; refine (rgood_any D.r HFIT.out oz _ cz rfl _ HMV.out).mono ?_; rintro e w9 ⟨hge, hb9⟩; rw [HG.out] at hge; subst hge; have HB9 := Lib.hid hb9; clear hb9 f0 f1 f2 f3 f4 f5 f6 f7 f8 f9 f10 f11))
      refine ret_row (p := 2) (u := 3) rfl rfl rfl (setRow_heap _ _ _ _ _ _ ((HB9.out.block w.heap.size (lt_of_block HRES.out)).trans HRES.out)) Tryd.underlying24 rfl opSize ?_
      have hbb := below_setRow (bstep HLOW.out HB9.out) (Nat.le_refl w.heap.size) #[.int .i64 0, .int .i64 0, .int .i64 0, .string ⟨#[]⟩, .string ⟨#[]⟩, .int .i64 0, .int .i64 0, .int .i64 0, .string ⟨#[]⟩, .int .i64 0, .int .i64 0, .slice none 0 0]
      exact ⟨zr, 11, none, 0, 0, rfl, rfl, fun _ => ⟨rfl, rfl⟩, MvAt.nil _ _, hbb, .inr ⟨HDR.out, rfl, rfl⟩⟩
  · have hE : (endA D.l D.sp != 0) = true := bne_iff_ne.2 he
    have HDR : Hid (decR D = none) := Lib.hid (by unfold decR; rw [if_neg (fun h => he h.1)])
    clear he
    go_at_call 41
    refine (vend_is _ _ _ _ HT.out.un).mono ?_
    rintro e w8 ⟨rfl, hb8⟩
    have HT8 := Lib.hid (HT.out.keep hb8)
    clear hb8
    obtain ⟨oz, cz, rfl, hcz1, hcz2, hcz3⟩ := HT8.out.row.form
    have HFORM : Hid (oz = none → D.r.m.length = 0 ∧ cz = 0) := Lib.hid hcz3
    clear hcz1 hcz2 hcz3
    have hx := HT8.out.bx
    obtain ⟨f0, f1, f2, f3, f4, f5, f6, f7, f8, f9, f10, f11⟩ := hx.cells
    have HMV : Hid (MvAt w8 oz D.r.m) := Lib.hid (RowK.pts encM_len (by decide) HT8.out.row)
    have HRES : Hid (w8.heap[w.heap.size]? = some (.cells #[.int .i64 0, .int .i64 0, .int .i64 0, .string ⟨#[]⟩, .string ⟨#[]⟩, .int .i64 0, .int .i64 0, .int .i64 0, .string ⟨#[]⟩, .int .i64 0, .int .i64 0, .slice none 0 0] 24 (0, 0))) := Lib.hid ((HT8.out.low.block w.heap.size (by simp)).trans HR.out)
    have HLOW : Hid (Below w.heap.size w w8) := Lib.hid (H0.out.trans (HT8.out.low.mono (by omega)))
    clear hx
    go_wp2_with (first
      | (refine wpList_store_row rfl 24 (Operand.tmp 2) _ rfl w.heap.size _ rfl rfl 24 _ HRES.out opSize rfl (by simp [Value.oneCell']) ?_))
    refine ret_row (p := 2) (u := 3) rfl rfl rfl (setRow_heap _ _ _ _ _ _ HRES.out) Tryd.underlying24 rfl opSize ?_
    have hbb := below_setRow HLOW.out (Nat.le_refl w.heap.size) #[.int .i64 0, .int .i64 0, .int .i64 0, .string ⟨#[]⟩, .string ⟨#[]⟩, .int .i64 0, .int .i64 0, .int .i64 0, .string ⟨#[]⟩, .int .i64 0, .int .i64 0, .slice none 0 0]
    exact ⟨zr, 11, none, 0, 0, rfl, rfl, fun _ => ⟨rfl, rfl⟩, MvAt.nil _ _, hbb, .inr ⟨HDR.out, rfl, rfl⟩⟩
set_option maxHeartbeats 1600000 in
theorem rdec_9 (s : ByteArray) (hs : s.size ≤ 100000) (w : World) (e0 : (headD s.data.toList).r.k = 9) : Calls Tryd.prog 17 #[.string s] w (DecPost (decD limQ s.data.toList) w) := by
  have H0 := Lib.hid (below_alloc w (.cells #[.int .i64 0, .int .i64 0, .int .i64 0, .string ⟨#[]⟩, .string ⟨#[]⟩, .int .i64 0, .int .i64 0, .int .i64 0, .string ⟨#[]⟩, .int .i64 0, .int .i64 0, .slice none 0 0] 24))
  have HR : Hid ((w.alloc (.cells #[.int .i64 0, .int .i64 0, .int .i64 0, .string ⟨#[]⟩, .string ⟨#[]⟩, .int .i64 0, .int .i64 0, .int .i64 0, .string ⟨#[]⟩, .int .i64 0, .int .i64 0, .slice none 0 0] 24)).heap[w.heap.size]? = some (.cells #[.int .i64 0, .int .i64 0, .int .i64 0, .string ⟨#[]⟩, .string ⟨#[]⟩, .int .i64 0, .int .i64 0, .int .i64 0, .string ⟨#[]⟩, .int .i64 0, .int .i64 0, .slice none 0 0] 24 (0, 0))) := Lib.hid (heap_alloc_new w _)
  generalize hS : s.data.toList = S at e0 ⊢
  have HSS := Lib.hid hS
  obtain ⟨D0, hD0⟩ : ∃ D : Dn, D = ⟨S, false, zr⟩ := ⟨_, rfl⟩
  obtain ⟨D1, hD1⟩ : ∃ D : Dn, D = numD 1 D0 (fun v r => { r with k := v }) := ⟨_, rfl⟩
  obtain ⟨x1, hx1⟩ : ∃ x, x = numA D0.l D0.sp 1 := ⟨_, rfl⟩
  obtain ⟨D2, hD2⟩ : ∃ D : Dn, D = numD 1 D1 (fun v r => { r with cl := v }) := ⟨_, rfl⟩
  obtain ⟨x2, hx2⟩ : ∃ x, x = numA D1.l D1.sp 1 := ⟨_, rfl⟩
  obtain ⟨D3, hD3⟩ : ∃ D : Dn, D = numD 4 D2 (fun v r => { r with sq := v }) := ⟨_, rfl⟩
  obtain ⟨x3, hx3⟩ : ∃ x, x = numA D2.l D2.sp 4 := ⟨_, rfl⟩
  obtain ⟨D4, hD4⟩ : ∃ D : Dn, D = numD 4 D3 (fun v r => { r with h := v }) := ⟨_, rfl⟩
  obtain ⟨x4, hx4⟩ : ∃ x, x = numA D3.l D3.sp 4 := ⟨_, rfl⟩
  have h3 : D3 = headD S := by rw [hD3, hD2, hD1, hD0]; rfl
  have HKC : Hid (D2.r.k = x1) := Lib.hid (by rw [hD2, hD1, hx1]; rfl)
  have ek : (headD S).r.k = x1 := by rw [← h3, hD3]; exact HKC.out
  rw [ek] at e0
  have HDE : Hid (D4 = decD limQ S) := Lib.hid (by
    unfold decD
    rw [ek, e0, show (fieldsOf 9).data.toList = [104] from by decide, ← h3]
    show _ = (getD limQ 104 D3)
    rw [getD_104, hD4]
    all_goals rfl)
  have HE0 := Lib.hid hD0
  have HE1 := Lib.hid hD1
  have HE2 := Lib.hid hD2
  have HE3 := Lib.hid hD3
  have HE4 := Lib.hid hD4
  have HX1 := Lib.hid hx1
  have HX2 := Lib.hid hx2
  have HX3 := Lib.hid hx3
  have HX4 := Lib.hid hx4
  have q1 : (x1 == 1) = false := by rw [e0]; rfl
  have q2 : (x1 == 2) = false := by rw [e0]; rfl
  have q3 : (x1 == 3) = false := by rw [e0]; rfl
  have q4 : (x1 == 4) = false := by rw [e0]; rfl
  have q5 : (x1 == 5) = false := by rw [e0]; rfl
  have q6 : (x1 == 6) = false := by rw [e0]; rfl
  have q7 : (x1 == 7) = false := by rw [e0]; rfl
  have q8 : (x1 == 8) = false := by rw [e0]; rfl
  have q9 : (x1 == 9) = true := by rw [e0]; rfl
  have q10 : (x1 == 10) = false := by rw [e0]; rfl
  have q11 : (x1 == 11) = false := by rw [e0]; rfl
  have q12 : (x1 == 12) = false := by rw [e0]; rfl
  have q13 : (x1 == 13) = false := by rw [e0]; rfl
  have q14 : (x1 == 14) = false := by rw [e0]; rfl
  clear e0 hS h3 ek hD0 hD1 hD2 hD3 hD4 hx1 hx2 hx3 hx4
  go_enter Tryd.func17, Tryd.ntmps17
  go_wp2_with fail
  go_at_call 38
  refine (ropen_any s _).mono ?_
  rintro e w1 ⟨rfl, hp, hb, hz⟩
  clear hz
  rw [alloc_size] at hp hb
  have HD0 : Hid (RDecAt (w.heap.size + 1) (w.heap.size + 1) w1.heap.size D0 (.slice none 0 0) (w.alloc (.cells #[.int .i64 0, .int .i64 0, .int .i64 0, .string ⟨#[]⟩, .string ⟨#[]⟩, .int .i64 0, .int .i64 0, .int .i64 0, .string ⟨#[]⟩, .int .i64 0, .int .i64 0, .slice none 0 0] 24)) (w1.alloc (.cells #[.int .i64 0, .int .i64 0, .int .i64 0, .string ⟨#[]⟩, .string ⟨#[]⟩, .int .i64 0, .int .i64 0, .int .i64 0, .string ⟨#[]⟩, .int .i64 0, .int .i64 0, .slice none 0 0] 24))) := Lib.hid (by
    rw [HE0.out]
    exact RDecAt.start hb (by have hh := hb.size; rw [alloc_size] at hh; exact hh) (Nat.le_refl _) ⟨s, 0, hp, by omega, by omega, fun _ => by rw [HSS.out]; rfl⟩)
  clear hp hb
  go_wp2_with fail
  generalize w1.alloc (.cells #[.int .i64 0, .int .i64 0, .int .i64 0, .string ⟨#[]⟩, .string ⟨#[]⟩, .int .i64 0, .int .i64 0, .int .i64 0, .string ⟨#[]⟩, .int .i64 0, .int .i64 0, .slice none 0 0] 24) = v0 at HD0 ⊢
  generalize w1.heap.size = ob at HD0 ⊢
  go_at_call 39
  refine (num_as HX1.out (vnum_any _ _ _ 1 _ HD0.out.un)).mono ?_
  rintro e u1 ⟨rfl, hu, ho, hz⟩
  clear hz
  have HD1 := Lib.hid (HD0.out.numS hu ho HX1.out 2 (fun v r => { r with k := v }) HE1.out (fun _ => rfl) (fun _ => rfl))
  have hx := (HD0.out.num hu ho).bx
  have fj := hx.free 2
  obtain ⟨d0, d1, d2, d3, d4, d5, d6, d7, d8, d9, d10, d11⟩ := hx.cells
  clear hu ho hx d0 d1 d3 d4 d5 d6 d7 d8 d9 d10 d11
  go_wp2_with fail
  generalize u1.setCell ⟨ob, 2, none⟩ (.int .i64 x1) = v1 at HD1 ⊢
  clear fj d2 HD0
  go_at_call 39
  refine (num_as HX2.out (vnum_any _ _ _ 1 _ HD1.out.un)).mono ?_
  rintro e u2 ⟨rfl, hu, ho, hz⟩
  clear hz
  have HD2 := Lib.hid (HD1.out.numS hu ho HX2.out 0 (fun v r => { r with cl := v }) HE2.out (fun _ => rfl) (fun _ => rfl))
  have hx := (HD1.out.num hu ho).bx
  have fj := hx.free 0
  obtain ⟨d0, d1, d2, d3, d4, d5, d6, d7, d8, d9, d10, d11⟩ := hx.cells
  clear hu ho hx d1 d2 d3 d4 d5 d6 d7 d8 d9 d10 d11
  go_wp2_with fail
  generalize u2.setCell ⟨ob, 0, none⟩ (.int .i64 x2) = v2 at HD2 ⊢
  clear fj d0 HD1
  go_at_call 39
  refine (num_as HX3.out (vnum_any _ _ _ 4 _ HD2.out.un)).mono ?_
  rintro e u3 ⟨rfl, hu, ho, hz⟩
  clear hz
  have HD3 := Lib.hid (HD2.out.numS hu ho HX3.out 1 (fun v r => { r with sq := v }) HE3.out (fun _ => rfl) (fun _ => rfl))
  have hx := (HD2.out.num hu ho).bx
  have fj := hx.free 1
  obtain ⟨d0, d1, d2, d3, d4, d5, d6, d7, d8, d9, d10, d11⟩ := hx.cells
  rw [HKC.out] at d2
  clear hu ho hx d0 d3 d4 d5 d6 d7 d8 d9 d10 d11
  go_wp2_with fail
  generalize u3.setCell ⟨ob, 1, none⟩ (.int .i64 x3) = v3 at HD3 ⊢
  clear fj d1 d2 HD2
  go_at_call 39
  refine (num_as HX4.out (vnum_any _ _ _ 4 _ HD3.out.un)).mono ?_
  rintro e u4 ⟨rfl, hu, ho, hz⟩
  clear hz
  have HD4 := Lib.hid (HD3.out.numS hu ho HX4.out 6 (fun v r => { r with h := v }) HE4.out (fun _ => rfl) (fun _ => rfl))
  have hx := (HD3.out.num hu ho).bx
  have fj := hx.free 6
  obtain ⟨d0, d1, d2, d3, d4, d5, d6, d7, d8, d9, d10, d11⟩ := hx.cells
  clear hu ho hx d0 d1 d2 d3 d4 d5 d7 d8 d9 d10 d11
  go_wp2_with fail
  generalize u4.setCell ⟨ob, 6, none⟩ (.int .i64 x4) = v4 at HD4 ⊢
  clear fj d6 HD3
  obtain ⟨vz, HD⟩ : ∃ vz, Hid (RDecAt (w.heap.size + 1) (w.heap.size + 1) ob D4 vz (w.alloc (.cells #[.int .i64 0, .int .i64 0, .int .i64 0, .string ⟨#[]⟩, .string ⟨#[]⟩, .int .i64 0, .int .i64 0, .int .i64 0, .string ⟨#[]⟩, .int .i64 0, .int .i64 0, .slice none 0 0] 24)) v4) := ⟨_, HD4⟩
  clear HD4 HE0 HE1 HE2 HE3 HE4 HX1 HX2 HX3 HX4 HKC HSS q1 q2 q3 q4 q5 q6 q7 q8 q9 q10 q11 q12 q13 q14
  have HT := HD
  rw [HDE.out] at HT
  have HFIT := Lib.hid (dec_fit limQ limQ_b S)
  generalize decD limQ S = D at *
  by_cases he : endA D.l D.sp = 0
  · have hE : (endA D.l D.sp != 0) = false := by rw [he]; rfl
    have HE := Lib.hid he
    clear he
    cases hg : goodB D.r with
    | true =>
      have HG := Lib.hid hg
      have HDR : Hid (decR D = some D.r) := Lib.hid (by unfold decR; rw [if_pos ⟨HE.out, hg⟩])
      clear hg
      go_at_call 41
      refine (vend_is _ _ _ _ HT.out.un).mono ?_
      rintro e w8 ⟨rfl, hb8⟩
      have HT8 := Lib.hid (HT.out.keep hb8)
      clear hb8
      obtain ⟨oz, cz, rfl, hcz1, hcz2, hcz3⟩ := HT8.out.row.form
      have HFORM : Hid (oz = none → D.r.m.length = 0 ∧ cz = 0) := Lib.hid hcz3
      clear hcz1 hcz2 hcz3
      have hx := HT8.out.bx
      obtain ⟨f0, f1, f2, f3, f4, f5, f6, f7, f8, f9, f10, f11⟩ := hx.cells
      have HMV : Hid (MvAt w8 oz D.r.m) := Lib.hid (RowK.pts encM_len (by decide) HT8.out.row)
      have HRES : Hid (w8.heap[w.heap.size]? = some (.cells #[.int .i64 0, .int .i64 0, .int .i64 0, .string ⟨#[]⟩, .string ⟨#[]⟩, .int .i64 0, .int .i64 0, .int .i64 0, .string ⟨#[]⟩, .int .i64 0, .int .i64 0, .slice none 0 0] 24 (0, 0))) := Lib.hid ((HT8.out.low.block w.heap.size (by simp)).trans HR.out)
      have HLOW : Hid (Below w.heap.size w w8) := Lib.hid (H0.out.trans (HT8.out.low.mono (by omega)))
      clear hx
      go_wp2_with (first
        | (refine wpList_store_row rfl 24 (Operand.tmp 2) _ rfl w.heap.size _ rfl rfl 24 _ ((HB9.out.block w.heap.size (lt_of_block HRES.out)).trans HRES.out) opSize rfl (by simp [Value.oneCell']) ?_)
        | (go_at_call 14; refine (rgood_any D.r HFIT.out oz _ cz rfl _ HMV.out).mono ?_; rintro e w9 ⟨hge, hb9⟩; rw [HG.out] at hge; subst hge; have HB9 := Lib.hid hb9; have hx9 := HT8.out.bx.keep hb9; obtain ⟨g0, g1, g2, g3, g4, g5, g6, g7, g8, g9, g10, g11⟩ := hx9.cells; clear hb9 hx9 f0 f1 f2 f3 f4 f5 f6 f7 f8 f9 f10 f11))
      refine ret_row (p := 2) (u := 3) rfl rfl rfl (setRow_heap _ _ _ _ _ _ ((HB9.out.block w.heap.size (lt_of_block HRES.out)).trans HRES.out)) Tryd.underlying24 rfl opSize ?_
      have hbb := below_setRow (bstep HLOW.out HB9.out) (Nat.le_refl w.heap.size) #[.int .i64 D.r.cl, .int .i64 D.r.sq, .int .i64 D.r.k, .string D.r.p, .string D.r.t, .int .i64 D.r.sz, .int .i64 D.r.h, .int .i64 D.r.o, .string D.r.d, .int .i64 D.r.tk, .int .i64 D.r.i, .slice oz D.r.m.length cz]
      exact ⟨D.r, 0, oz, _, cz, rfl, rfl, HFORM.out, (HMV.out.grow HB9.out).only (setRow_only _ _ _) (fun a ha => by have hh := (own_base HT8.out.row).1 a ha; omega), hbb, .inl ⟨HDR.out, rfl⟩⟩
    | false =>
      have HG := Lib.hid hg
      have HDR : Hid (decR D = none) := Lib.hid (by unfold decR; rw [if_neg (fun h => by rw [hg] at h; cases h.2)])
      clear hg
      go_at_call 41
      refine (vend_is _ _ _ _ HT.out.un).mono ?_
      rintro e w8 ⟨rfl, hb8⟩
      have HT8 := Lib.hid (HT.out.keep hb8)
      clear hb8
      obtain ⟨oz, cz, rfl, hcz1, hcz2, hcz3⟩ := HT8.out.row.form
      have HFORM : Hid (oz = none → D.r.m.length = 0 ∧ cz = 0) := Lib.hid hcz3
      clear hcz1 hcz2 hcz3
      have hx := HT8.out.bx
      obtain ⟨f0, f1, f2, f3, f4, f5, f6, f7, f8, f9, f10, f11⟩ := hx.cells
      have HMV : Hid (MvAt w8 oz D.r.m) := Lib.hid (RowK.pts encM_len (by decide) HT8.out.row)
      have HRES : Hid (w8.heap[w.heap.size]? = some (.cells #[.int .i64 0, .int .i64 0, .int .i64 0, .string ⟨#[]⟩, .string ⟨#[]⟩, .int .i64 0, .int .i64 0, .int .i64 0, .string ⟨#[]⟩, .int .i64 0, .int .i64 0, .slice none 0 0] 24 (0, 0))) := Lib.hid ((HT8.out.low.block w.heap.size (by simp)).trans HR.out)
      have HLOW : Hid (Below w.heap.size w w8) := Lib.hid (H0.out.trans (HT8.out.low.mono (by omega)))
      clear hx
      go_wp2_with (first
        | (refine wpList_store_row rfl 24 (Operand.tmp 2) _ rfl w.heap.size _ rfl rfl 24 _ ((HB9.out.block w.heap.size (lt_of_block HRES.out)).trans HRES.out) opSize rfl (by simp [Value.oneCell']) ?_)
        | (go_at_call 14; refine (rgood_any D.r HFIT.out oz _ cz rfl _ HMV.out).mono ?_; rintro e w9 ⟨hge, hb9⟩; rw [HG.out] at hge; subst hge; have HB9 := Lib.hid hb9; clear hb9 f0 f1 f2 f3 f4 f5 f6 f7 f8 f9 f10 f11))
      refine ret_row (p := 2) (u := 3) rfl rfl rfl (setRow_heap _ _ _ _ _ _ ((HB9.out.block w.heap.size (lt_of_block HRES.out)).trans HRES.out)) Tryd.underlying24 rfl opSize ?_
      have hbb := below_setRow (bstep HLOW.out HB9.out) (Nat.le_refl w.heap.size) #[.int .i64 0, .int .i64 0, .int .i64 0, .string ⟨#[]⟩, .string ⟨#[]⟩, .int .i64 0, .int .i64 0, .int .i64 0, .string ⟨#[]⟩, .int .i64 0, .int .i64 0, .slice none 0 0]
      exact ⟨zr, 11, none, 0, 0, rfl, rfl, fun _ => ⟨rfl, rfl⟩, MvAt.nil _ _, hbb, .inr ⟨HDR.out, rfl, rfl⟩⟩
  · have hE : (endA D.l D.sp != 0) = true := bne_iff_ne.2 he
    have HDR : Hid (decR D = none) := Lib.hid (by unfold decR; rw [if_neg (fun h => he h.1)])
    clear he
    go_at_call 41
    refine (vend_is _ _ _ _ HT.out.un).mono ?_
    rintro e w8 ⟨rfl, hb8⟩
    have HT8 := Lib.hid (HT.out.keep hb8)
    clear hb8
    obtain ⟨oz, cz, rfl, hcz1, hcz2, hcz3⟩ := HT8.out.row.form
    have HFORM : Hid (oz = none → D.r.m.length = 0 ∧ cz = 0) := Lib.hid hcz3
    clear hcz1 hcz2 hcz3
    have hx := HT8.out.bx
    obtain ⟨f0, f1, f2, f3, f4, f5, f6, f7, f8, f9, f10, f11⟩ := hx.cells
    have HMV : Hid (MvAt w8 oz D.r.m) := Lib.hid (RowK.pts encM_len (by decide) HT8.out.row)
    have HRES : Hid (w8.heap[w.heap.size]? = some (.cells #[.int .i64 0, .int .i64 0, .int .i64 0, .string ⟨#[]⟩, .string ⟨#[]⟩, .int .i64 0, .int .i64 0, .int .i64 0, .string ⟨#[]⟩, .int .i64 0, .int .i64 0, .slice none 0 0] 24 (0, 0))) := Lib.hid ((HT8.out.low.block w.heap.size (by simp)).trans HR.out)
    have HLOW : Hid (Below w.heap.size w w8) := Lib.hid (H0.out.trans (HT8.out.low.mono (by omega)))
    clear hx
    go_wp2_with (first
      | (refine wpList_store_row rfl 24 (Operand.tmp 2) _ rfl w.heap.size _ rfl rfl 24 _ HRES.out opSize rfl (by simp [Value.oneCell']) ?_))
    refine ret_row (p := 2) (u := 3) rfl rfl rfl (setRow_heap _ _ _ _ _ _ HRES.out) Tryd.underlying24 rfl opSize ?_
    have hbb := below_setRow HLOW.out (Nat.le_refl w.heap.size) #[.int .i64 0, .int .i64 0, .int .i64 0, .string ⟨#[]⟩, .string ⟨#[]⟩, .int .i64 0, .int .i64 0, .int .i64 0, .string ⟨#[]⟩, .int .i64 0, .int .i64 0, .slice none 0 0]
    exact ⟨zr, 11, none, 0, 0, rfl, rfl, fun _ => ⟨rfl, rfl⟩, MvAt.nil _ _, hbb, .inr ⟨HDR.out, rfl, rfl⟩⟩
set_option maxHeartbeats 1600000 in
theorem rdec_10 (s : ByteArray) (hs : s.size ≤ 100000) (w : World) (e0 : (headD s.data.toList).r.k = 10) : Calls Tryd.prog 17 #[.string s] w (DecPost (decD limQ s.data.toList) w) := by
  have H0 := Lib.hid (below_alloc w (.cells #[.int .i64 0, .int .i64 0, .int .i64 0, .string ⟨#[]⟩, .string ⟨#[]⟩, .int .i64 0, .int .i64 0, .int .i64 0, .string ⟨#[]⟩, .int .i64 0, .int .i64 0, .slice none 0 0] 24))
  have HR : Hid ((w.alloc (.cells #[.int .i64 0, .int .i64 0, .int .i64 0, .string ⟨#[]⟩, .string ⟨#[]⟩, .int .i64 0, .int .i64 0, .int .i64 0, .string ⟨#[]⟩, .int .i64 0, .int .i64 0, .slice none 0 0] 24)).heap[w.heap.size]? = some (.cells #[.int .i64 0, .int .i64 0, .int .i64 0, .string ⟨#[]⟩, .string ⟨#[]⟩, .int .i64 0, .int .i64 0, .int .i64 0, .string ⟨#[]⟩, .int .i64 0, .int .i64 0, .slice none 0 0] 24 (0, 0))) := Lib.hid (heap_alloc_new w _)
  generalize hS : s.data.toList = S at e0 ⊢
  have HSS := Lib.hid hS
  obtain ⟨D0, hD0⟩ : ∃ D : Dn, D = ⟨S, false, zr⟩ := ⟨_, rfl⟩
  obtain ⟨D1, hD1⟩ : ∃ D : Dn, D = numD 1 D0 (fun v r => { r with k := v }) := ⟨_, rfl⟩
  obtain ⟨x1, hx1⟩ : ∃ x, x = numA D0.l D0.sp 1 := ⟨_, rfl⟩
  obtain ⟨D2, hD2⟩ : ∃ D : Dn, D = numD 1 D1 (fun v r => { r with cl := v }) := ⟨_, rfl⟩
  obtain ⟨x2, hx2⟩ : ∃ x, x = numA D1.l D1.sp 1 := ⟨_, rfl⟩
  obtain ⟨D3, hD3⟩ : ∃ D : Dn, D = numD 4 D2 (fun v r => { r with sq := v }) := ⟨_, rfl⟩
  obtain ⟨x3, hx3⟩ : ∃ x, x = numA D2.l D2.sp 4 := ⟨_, rfl⟩
  obtain ⟨D4, hD4⟩ : ∃ D : Dn, D = numD 4 D3 (fun v r => { r with h := v }) := ⟨_, rfl⟩
  obtain ⟨x4, hx4⟩ : ∃ x, x = numA D3.l D3.sp 4 := ⟨_, rfl⟩
  obtain ⟨D5, hD5⟩ : ∃ D : Dn, D = numD 4 D4 (fun v r => { r with o := v }) := ⟨_, rfl⟩
  obtain ⟨x5, hx5⟩ : ∃ x, x = numA D4.l D4.sp 4 := ⟨_, rfl⟩
  obtain ⟨D6, hD6⟩ : ∃ D : Dn, D = textD 65535 D5 (fun v r => { r with d := v }) := ⟨_, rfl⟩
  have h3 : D3 = headD S := by rw [hD3, hD2, hD1, hD0]; rfl
  have HKC : Hid (D2.r.k = x1) := Lib.hid (by rw [hD2, hD1, hx1]; rfl)
  have ek : (headD S).r.k = x1 := by rw [← h3, hD3]; exact HKC.out
  rw [ek] at e0
  have HDE : Hid (D6 = decD limQ S) := Lib.hid (by
    unfold decD
    rw [ek, e0, show (fieldsOf 10).data.toList = [104, 111, 100] from by decide, ← h3]
    show _ = (getD limQ 100 (getD limQ 111 (getD limQ 104 D3)))
    rw [getD_100, getD_111, getD_104, hD6, hD5, hD4]
    all_goals rfl)
  have HE0 := Lib.hid hD0
  have HE1 := Lib.hid hD1
  have HE2 := Lib.hid hD2
  have HE3 := Lib.hid hD3
  have HE4 := Lib.hid hD4
  have HE5 := Lib.hid hD5
  have HE6 := Lib.hid hD6
  have HX1 := Lib.hid hx1
  have HX2 := Lib.hid hx2
  have HX3 := Lib.hid hx3
  have HX4 := Lib.hid hx4
  have HX5 := Lib.hid hx5
  have q1 : (x1 == 1) = false := by rw [e0]; rfl
  have q2 : (x1 == 2) = false := by rw [e0]; rfl
  have q3 : (x1 == 3) = false := by rw [e0]; rfl
  have q4 : (x1 == 4) = false := by rw [e0]; rfl
  have q5 : (x1 == 5) = false := by rw [e0]; rfl
  have q6 : (x1 == 6) = false := by rw [e0]; rfl
  have q7 : (x1 == 7) = false := by rw [e0]; rfl
  have q8 : (x1 == 8) = false := by rw [e0]; rfl
  have q9 : (x1 == 9) = false := by rw [e0]; rfl
  have q10 : (x1 == 10) = true := by rw [e0]; rfl
  have q11 : (x1 == 11) = false := by rw [e0]; rfl
  have q12 : (x1 == 12) = false := by rw [e0]; rfl
  have q13 : (x1 == 13) = false := by rw [e0]; rfl
  have q14 : (x1 == 14) = false := by rw [e0]; rfl
  clear e0 hS h3 ek hD0 hD1 hD2 hD3 hD4 hD5 hD6 hx1 hx2 hx3 hx4 hx5
  go_enter Tryd.func17, Tryd.ntmps17
  go_wp2_with fail
  go_at_call 38
  refine (ropen_any s _).mono ?_
  rintro e w1 ⟨rfl, hp, hb, hz⟩
  clear hz
  rw [alloc_size] at hp hb
  have HD0 : Hid (RDecAt (w.heap.size + 1) (w.heap.size + 1) w1.heap.size D0 (.slice none 0 0) (w.alloc (.cells #[.int .i64 0, .int .i64 0, .int .i64 0, .string ⟨#[]⟩, .string ⟨#[]⟩, .int .i64 0, .int .i64 0, .int .i64 0, .string ⟨#[]⟩, .int .i64 0, .int .i64 0, .slice none 0 0] 24)) (w1.alloc (.cells #[.int .i64 0, .int .i64 0, .int .i64 0, .string ⟨#[]⟩, .string ⟨#[]⟩, .int .i64 0, .int .i64 0, .int .i64 0, .string ⟨#[]⟩, .int .i64 0, .int .i64 0, .slice none 0 0] 24))) := Lib.hid (by
    rw [HE0.out]
    exact RDecAt.start hb (by have hh := hb.size; rw [alloc_size] at hh; exact hh) (Nat.le_refl _) ⟨s, 0, hp, by omega, by omega, fun _ => by rw [HSS.out]; rfl⟩)
  clear hp hb
  go_wp2_with fail
  generalize w1.alloc (.cells #[.int .i64 0, .int .i64 0, .int .i64 0, .string ⟨#[]⟩, .string ⟨#[]⟩, .int .i64 0, .int .i64 0, .int .i64 0, .string ⟨#[]⟩, .int .i64 0, .int .i64 0, .slice none 0 0] 24) = v0 at HD0 ⊢
  generalize w1.heap.size = ob at HD0 ⊢
  go_at_call 39
  refine (num_as HX1.out (vnum_any _ _ _ 1 _ HD0.out.un)).mono ?_
  rintro e u1 ⟨rfl, hu, ho, hz⟩
  clear hz
  have HD1 := Lib.hid (HD0.out.numS hu ho HX1.out 2 (fun v r => { r with k := v }) HE1.out (fun _ => rfl) (fun _ => rfl))
  have hx := (HD0.out.num hu ho).bx
  have fj := hx.free 2
  obtain ⟨d0, d1, d2, d3, d4, d5, d6, d7, d8, d9, d10, d11⟩ := hx.cells
  clear hu ho hx d0 d1 d3 d4 d5 d6 d7 d8 d9 d10 d11
  go_wp2_with fail
  generalize u1.setCell ⟨ob, 2, none⟩ (.int .i64 x1) = v1 at HD1 ⊢
  clear fj d2 HD0
  go_at_call 39
  refine (num_as HX2.out (vnum_any _ _ _ 1 _ HD1.out.un)).mono ?_
  rintro e u2 ⟨rfl, hu, ho, hz⟩
  clear hz
  have HD2 := Lib.hid (HD1.out.numS hu ho HX2.out 0 (fun v r => { r with cl := v }) HE2.out (fun _ => rfl) (fun _ => rfl))
  have hx := (HD1.out.num hu ho).bx
  have fj := hx.free 0
  obtain ⟨d0, d1, d2, d3, d4, d5, d6, d7, d8, d9, d10, d11⟩ := hx.cells
  clear hu ho hx d1 d2 d3 d4 d5 d6 d7 d8 d9 d10 d11
  go_wp2_with fail
  generalize u2.setCell ⟨ob, 0, none⟩ (.int .i64 x2) = v2 at HD2 ⊢
  clear fj d0 HD1
  go_at_call 39
  refine (num_as HX3.out (vnum_any _ _ _ 4 _ HD2.out.un)).mono ?_
  rintro e u3 ⟨rfl, hu, ho, hz⟩
  clear hz
  have HD3 := Lib.hid (HD2.out.numS hu ho HX3.out 1 (fun v r => { r with sq := v }) HE3.out (fun _ => rfl) (fun _ => rfl))
  have hx := (HD2.out.num hu ho).bx
  have fj := hx.free 1
  obtain ⟨d0, d1, d2, d3, d4, d5, d6, d7, d8, d9, d10, d11⟩ := hx.cells
  rw [HKC.out] at d2
  clear hu ho hx d0 d3 d4 d5 d6 d7 d8 d9 d10 d11
  go_wp2_with fail
  generalize u3.setCell ⟨ob, 1, none⟩ (.int .i64 x3) = v3 at HD3 ⊢
  clear fj d1 d2 HD2
  go_at_call 39
  refine (num_as HX4.out (vnum_any _ _ _ 4 _ HD3.out.un)).mono ?_
  rintro e u4 ⟨rfl, hu, ho, hz⟩
  clear hz
  have HD4 := Lib.hid (HD3.out.numS hu ho HX4.out 6 (fun v r => { r with h := v }) HE4.out (fun _ => rfl) (fun _ => rfl))
  have hx := (HD3.out.num hu ho).bx
  have fj := hx.free 6
  obtain ⟨d0, d1, d2, d3, d4, d5, d6, d7, d8, d9, d10, d11⟩ := hx.cells
  clear hu ho hx d0 d1 d2 d3 d4 d5 d7 d8 d9 d10 d11
  go_wp2_with fail
  generalize u4.setCell ⟨ob, 6, none⟩ (.int .i64 x4) = v4 at HD4 ⊢
  clear fj d6 HD3
  go_at_call 39
  refine (num_as HX5.out (vnum_any _ _ _ 4 _ HD4.out.un)).mono ?_
  rintro e u5 ⟨rfl, hu, ho, hz⟩
  clear hz
  have HD5 := Lib.hid (HD4.out.numS hu ho HX5.out 7 (fun v r => { r with o := v }) HE5.out (fun _ => rfl) (fun _ => rfl))
  have hx := (HD4.out.num hu ho).bx
  have fj := hx.free 7
  obtain ⟨d0, d1, d2, d3, d4, d5, d6, d7, d8, d9, d10, d11⟩ := hx.cells
  clear hu ho hx d0 d1 d2 d3 d4 d5 d6 d8 d9 d10 d11
  go_wp2_with fail
  generalize u5.setCell ⟨ob, 7, none⟩ (.int .i64 x5) = v5 at HD5 ⊢
  clear fj d7 HD4
  go_at_call 40
  refine (vtext_is _ _ _ 65535 _ HD5.out.un).mono ?_
  rintro e u6 ⟨rfl, hu, ho⟩
  have HD6 := Lib.hid (HD5.out.textS hu ho 8 (fun v r => { r with d := v }) HE6.out (fun _ => rfl) (fun _ => rfl))
  have hx := (HD5.out.num hu ho).bx
  have fj := hx.free 8
  obtain ⟨d0, d1, d2, d3, d4, d5, d6, d7, d8, d9, d10, d11⟩ := hx.cells
  clear hu ho hx d0 d1 d2 d3 d4 d5 d6 d7 d9 d10 d11
  go_wp2_with fail
  generalize u6.setCell ⟨ob, 8, none⟩ (.string (textA D5.l D5.sp 65535)) = v6 at HD6 ⊢
  clear fj d8 HD5
  obtain ⟨vz, HD⟩ : ∃ vz, Hid (RDecAt (w.heap.size + 1) (w.heap.size + 1) ob D6 vz (w.alloc (.cells #[.int .i64 0, .int .i64 0, .int .i64 0, .string ⟨#[]⟩, .string ⟨#[]⟩, .int .i64 0, .int .i64 0, .int .i64 0, .string ⟨#[]⟩, .int .i64 0, .int .i64 0, .slice none 0 0] 24)) v6) := ⟨_, HD6⟩
  clear HD6 HE0 HE1 HE2 HE3 HE4 HE5 HE6 HX1 HX2 HX3 HX4 HX5 HKC HSS q1 q2 q3 q4 q5 q6 q7 q8 q9 q10 q11 q12 q13 q14
  have HT := HD
  rw [HDE.out] at HT
  have HFIT := Lib.hid (dec_fit limQ limQ_b S)
  generalize decD limQ S = D at *
  by_cases he : endA D.l D.sp = 0
  · have hE : (endA D.l D.sp != 0) = false := by rw [he]; rfl
    have HE := Lib.hid he
    clear he
    cases hg : goodB D.r with
    | true =>
      have HG := Lib.hid hg
      have HDR : Hid (decR D = some D.r) := Lib.hid (by unfold decR; rw [if_pos ⟨HE.out, hg⟩])
      clear hg
      go_at_call 41
      refine (vend_is _ _ _ _ HT.out.un).mono ?_
      rintro e w8 ⟨rfl, hb8⟩
      have HT8 := Lib.hid (HT.out.keep hb8)
      clear hb8
      obtain ⟨oz, cz, rfl, hcz1, hcz2, hcz3⟩ := HT8.out.row.form
      have HFORM : Hid (oz = none → D.r.m.length = 0 ∧ cz = 0) := Lib.hid hcz3
      clear hcz1 hcz2 hcz3
      have hx := HT8.out.bx
      obtain ⟨f0, f1, f2, f3, f4, f5, f6, f7, f8, f9, f10, f11⟩ := hx.cells
      have HMV : Hid (MvAt w8 oz D.r.m) := Lib.hid (RowK.pts encM_len (by decide) HT8.out.row)
      have HRES : Hid (w8.heap[w.heap.size]? = some (.cells #[.int .i64 0, .int .i64 0, .int .i64 0, .string ⟨#[]⟩, .string ⟨#[]⟩, .int .i64 0, .int .i64 0, .int .i64 0, .string ⟨#[]⟩, .int .i64 0, .int .i64 0, .slice none 0 0] 24 (0, 0))) := Lib.hid ((HT8.out.low.block w.heap.size (by simp)).trans HR.out)
      have HLOW : Hid (Below w.heap.size w w8) := Lib.hid (H0.out.trans (HT8.out.low.mono (by omega)))
      clear hx
      go_wp2_with (first
        | (refine wpList_store_row rfl 24 (Operand.tmp 2) _ rfl w.heap.size _ rfl rfl 24 _ ((HB9.out.block w.heap.size (lt_of_block HRES.out)).trans HRES.out) opSize rfl (by simp [Value.oneCell']) ?_)
        | (go_at_call 14; refine (rgood_any D.r HFIT.out oz _ cz rfl _ HMV.out).mono ?_; rintro e w9 ⟨hge, hb9⟩; rw [HG.out] at hge; subst hge; have HB9 := Lib.hid hb9; have hx9 := HT8.out.bx.keep hb9; obtain ⟨g0, g1, g2, g3, g4, g5, g6, g7, g8, g9, g10, g11⟩ := hx9.cells; clear hb9 hx9 f0 f1 f2 f3 f4 f5 f6 f7 f8 f9 f10 f11))
      refine ret_row (p := 2) (u := 3) rfl rfl rfl (setRow_heap _ _ _ _ _ _ ((HB9.out.block w.heap.size (lt_of_block HRES.out)).trans HRES.out)) Tryd.underlying24 rfl opSize ?_
      have hbb := below_setRow (bstep HLOW.out HB9.out) (Nat.le_refl w.heap.size) #[.int .i64 D.r.cl, .int .i64 D.r.sq, .int .i64 D.r.k, .string D.r.p, .string D.r.t, .int .i64 D.r.sz, .int .i64 D.r.h, .int .i64 D.r.o, .string D.r.d, .int .i64 D.r.tk, .int .i64 D.r.i, .slice oz D.r.m.length cz]
      exact ⟨D.r, 0, oz, _, cz, rfl, rfl, HFORM.out, (HMV.out.grow HB9.out).only (setRow_only _ _ _) (fun a ha => by have hh := (own_base HT8.out.row).1 a ha; omega), hbb, .inl ⟨HDR.out, rfl⟩⟩
    | false =>
      have HG := Lib.hid hg
      have HDR : Hid (decR D = none) := Lib.hid (by unfold decR; rw [if_neg (fun h => by rw [hg] at h; cases h.2)])
      clear hg
      go_at_call 41
      refine (vend_is _ _ _ _ HT.out.un).mono ?_
      rintro e w8 ⟨rfl, hb8⟩
      have HT8 := Lib.hid (HT.out.keep hb8)
      clear hb8
      obtain ⟨oz, cz, rfl, hcz1, hcz2, hcz3⟩ := HT8.out.row.form
      have HFORM : Hid (oz = none → D.r.m.length = 0 ∧ cz = 0) := Lib.hid hcz3
      clear hcz1 hcz2 hcz3
      have hx := HT8.out.bx
      obtain ⟨f0, f1, f2, f3, f4, f5, f6, f7, f8, f9, f10, f11⟩ := hx.cells
      have HMV : Hid (MvAt w8 oz D.r.m) := Lib.hid (RowK.pts encM_len (by decide) HT8.out.row)
      have HRES : Hid (w8.heap[w.heap.size]? = some (.cells #[.int .i64 0, .int .i64 0, .int .i64 0, .string ⟨#[]⟩, .string ⟨#[]⟩, .int .i64 0, .int .i64 0, .int .i64 0, .string ⟨#[]⟩, .int .i64 0, .int .i64 0, .slice none 0 0] 24 (0, 0))) := Lib.hid ((HT8.out.low.block w.heap.size (by simp)).trans HR.out)
      have HLOW : Hid (Below w.heap.size w w8) := Lib.hid (H0.out.trans (HT8.out.low.mono (by omega)))
      clear hx
      go_wp2_with (first
        | (refine wpList_store_row rfl 24 (Operand.tmp 2) _ rfl w.heap.size _ rfl rfl 24 _ ((HB9.out.block w.heap.size (lt_of_block HRES.out)).trans HRES.out) opSize rfl (by simp [Value.oneCell']) ?_)
        | (go_at_call 14; refine (rgood_any D.r HFIT.out oz _ cz rfl _ HMV.out).mono ?_; rintro e w9 ⟨hge, hb9⟩; rw [HG.out] at hge; subst hge; have HB9 := Lib.hid hb9; clear hb9 f0 f1 f2 f3 f4 f5 f6 f7 f8 f9 f10 f11))
      refine ret_row (p := 2) (u := 3) rfl rfl rfl (setRow_heap _ _ _ _ _ _ ((HB9.out.block w.heap.size (lt_of_block HRES.out)).trans HRES.out)) Tryd.underlying24 rfl opSize ?_
      have hbb := below_setRow (bstep HLOW.out HB9.out) (Nat.le_refl w.heap.size) #[.int .i64 0, .int .i64 0, .int .i64 0, .string ⟨#[]⟩, .string ⟨#[]⟩, .int .i64 0, .int .i64 0, .int .i64 0, .string ⟨#[]⟩, .int .i64 0, .int .i64 0, .slice none 0 0]
      exact ⟨zr, 11, none, 0, 0, rfl, rfl, fun _ => ⟨rfl, rfl⟩, MvAt.nil _ _, hbb, .inr ⟨HDR.out, rfl, rfl⟩⟩
  · have hE : (endA D.l D.sp != 0) = true := bne_iff_ne.2 he
    have HDR : Hid (decR D = none) := Lib.hid (by unfold decR; rw [if_neg (fun h => he h.1)])
    clear he
    go_at_call 41
    refine (vend_is _ _ _ _ HT.out.un).mono ?_
    rintro e w8 ⟨rfl, hb8⟩
    have HT8 := Lib.hid (HT.out.keep hb8)
    clear hb8
    obtain ⟨oz, cz, rfl, hcz1, hcz2, hcz3⟩ := HT8.out.row.form
    have HFORM : Hid (oz = none → D.r.m.length = 0 ∧ cz = 0) := Lib.hid hcz3
    clear hcz1 hcz2 hcz3
    have hx := HT8.out.bx
    obtain ⟨f0, f1, f2, f3, f4, f5, f6, f7, f8, f9, f10, f11⟩ := hx.cells
    have HMV : Hid (MvAt w8 oz D.r.m) := Lib.hid (RowK.pts encM_len (by decide) HT8.out.row)
    have HRES : Hid (w8.heap[w.heap.size]? = some (.cells #[.int .i64 0, .int .i64 0, .int .i64 0, .string ⟨#[]⟩, .string ⟨#[]⟩, .int .i64 0, .int .i64 0, .int .i64 0, .string ⟨#[]⟩, .int .i64 0, .int .i64 0, .slice none 0 0] 24 (0, 0))) := Lib.hid ((HT8.out.low.block w.heap.size (by simp)).trans HR.out)
    have HLOW : Hid (Below w.heap.size w w8) := Lib.hid (H0.out.trans (HT8.out.low.mono (by omega)))
    clear hx
    go_wp2_with (first
      | (refine wpList_store_row rfl 24 (Operand.tmp 2) _ rfl w.heap.size _ rfl rfl 24 _ HRES.out opSize rfl (by simp [Value.oneCell']) ?_))
    refine ret_row (p := 2) (u := 3) rfl rfl rfl (setRow_heap _ _ _ _ _ _ HRES.out) Tryd.underlying24 rfl opSize ?_
    have hbb := below_setRow HLOW.out (Nat.le_refl w.heap.size) #[.int .i64 0, .int .i64 0, .int .i64 0, .string ⟨#[]⟩, .string ⟨#[]⟩, .int .i64 0, .int .i64 0, .int .i64 0, .string ⟨#[]⟩, .int .i64 0, .int .i64 0, .slice none 0 0]
    exact ⟨zr, 11, none, 0, 0, rfl, rfl, fun _ => ⟨rfl, rfl⟩, MvAt.nil _ _, hbb, .inr ⟨HDR.out, rfl, rfl⟩⟩
set_option maxHeartbeats 1600000 in
theorem rdec_11 (s : ByteArray) (hs : s.size ≤ 100000) (w : World) (e0 : (headD s.data.toList).r.k = 11) : Calls Tryd.prog 17 #[.string s] w (DecPost (decD limQ s.data.toList) w) := by
  have H0 := Lib.hid (below_alloc w (.cells #[.int .i64 0, .int .i64 0, .int .i64 0, .string ⟨#[]⟩, .string ⟨#[]⟩, .int .i64 0, .int .i64 0, .int .i64 0, .string ⟨#[]⟩, .int .i64 0, .int .i64 0, .slice none 0 0] 24))
  have HR : Hid ((w.alloc (.cells #[.int .i64 0, .int .i64 0, .int .i64 0, .string ⟨#[]⟩, .string ⟨#[]⟩, .int .i64 0, .int .i64 0, .int .i64 0, .string ⟨#[]⟩, .int .i64 0, .int .i64 0, .slice none 0 0] 24)).heap[w.heap.size]? = some (.cells #[.int .i64 0, .int .i64 0, .int .i64 0, .string ⟨#[]⟩, .string ⟨#[]⟩, .int .i64 0, .int .i64 0, .int .i64 0, .string ⟨#[]⟩, .int .i64 0, .int .i64 0, .slice none 0 0] 24 (0, 0))) := Lib.hid (heap_alloc_new w _)
  generalize hS : s.data.toList = S at e0 ⊢
  have HSS := Lib.hid hS
  obtain ⟨D0, hD0⟩ : ∃ D : Dn, D = ⟨S, false, zr⟩ := ⟨_, rfl⟩
  obtain ⟨D1, hD1⟩ : ∃ D : Dn, D = numD 1 D0 (fun v r => { r with k := v }) := ⟨_, rfl⟩
  obtain ⟨x1, hx1⟩ : ∃ x, x = numA D0.l D0.sp 1 := ⟨_, rfl⟩
  obtain ⟨D2, hD2⟩ : ∃ D : Dn, D = numD 1 D1 (fun v r => { r with cl := v }) := ⟨_, rfl⟩
  obtain ⟨x2, hx2⟩ : ∃ x, x = numA D1.l D1.sp 1 := ⟨_, rfl⟩
  obtain ⟨D3, hD3⟩ : ∃ D : Dn, D = numD 4 D2 (fun v r => { r with sq := v }) := ⟨_, rfl⟩
  obtain ⟨x3, hx3⟩ : ∃ x, x = numA D2.l D2.sp 4 := ⟨_, rfl⟩
  obtain ⟨D4, hD4⟩ : ∃ D : Dn, D = numD 8 D3 (fun v r => { r with tk := v }) := ⟨_, rfl⟩
  obtain ⟨x4, hx4⟩ : ∃ x, x = numA D3.l D3.sp 8 := ⟨_, rfl⟩
  have h3 : D3 = headD S := by rw [hD3, hD2, hD1, hD0]; rfl
  have HKC : Hid (D2.r.k = x1) := Lib.hid (by rw [hD2, hD1, hx1]; rfl)
  have ek : (headD S).r.k = x1 := by rw [← h3, hD3]; exact HKC.out
  rw [ek] at e0
  have HDE : Hid (D4 = decD limQ S) := Lib.hid (by
    unfold decD
    rw [ek, e0, show (fieldsOf 11).data.toList = [107] from by decide, ← h3]
    show _ = (getD limQ 107 D3)
    rw [getD_107, hD4]
    all_goals rfl)
  have HE0 := Lib.hid hD0
  have HE1 := Lib.hid hD1
  have HE2 := Lib.hid hD2
  have HE3 := Lib.hid hD3
  have HE4 := Lib.hid hD4
  have HX1 := Lib.hid hx1
  have HX2 := Lib.hid hx2
  have HX3 := Lib.hid hx3
  have HX4 := Lib.hid hx4
  have q1 : (x1 == 1) = false := by rw [e0]; rfl
  have q2 : (x1 == 2) = false := by rw [e0]; rfl
  have q3 : (x1 == 3) = false := by rw [e0]; rfl
  have q4 : (x1 == 4) = false := by rw [e0]; rfl
  have q5 : (x1 == 5) = false := by rw [e0]; rfl
  have q6 : (x1 == 6) = false := by rw [e0]; rfl
  have q7 : (x1 == 7) = false := by rw [e0]; rfl
  have q8 : (x1 == 8) = false := by rw [e0]; rfl
  have q9 : (x1 == 9) = false := by rw [e0]; rfl
  have q10 : (x1 == 10) = false := by rw [e0]; rfl
  have q11 : (x1 == 11) = true := by rw [e0]; rfl
  have q12 : (x1 == 12) = false := by rw [e0]; rfl
  have q13 : (x1 == 13) = false := by rw [e0]; rfl
  have q14 : (x1 == 14) = false := by rw [e0]; rfl
  clear e0 hS h3 ek hD0 hD1 hD2 hD3 hD4 hx1 hx2 hx3 hx4
  go_enter Tryd.func17, Tryd.ntmps17
  go_wp2_with fail
  go_at_call 38
  refine (ropen_any s _).mono ?_
  rintro e w1 ⟨rfl, hp, hb, hz⟩
  clear hz
  rw [alloc_size] at hp hb
  have HD0 : Hid (RDecAt (w.heap.size + 1) (w.heap.size + 1) w1.heap.size D0 (.slice none 0 0) (w.alloc (.cells #[.int .i64 0, .int .i64 0, .int .i64 0, .string ⟨#[]⟩, .string ⟨#[]⟩, .int .i64 0, .int .i64 0, .int .i64 0, .string ⟨#[]⟩, .int .i64 0, .int .i64 0, .slice none 0 0] 24)) (w1.alloc (.cells #[.int .i64 0, .int .i64 0, .int .i64 0, .string ⟨#[]⟩, .string ⟨#[]⟩, .int .i64 0, .int .i64 0, .int .i64 0, .string ⟨#[]⟩, .int .i64 0, .int .i64 0, .slice none 0 0] 24))) := Lib.hid (by
    rw [HE0.out]
    exact RDecAt.start hb (by have hh := hb.size; rw [alloc_size] at hh; exact hh) (Nat.le_refl _) ⟨s, 0, hp, by omega, by omega, fun _ => by rw [HSS.out]; rfl⟩)
  clear hp hb
  go_wp2_with fail
  generalize w1.alloc (.cells #[.int .i64 0, .int .i64 0, .int .i64 0, .string ⟨#[]⟩, .string ⟨#[]⟩, .int .i64 0, .int .i64 0, .int .i64 0, .string ⟨#[]⟩, .int .i64 0, .int .i64 0, .slice none 0 0] 24) = v0 at HD0 ⊢
  generalize w1.heap.size = ob at HD0 ⊢
  go_at_call 39
  refine (num_as HX1.out (vnum_any _ _ _ 1 _ HD0.out.un)).mono ?_
  rintro e u1 ⟨rfl, hu, ho, hz⟩
  clear hz
  have HD1 := Lib.hid (HD0.out.numS hu ho HX1.out 2 (fun v r => { r with k := v }) HE1.out (fun _ => rfl) (fun _ => rfl))
  have hx := (HD0.out.num hu ho).bx
  have fj := hx.free 2
  obtain ⟨d0, d1, d2, d3, d4, d5, d6, d7, d8, d9, d10, d11⟩ := hx.cells
  clear hu ho hx d0 d1 d3 d4 d5 d6 d7 d8 d9 d10 d11
  go_wp2_with fail
  generalize u1.setCell ⟨ob, 2, none⟩ (.int .i64 x1) = v1 at HD1 ⊢
  clear fj d2 HD0
  go_at_call 39
  refine (num_as HX2.out (vnum_any _ _ _ 1 _ HD1.out.un)).mono ?_
  rintro e u2 ⟨rfl, hu, ho, hz⟩
  clear hz
  have HD2 := Lib.hid (HD1.out.numS hu ho HX2.out 0 (fun v r => { r with cl := v }) HE2.out (fun _ => rfl) (fun _ => rfl))
  have hx := (HD1.out.num hu ho).bx
  have fj := hx.free 0
  obtain ⟨d0, d1, d2, d3, d4, d5, d6, d7, d8, d9, d10, d11⟩ := hx.cells
  clear hu ho hx d1 d2 d3 d4 d5 d6 d7 d8 d9 d10 d11
  go_wp2_with fail
  generalize u2.setCell ⟨ob, 0, none⟩ (.int .i64 x2) = v2 at HD2 ⊢
  clear fj d0 HD1
  go_at_call 39
  refine (num_as HX3.out (vnum_any _ _ _ 4 _ HD2.out.un)).mono ?_
  rintro e u3 ⟨rfl, hu, ho, hz⟩
  clear hz
  have HD3 := Lib.hid (HD2.out.numS hu ho HX3.out 1 (fun v r => { r with sq := v }) HE3.out (fun _ => rfl) (fun _ => rfl))
  have hx := (HD2.out.num hu ho).bx
  have fj := hx.free 1
  obtain ⟨d0, d1, d2, d3, d4, d5, d6, d7, d8, d9, d10, d11⟩ := hx.cells
  rw [HKC.out] at d2
  clear hu ho hx d0 d3 d4 d5 d6 d7 d8 d9 d10 d11
  go_wp2_with fail
  generalize u3.setCell ⟨ob, 1, none⟩ (.int .i64 x3) = v3 at HD3 ⊢
  clear fj d1 d2 HD2
  go_at_call 39
  refine (num_as HX4.out (vnum_any _ _ _ 8 _ HD3.out.un)).mono ?_
  rintro e u4 ⟨rfl, hu, ho, hz⟩
  clear hz
  have HD4 := Lib.hid (HD3.out.numS hu ho HX4.out 9 (fun v r => { r with tk := v }) HE4.out (fun _ => rfl) (fun _ => rfl))
  have hx := (HD3.out.num hu ho).bx
  have fj := hx.free 9
  obtain ⟨d0, d1, d2, d3, d4, d5, d6, d7, d8, d9, d10, d11⟩ := hx.cells
  clear hu ho hx d0 d1 d2 d3 d4 d5 d6 d7 d8 d10 d11
  go_wp2_with fail
  generalize u4.setCell ⟨ob, 9, none⟩ (.int .i64 x4) = v4 at HD4 ⊢
  clear fj d9 HD3
  obtain ⟨vz, HD⟩ : ∃ vz, Hid (RDecAt (w.heap.size + 1) (w.heap.size + 1) ob D4 vz (w.alloc (.cells #[.int .i64 0, .int .i64 0, .int .i64 0, .string ⟨#[]⟩, .string ⟨#[]⟩, .int .i64 0, .int .i64 0, .int .i64 0, .string ⟨#[]⟩, .int .i64 0, .int .i64 0, .slice none 0 0] 24)) v4) := ⟨_, HD4⟩
  clear HD4 HE0 HE1 HE2 HE3 HE4 HX1 HX2 HX3 HX4 HKC HSS q1 q2 q3 q4 q5 q6 q7 q8 q9 q10 q11 q12 q13 q14
  have HT := HD
  rw [HDE.out] at HT
  have HFIT := Lib.hid (dec_fit limQ limQ_b S)
  generalize decD limQ S = D at *
  by_cases he : endA D.l D.sp = 0
  · have hE : (endA D.l D.sp != 0) = false := by rw [he]; rfl
    have HE := Lib.hid he
    clear he
    cases hg : goodB D.r with
    | true =>
      have HG := Lib.hid hg
      have HDR : Hid (decR D = some D.r) := Lib.hid (by unfold decR; rw [if_pos ⟨HE.out, hg⟩])
      clear hg
      go_at_call 41
      refine (vend_is _ _ _ _ HT.out.un).mono ?_
      rintro e w8 ⟨rfl, hb8⟩
      have HT8 := Lib.hid (HT.out.keep hb8)
      clear hb8
      obtain ⟨oz, cz, rfl, hcz1, hcz2, hcz3⟩ := HT8.out.row.form
      have HFORM : Hid (oz = none → D.r.m.length = 0 ∧ cz = 0) := Lib.hid hcz3
      clear hcz1 hcz2 hcz3
      have hx := HT8.out.bx
      obtain ⟨f0, f1, f2, f3, f4, f5, f6, f7, f8, f9, f10, f11⟩ := hx.cells
      have HMV : Hid (MvAt w8 oz D.r.m) := Lib.hid (RowK.pts encM_len (by decide) HT8.out.row)
      have HRES : Hid (w8.heap[w.heap.size]? = some (.cells #[.int .i64 0, .int .i64 0, .int .i64 0, .string ⟨#[]⟩, .string ⟨#[]⟩, .int .i64 0, .int .i64 0, .int .i64 0, .string ⟨#[]⟩, .int .i64 0, .int .i64 0, .slice none 0 0] 24 (0, 0))) := Lib.hid ((HT8.out.low.block w.heap.size (by simp)).trans HR.out)
      have HLOW : Hid (Below w.heap.size w w8) := Lib.hid (H0.out.trans (HT8.out.low.mono (by omega)))
      clear hx
      go_wp2_with (first
        | (refine wpList_store_row rfl 24 (Operand.tmp 2) _ rfl w.heap.size _ rfl rfl 24 _ ((HB9.out.block w.heap.size (lt_of_block HRES.out)).trans HRES.out) opSize rfl (by simp [Value.oneCell']) ?_)
        | (go_at_call 14; refine (rgood_any D.r HFIT.out oz _ cz rfl _ HMV.out).mono ?_; rintro e w9 ⟨hge, hb9⟩; rw [HG.out] at hge; subst hge; have HB9 := Lib.hid hb9; have hx9 := HT8.out.bx.keep hb9; obtain ⟨g0, g1, g2, g3, g4, g5, g6, g7, g8, g9, g10, g11⟩ := hx9.cells; clear hb9 hx9 f0 f1 f2 f3 f4 f5 f6 f7 f8 f9 f10 f11))
      refine ret_row (p := 2) (u := 3) rfl rfl rfl (setRow_heap _ _ _ _ _ _ ((HB9.out.block w.heap.size (lt_of_block HRES.out)).trans HRES.out)) Tryd.underlying24 rfl opSize ?_
      have hbb := below_setRow (bstep HLOW.out HB9.out) (Nat.le_refl w.heap.size) #[.int .i64 D.r.cl, .int .i64 D.r.sq, .int .i64 D.r.k, .string D.r.p, .string D.r.t, .int .i64 D.r.sz, .int .i64 D.r.h, .int .i64 D.r.o, .string D.r.d, .int .i64 D.r.tk, .int .i64 D.r.i, .slice oz D.r.m.length cz]
      exact ⟨D.r, 0, oz, _, cz, rfl, rfl, HFORM.out, (HMV.out.grow HB9.out).only (setRow_only _ _ _) (fun a ha => by have hh := (own_base HT8.out.row).1 a ha; omega), hbb, .inl ⟨HDR.out, rfl⟩⟩
    | false =>
      have HG := Lib.hid hg
      have HDR : Hid (decR D = none) := Lib.hid (by unfold decR; rw [if_neg (fun h => by rw [hg] at h; cases h.2)])
      clear hg
      go_at_call 41
      refine (vend_is _ _ _ _ HT.out.un).mono ?_
      rintro e w8 ⟨rfl, hb8⟩
      have HT8 := Lib.hid (HT.out.keep hb8)
      clear hb8
      obtain ⟨oz, cz, rfl, hcz1, hcz2, hcz3⟩ := HT8.out.row.form
      have HFORM : Hid (oz = none → D.r.m.length = 0 ∧ cz = 0) := Lib.hid hcz3
      clear hcz1 hcz2 hcz3
      have hx := HT8.out.bx
      obtain ⟨f0, f1, f2, f3, f4, f5, f6, f7, f8, f9, f10, f11⟩ := hx.cells
      have HMV : Hid (MvAt w8 oz D.r.m) := Lib.hid (RowK.pts encM_len (by decide) HT8.out.row)
      have HRES : Hid (w8.heap[w.heap.size]? = some (.cells #[.int .i64 0, .int .i64 0, .int .i64 0, .string ⟨#[]⟩, .string ⟨#[]⟩, .int .i64 0, .int .i64 0, .int .i64 0, .string ⟨#[]⟩, .int .i64 0, .int .i64 0, .slice none 0 0] 24 (0, 0))) := Lib.hid ((HT8.out.low.block w.heap.size (by simp)).trans HR.out)
      have HLOW : Hid (Below w.heap.size w w8) := Lib.hid (H0.out.trans (HT8.out.low.mono (by omega)))
      clear hx
      go_wp2_with (first
        | (refine wpList_store_row rfl 24 (Operand.tmp 2) _ rfl w.heap.size _ rfl rfl 24 _ ((HB9.out.block w.heap.size (lt_of_block HRES.out)).trans HRES.out) opSize rfl (by simp [Value.oneCell']) ?_)
        | (go_at_call 14; refine (rgood_any D.r HFIT.out oz _ cz rfl _ HMV.out).mono ?_; rintro e w9 ⟨hge, hb9⟩; rw [HG.out] at hge; subst hge; have HB9 := Lib.hid hb9; clear hb9 f0 f1 f2 f3 f4 f5 f6 f7 f8 f9 f10 f11))
      refine ret_row (p := 2) (u := 3) rfl rfl rfl (setRow_heap _ _ _ _ _ _ ((HB9.out.block w.heap.size (lt_of_block HRES.out)).trans HRES.out)) Tryd.underlying24 rfl opSize ?_
      have hbb := below_setRow (bstep HLOW.out HB9.out) (Nat.le_refl w.heap.size) #[.int .i64 0, .int .i64 0, .int .i64 0, .string ⟨#[]⟩, .string ⟨#[]⟩, .int .i64 0, .int .i64 0, .int .i64 0, .string ⟨#[]⟩, .int .i64 0, .int .i64 0, .slice none 0 0]
      exact ⟨zr, 11, none, 0, 0, rfl, rfl, fun _ => ⟨rfl, rfl⟩, MvAt.nil _ _, hbb, .inr ⟨HDR.out, rfl, rfl⟩⟩
  · have hE : (endA D.l D.sp != 0) = true := bne_iff_ne.2 he
    have HDR : Hid (decR D = none) := Lib.hid (by unfold decR; rw [if_neg (fun h => he h.1)])
    clear he
    go_at_call 41
    refine (vend_is _ _ _ _ HT.out.un).mono ?_
    rintro e w8 ⟨rfl, hb8⟩
    have HT8 := Lib.hid (HT.out.keep hb8)
    clear hb8
    obtain ⟨oz, cz, rfl, hcz1, hcz2, hcz3⟩ := HT8.out.row.form
    have HFORM : Hid (oz = none → D.r.m.length = 0 ∧ cz = 0) := Lib.hid hcz3
    clear hcz1 hcz2 hcz3
    have hx := HT8.out.bx
    obtain ⟨f0, f1, f2, f3, f4, f5, f6, f7, f8, f9, f10, f11⟩ := hx.cells
    have HMV : Hid (MvAt w8 oz D.r.m) := Lib.hid (RowK.pts encM_len (by decide) HT8.out.row)
    have HRES : Hid (w8.heap[w.heap.size]? = some (.cells #[.int .i64 0, .int .i64 0, .int .i64 0, .string ⟨#[]⟩, .string ⟨#[]⟩, .int .i64 0, .int .i64 0, .int .i64 0, .string ⟨#[]⟩, .int .i64 0, .int .i64 0, .slice none 0 0] 24 (0, 0))) := Lib.hid ((HT8.out.low.block w.heap.size (by simp)).trans HR.out)
    have HLOW : Hid (Below w.heap.size w w8) := Lib.hid (H0.out.trans (HT8.out.low.mono (by omega)))
    clear hx
    go_wp2_with (first
      | (refine wpList_store_row rfl 24 (Operand.tmp 2) _ rfl w.heap.size _ rfl rfl 24 _ HRES.out opSize rfl (by simp [Value.oneCell']) ?_))
    refine ret_row (p := 2) (u := 3) rfl rfl rfl (setRow_heap _ _ _ _ _ _ HRES.out) Tryd.underlying24 rfl opSize ?_
    have hbb := below_setRow HLOW.out (Nat.le_refl w.heap.size) #[.int .i64 0, .int .i64 0, .int .i64 0, .string ⟨#[]⟩, .string ⟨#[]⟩, .int .i64 0, .int .i64 0, .int .i64 0, .string ⟨#[]⟩, .int .i64 0, .int .i64 0, .slice none 0 0]
    exact ⟨zr, 11, none, 0, 0, rfl, rfl, fun _ => ⟨rfl, rfl⟩, MvAt.nil _ _, hbb, .inr ⟨HDR.out, rfl, rfl⟩⟩
set_option maxHeartbeats 1600000 in
theorem rdec_12 (s : ByteArray) (hs : s.size ≤ 100000) (w : World) (e0 : (headD s.data.toList).r.k = 12) : Calls Tryd.prog 17 #[.string s] w (DecPost (decD limQ s.data.toList) w) := by
  have H0 := Lib.hid (below_alloc w (.cells #[.int .i64 0, .int .i64 0, .int .i64 0, .string ⟨#[]⟩, .string ⟨#[]⟩, .int .i64 0, .int .i64 0, .int .i64 0, .string ⟨#[]⟩, .int .i64 0, .int .i64 0, .slice none 0 0] 24))
  have HR : Hid ((w.alloc (.cells #[.int .i64 0, .int .i64 0, .int .i64 0, .string ⟨#[]⟩, .string ⟨#[]⟩, .int .i64 0, .int .i64 0, .int .i64 0, .string ⟨#[]⟩, .int .i64 0, .int .i64 0, .slice none 0 0] 24)).heap[w.heap.size]? = some (.cells #[.int .i64 0, .int .i64 0, .int .i64 0, .string ⟨#[]⟩, .string ⟨#[]⟩, .int .i64 0, .int .i64 0, .int .i64 0, .string ⟨#[]⟩, .int .i64 0, .int .i64 0, .slice none 0 0] 24 (0, 0))) := Lib.hid (heap_alloc_new w _)
  generalize hS : s.data.toList = S at e0 ⊢
  have HSS := Lib.hid hS
  obtain ⟨D0, hD0⟩ : ∃ D : Dn, D = ⟨S, false, zr⟩ := ⟨_, rfl⟩
  obtain ⟨D1, hD1⟩ : ∃ D : Dn, D = numD 1 D0 (fun v r => { r with k := v }) := ⟨_, rfl⟩
  obtain ⟨x1, hx1⟩ : ∃ x, x = numA D0.l D0.sp 1 := ⟨_, rfl⟩
  obtain ⟨D2, hD2⟩ : ∃ D : Dn, D = numD 1 D1 (fun v r => { r with cl := v }) := ⟨_, rfl⟩
  obtain ⟨x2, hx2⟩ : ∃ x, x = numA D1.l D1.sp 1 := ⟨_, rfl⟩
  obtain ⟨D3, hD3⟩ : ∃ D : Dn, D = numD 4 D2 (fun v r => { r with sq := v }) := ⟨_, rfl⟩
  obtain ⟨x3, hx3⟩ : ∃ x, x = numA D2.l D2.sp 4 := ⟨_, rfl⟩
  obtain ⟨D4, hD4⟩ : ∃ D : Dn, D = numD 8 D3 (fun v r => { r with tk := v }) := ⟨_, rfl⟩
  obtain ⟨x4, hx4⟩ : ∃ x, x = numA D3.l D3.sp 8 := ⟨_, rfl⟩
  have h3 : D3 = headD S := by rw [hD3, hD2, hD1, hD0]; rfl
  have HKC : Hid (D2.r.k = x1) := Lib.hid (by rw [hD2, hD1, hx1]; rfl)
  have ek : (headD S).r.k = x1 := by rw [← h3, hD3]; exact HKC.out
  rw [ek] at e0
  have HDE : Hid (D4 = decD limQ S) := Lib.hid (by
    unfold decD
    rw [ek, e0, show (fieldsOf 12).data.toList = [107] from by decide, ← h3]
    show _ = (getD limQ 107 D3)
    rw [getD_107, hD4]
    all_goals rfl)
  have HE0 := Lib.hid hD0
  have HE1 := Lib.hid hD1
  have HE2 := Lib.hid hD2
  have HE3 := Lib.hid hD3
  have HE4 := Lib.hid hD4
  have HX1 := Lib.hid hx1
  have HX2 := Lib.hid hx2
  have HX3 := Lib.hid hx3
  have HX4 := Lib.hid hx4
  have q1 : (x1 == 1) = false := by rw [e0]; rfl
  have q2 : (x1 == 2) = false := by rw [e0]; rfl
  have q3 : (x1 == 3) = false := by rw [e0]; rfl
  have q4 : (x1 == 4) = false := by rw [e0]; rfl
  have q5 : (x1 == 5) = false := by rw [e0]; rfl
  have q6 : (x1 == 6) = false := by rw [e0]; rfl
  have q7 : (x1 == 7) = false := by rw [e0]; rfl
  have q8 : (x1 == 8) = false := by rw [e0]; rfl
  have q9 : (x1 == 9) = false := by rw [e0]; rfl
  have q10 : (x1 == 10) = false := by rw [e0]; rfl
  have q11 : (x1 == 11) = false := by rw [e0]; rfl
  have q12 : (x1 == 12) = true := by rw [e0]; rfl
  have q13 : (x1 == 13) = false := by rw [e0]; rfl
  have q14 : (x1 == 14) = false := by rw [e0]; rfl
  clear e0 hS h3 ek hD0 hD1 hD2 hD3 hD4 hx1 hx2 hx3 hx4
  go_enter Tryd.func17, Tryd.ntmps17
  go_wp2_with fail
  go_at_call 38
  refine (ropen_any s _).mono ?_
  rintro e w1 ⟨rfl, hp, hb, hz⟩
  clear hz
  rw [alloc_size] at hp hb
  have HD0 : Hid (RDecAt (w.heap.size + 1) (w.heap.size + 1) w1.heap.size D0 (.slice none 0 0) (w.alloc (.cells #[.int .i64 0, .int .i64 0, .int .i64 0, .string ⟨#[]⟩, .string ⟨#[]⟩, .int .i64 0, .int .i64 0, .int .i64 0, .string ⟨#[]⟩, .int .i64 0, .int .i64 0, .slice none 0 0] 24)) (w1.alloc (.cells #[.int .i64 0, .int .i64 0, .int .i64 0, .string ⟨#[]⟩, .string ⟨#[]⟩, .int .i64 0, .int .i64 0, .int .i64 0, .string ⟨#[]⟩, .int .i64 0, .int .i64 0, .slice none 0 0] 24))) := Lib.hid (by
    rw [HE0.out]
    exact RDecAt.start hb (by have hh := hb.size; rw [alloc_size] at hh; exact hh) (Nat.le_refl _) ⟨s, 0, hp, by omega, by omega, fun _ => by rw [HSS.out]; rfl⟩)
  clear hp hb
  go_wp2_with fail
  generalize w1.alloc (.cells #[.int .i64 0, .int .i64 0, .int .i64 0, .string ⟨#[]⟩, .string ⟨#[]⟩, .int .i64 0, .int .i64 0, .int .i64 0, .string ⟨#[]⟩, .int .i64 0, .int .i64 0, .slice none 0 0] 24) = v0 at HD0 ⊢
  generalize w1.heap.size = ob at HD0 ⊢
  go_at_call 39
  refine (num_as HX1.out (vnum_any _ _ _ 1 _ HD0.out.un)).mono ?_
  rintro e u1 ⟨rfl, hu, ho, hz⟩
  clear hz
  have HD1 := Lib.hid (HD0.out.numS hu ho HX1.out 2 (fun v r => { r with k := v }) HE1.out (fun _ => rfl) (fun _ => rfl))
  have hx := (HD0.out.num hu ho).bx
  have fj := hx.free 2
  obtain ⟨d0, d1, d2, d3, d4, d5, d6, d7, d8, d9, d10, d11⟩ := hx.cells
  clear hu ho hx d0 d1 d3 d4 d5 d6 d7 d8 d9 d10 d11
  go_wp2_with fail
  generalize u1.setCell ⟨ob, 2, none⟩ (.int .i64 x1) = v1 at HD1 ⊢
  clear fj d2 HD0
  go_at_call 39
  refine (num_as HX2.out (vnum_any _ _ _ 1 _ HD1.out.un)).mono ?_
  rintro e u2 ⟨rfl, hu, ho, hz⟩
  clear hz
  have HD2 := Lib.hid (HD1.out.numS hu ho HX2.out 0 (fun v r => { r with cl := v }) HE2.out (fun _ => rfl) (fun _ => rfl))
  have hx := (HD1.out.num hu ho).bx
  have fj := hx.free 0
  obtain ⟨d0, d1, d2, d3, d4, d5, d6, d7, d8, d9, d10, d11⟩ := hx.cells
  clear hu ho hx d1 d2 d3 d4 d5 d6 d7 d8 d9 d10 d11
  go_wp2_with fail
  generalize u2.setCell ⟨ob, 0, none⟩ (.int .i64 x2) = v2 at HD2 ⊢
  clear fj d0 HD1
  go_at_call 39
  refine (num_as HX3.out (vnum_any _ _ _ 4 _ HD2.out.un)).mono ?_
  rintro e u3 ⟨rfl, hu, ho, hz⟩
  clear hz
  have HD3 := Lib.hid (HD2.out.numS hu ho HX3.out 1 (fun v r => { r with sq := v }) HE3.out (fun _ => rfl) (fun _ => rfl))
  have hx := (HD2.out.num hu ho).bx
  have fj := hx.free 1
  obtain ⟨d0, d1, d2, d3, d4, d5, d6, d7, d8, d9, d10, d11⟩ := hx.cells
  rw [HKC.out] at d2
  clear hu ho hx d0 d3 d4 d5 d6 d7 d8 d9 d10 d11
  go_wp2_with fail
  generalize u3.setCell ⟨ob, 1, none⟩ (.int .i64 x3) = v3 at HD3 ⊢
  clear fj d1 d2 HD2
  go_at_call 39
  refine (num_as HX4.out (vnum_any _ _ _ 8 _ HD3.out.un)).mono ?_
  rintro e u4 ⟨rfl, hu, ho, hz⟩
  clear hz
  have HD4 := Lib.hid (HD3.out.numS hu ho HX4.out 9 (fun v r => { r with tk := v }) HE4.out (fun _ => rfl) (fun _ => rfl))
  have hx := (HD3.out.num hu ho).bx
  have fj := hx.free 9
  obtain ⟨d0, d1, d2, d3, d4, d5, d6, d7, d8, d9, d10, d11⟩ := hx.cells
  clear hu ho hx d0 d1 d2 d3 d4 d5 d6 d7 d8 d10 d11
  go_wp2_with fail
  generalize u4.setCell ⟨ob, 9, none⟩ (.int .i64 x4) = v4 at HD4 ⊢
  clear fj d9 HD3
  obtain ⟨vz, HD⟩ : ∃ vz, Hid (RDecAt (w.heap.size + 1) (w.heap.size + 1) ob D4 vz (w.alloc (.cells #[.int .i64 0, .int .i64 0, .int .i64 0, .string ⟨#[]⟩, .string ⟨#[]⟩, .int .i64 0, .int .i64 0, .int .i64 0, .string ⟨#[]⟩, .int .i64 0, .int .i64 0, .slice none 0 0] 24)) v4) := ⟨_, HD4⟩
  clear HD4 HE0 HE1 HE2 HE3 HE4 HX1 HX2 HX3 HX4 HKC HSS q1 q2 q3 q4 q5 q6 q7 q8 q9 q10 q11 q12 q13 q14
  have HT := HD
  rw [HDE.out] at HT
  have HFIT := Lib.hid (dec_fit limQ limQ_b S)
  generalize decD limQ S = D at *
  by_cases he : endA D.l D.sp = 0
  · have hE : (endA D.l D.sp != 0) = false := by rw [he]; rfl
    have HE := Lib.hid he
    clear he
    cases hg : goodB D.r with
    | true =>
      have HG := Lib.hid hg
      have HDR : Hid (decR D = some D.r) := Lib.hid (by unfold decR; rw [if_pos ⟨HE.out, hg⟩])
      clear hg
      go_at_call 41
      refine (vend_is _ _ _ _ HT.out.un).mono ?_
      rintro e w8 ⟨rfl, hb8⟩
      have HT8 := Lib.hid (HT.out.keep hb8)
      clear hb8
      obtain ⟨oz, cz, rfl, hcz1, hcz2, hcz3⟩ := HT8.out.row.form
      have HFORM : Hid (oz = none → D.r.m.length = 0 ∧ cz = 0) := Lib.hid hcz3
      clear hcz1 hcz2 hcz3
      have hx := HT8.out.bx
      obtain ⟨f0, f1, f2, f3, f4, f5, f6, f7, f8, f9, f10, f11⟩ := hx.cells
      have HMV : Hid (MvAt w8 oz D.r.m) := Lib.hid (RowK.pts encM_len (by decide) HT8.out.row)
      have HRES : Hid (w8.heap[w.heap.size]? = some (.cells #[.int .i64 0, .int .i64 0, .int .i64 0, .string ⟨#[]⟩, .string ⟨#[]⟩, .int .i64 0, .int .i64 0, .int .i64 0, .string ⟨#[]⟩, .int .i64 0, .int .i64 0, .slice none 0 0] 24 (0, 0))) := Lib.hid ((HT8.out.low.block w.heap.size (by simp)).trans HR.out)
      have HLOW : Hid (Below w.heap.size w w8) := Lib.hid (H0.out.trans (HT8.out.low.mono (by omega)))
      clear hx
      go_wp2_with (first
        | (refine wpList_store_row rfl 24 (Operand.tmp 2) _ rfl w.heap.size _ rfl rfl 24 _ ((HB9.out.block w.heap.size (lt_of_block HRES.out)).trans HRES.out) opSize rfl (by simp [Value.oneCell']) ?_)
        | (go_at_call 14; refine (rgood_any D.r HFIT.out oz _ cz rfl _ HMV.out).mono ?_; rintro e w9 ⟨hge, hb9⟩; rw [HG.out] at hge; subst hge; have HB9 := Lib.hid hb9; have hx9 := HT8.out.bx.keep hb9; obtain ⟨g0, g1, g2, g3, g4, g5, g6, g7, g8, g9, g10, g11⟩ := hx9.cells; clear hb9 hx9 f0 f1 f2 f3 f4 f5 f6 f7 f8 f9 f10 f11))
      refine ret_row (p := 2) (u := 3) rfl rfl rfl (setRow_heap _ _ _ _ _ _ ((HB9.out.block w.heap.size (lt_of_block HRES.out)).trans HRES.out)) Tryd.underlying24 rfl opSize ?_
      have hbb := below_setRow (bstep HLOW.out HB9.out) (Nat.le_refl w.heap.size) #[.int .i64 D.r.cl, .int .i64 D.r.sq, .int .i64 D.r.k, .string D.r.p, .string D.r.t, .int .i64 D.r.sz, .int .i64 D.r.h, .int .i64 D.r.o, .string D.r.d, .int .i64 D.r.tk, .int .i64 D.r.i, .slice oz D.r.m.length cz]
      exact ⟨D.r, 0, oz, _, cz, rfl, rfl, HFORM.out, (HMV.out.grow HB9.out).only (setRow_only _ _ _) (fun a ha => by have hh := (own_base HT8.out.row).1 a ha; omega), hbb, .inl ⟨HDR.out, rfl⟩⟩
    | false =>
      have HG := Lib.hid hg
      have HDR : Hid (decR D = none) := Lib.hid (by unfold decR; rw [if_neg (fun h => by rw [hg] at h; cases h.2)])
      clear hg
      go_at_call 41
      refine (vend_is _ _ _ _ HT.out.un).mono ?_
      rintro e w8 ⟨rfl, hb8⟩
      have HT8 := Lib.hid (HT.out.keep hb8)
      clear hb8
      obtain ⟨oz, cz, rfl, hcz1, hcz2, hcz3⟩ := HT8.out.row.form
      have HFORM : Hid (oz = none → D.r.m.length = 0 ∧ cz = 0) := Lib.hid hcz3
      clear hcz1 hcz2 hcz3
      have hx := HT8.out.bx
      obtain ⟨f0, f1, f2, f3, f4, f5, f6, f7, f8, f9, f10, f11⟩ := hx.cells
      have HMV : Hid (MvAt w8 oz D.r.m) := Lib.hid (RowK.pts encM_len (by decide) HT8.out.row)
      have HRES : Hid (w8.heap[w.heap.size]? = some (.cells #[.int .i64 0, .int .i64 0, .int .i64 0, .string ⟨#[]⟩, .string ⟨#[]⟩, .int .i64 0, .int .i64 0, .int .i64 0, .string ⟨#[]⟩, .int .i64 0, .int .i64 0, .slice none 0 0] 24 (0, 0))) := Lib.hid ((HT8.out.low.block w.heap.size (by simp)).trans HR.out)
      have HLOW : Hid (Below w.heap.size w w8) := Lib.hid (H0.out.trans (HT8.out.low.mono (by omega)))
      clear hx
      go_wp2_with (first
        | (refine wpList_store_row rfl 24 (Operand.tmp 2) _ rfl w.heap.size _ rfl rfl 24 _ ((HB9.out.block w.heap.size (lt_of_block HRES.out)).trans HRES.out) opSize rfl (by simp [Value.oneCell']) ?_)
        | (go_at_call 14; refine (rgood_any D.r HFIT.out oz _ cz rfl _ HMV.out).mono ?_; rintro e w9 ⟨hge, hb9⟩; rw [HG.out] at hge; subst hge; have HB9 := Lib.hid hb9; clear hb9 f0 f1 f2 f3 f4 f5 f6 f7 f8 f9 f10 f11))
      refine ret_row (p := 2) (u := 3) rfl rfl rfl (setRow_heap _ _ _ _ _ _ ((HB9.out.block w.heap.size (lt_of_block HRES.out)).trans HRES.out)) Tryd.underlying24 rfl opSize ?_
      have hbb := below_setRow (bstep HLOW.out HB9.out) (Nat.le_refl w.heap.size) #[.int .i64 0, .int .i64 0, .int .i64 0, .string ⟨#[]⟩, .string ⟨#[]⟩, .int .i64 0, .int .i64 0, .int .i64 0, .string ⟨#[]⟩, .int .i64 0, .int .i64 0, .slice none 0 0]
      exact ⟨zr, 11, none, 0, 0, rfl, rfl, fun _ => ⟨rfl, rfl⟩, MvAt.nil _ _, hbb, .inr ⟨HDR.out, rfl, rfl⟩⟩
  · have hE : (endA D.l D.sp != 0) = true := bne_iff_ne.2 he
    have HDR : Hid (decR D = none) := Lib.hid (by unfold decR; rw [if_neg (fun h => he h.1)])
    clear he
    go_at_call 41
    refine (vend_is _ _ _ _ HT.out.un).mono ?_
    rintro e w8 ⟨rfl, hb8⟩
    have HT8 := Lib.hid (HT.out.keep hb8)
    clear hb8
    obtain ⟨oz, cz, rfl, hcz1, hcz2, hcz3⟩ := HT8.out.row.form
    have HFORM : Hid (oz = none → D.r.m.length = 0 ∧ cz = 0) := Lib.hid hcz3
    clear hcz1 hcz2 hcz3
    have hx := HT8.out.bx
    obtain ⟨f0, f1, f2, f3, f4, f5, f6, f7, f8, f9, f10, f11⟩ := hx.cells
    have HMV : Hid (MvAt w8 oz D.r.m) := Lib.hid (RowK.pts encM_len (by decide) HT8.out.row)
    have HRES : Hid (w8.heap[w.heap.size]? = some (.cells #[.int .i64 0, .int .i64 0, .int .i64 0, .string ⟨#[]⟩, .string ⟨#[]⟩, .int .i64 0, .int .i64 0, .int .i64 0, .string ⟨#[]⟩, .int .i64 0, .int .i64 0, .slice none 0 0] 24 (0, 0))) := Lib.hid ((HT8.out.low.block w.heap.size (by simp)).trans HR.out)
    have HLOW : Hid (Below w.heap.size w w8) := Lib.hid (H0.out.trans (HT8.out.low.mono (by omega)))
    clear hx
    go_wp2_with (first
      | (refine wpList_store_row rfl 24 (Operand.tmp 2) _ rfl w.heap.size _ rfl rfl 24 _ HRES.out opSize rfl (by simp [Value.oneCell']) ?_))
    refine ret_row (p := 2) (u := 3) rfl rfl rfl (setRow_heap _ _ _ _ _ _ HRES.out) Tryd.underlying24 rfl opSize ?_
    have hbb := below_setRow HLOW.out (Nat.le_refl w.heap.size) #[.int .i64 0, .int .i64 0, .int .i64 0, .string ⟨#[]⟩, .string ⟨#[]⟩, .int .i64 0, .int .i64 0, .int .i64 0, .string ⟨#[]⟩, .int .i64 0, .int .i64 0, .slice none 0 0]
    exact ⟨zr, 11, none, 0, 0, rfl, rfl, fun _ => ⟨rfl, rfl⟩, MvAt.nil _ _, hbb, .inr ⟨HDR.out, rfl, rfl⟩⟩
set_option maxHeartbeats 1600000 in
theorem rdec_14 (s : ByteArray) (hs : s.size ≤ 100000) (w : World) (e0 : (headD s.data.toList).r.k = 14) : Calls Tryd.prog 17 #[.string s] w (DecPost (decD limQ s.data.toList) w) := by
  have H0 := Lib.hid (below_alloc w (.cells #[.int .i64 0, .int .i64 0, .int .i64 0, .string ⟨#[]⟩, .string ⟨#[]⟩, .int .i64 0, .int .i64 0, .int .i64 0, .string ⟨#[]⟩, .int .i64 0, .int .i64 0, .slice none 0 0] 24))
  have HR : Hid ((w.alloc (.cells #[.int .i64 0, .int .i64 0, .int .i64 0, .string ⟨#[]⟩, .string ⟨#[]⟩, .int .i64 0, .int .i64 0, .int .i64 0, .string ⟨#[]⟩, .int .i64 0, .int .i64 0, .slice none 0 0] 24)).heap[w.heap.size]? = some (.cells #[.int .i64 0, .int .i64 0, .int .i64 0, .string ⟨#[]⟩, .string ⟨#[]⟩, .int .i64 0, .int .i64 0, .int .i64 0, .string ⟨#[]⟩, .int .i64 0, .int .i64 0, .slice none 0 0] 24 (0, 0))) := Lib.hid (heap_alloc_new w _)
  generalize hS : s.data.toList = S at e0 ⊢
  have HSS := Lib.hid hS
  obtain ⟨D0, hD0⟩ : ∃ D : Dn, D = ⟨S, false, zr⟩ := ⟨_, rfl⟩
  obtain ⟨D1, hD1⟩ : ∃ D : Dn, D = numD 1 D0 (fun v r => { r with k := v }) := ⟨_, rfl⟩
  obtain ⟨x1, hx1⟩ : ∃ x, x = numA D0.l D0.sp 1 := ⟨_, rfl⟩
  obtain ⟨D2, hD2⟩ : ∃ D : Dn, D = numD 1 D1 (fun v r => { r with cl := v }) := ⟨_, rfl⟩
  obtain ⟨x2, hx2⟩ : ∃ x, x = numA D1.l D1.sp 1 := ⟨_, rfl⟩
  obtain ⟨D3, hD3⟩ : ∃ D : Dn, D = numD 4 D2 (fun v r => { r with sq := v }) := ⟨_, rfl⟩
  obtain ⟨x3, hx3⟩ : ∃ x, x = numA D2.l D2.sp 4 := ⟨_, rfl⟩
  obtain ⟨D4, hD4⟩ : ∃ D : Dn, D = textD 65535 D3 (fun v r => { r with d := v }) := ⟨_, rfl⟩
  obtain ⟨D5, hD5⟩ : ∃ D : Dn, D = numD 4 D4 (fun v r => { r with sz := v }) := ⟨_, rfl⟩
  obtain ⟨x5, hx5⟩ : ∃ x, x = numA D4.l D4.sp 4 := ⟨_, rfl⟩
  obtain ⟨D6, hD6⟩ : ∃ D : Dn, D = numD 4 D5 (fun v r => { r with o := v }) := ⟨_, rfl⟩
  obtain ⟨x6, hx6⟩ : ∃ x, x = numA D5.l D5.sp 4 := ⟨_, rfl⟩
  have h3 : D3 = headD S := by rw [hD3, hD2, hD1, hD0]; rfl
  have HKC : Hid (D2.r.k = x1) := Lib.hid (by rw [hD2, hD1, hx1]; rfl)
  have ek : (headD S).r.k = x1 := by rw [← h3, hD3]; exact HKC.out
  rw [ek] at e0
  have HDE : Hid (D6 = decD limQ S) := Lib.hid (by
    unfold decD
    rw [ek, e0, show (fieldsOf 14).data.toList = [100, 115, 111] from by decide, ← h3]
    show _ = (getD limQ 111 (getD limQ 115 (getD limQ 100 D3)))
    rw [getD_111, getD_115, getD_100, hD6, hD5, hD4]
    all_goals rfl)
  have HE0 := Lib.hid hD0
  have HE1 := Lib.hid hD1
  have HE2 := Lib.hid hD2
  have HE3 := Lib.hid hD3
  have HE4 := Lib.hid hD4
  have HE5 := Lib.hid hD5
  have HE6 := Lib.hid hD6
  have HX1 := Lib.hid hx1
  have HX2 := Lib.hid hx2
  have HX3 := Lib.hid hx3
  have HX5 := Lib.hid hx5
  have HX6 := Lib.hid hx6
  have q1 : (x1 == 1) = false := by rw [e0]; rfl
  have q2 : (x1 == 2) = false := by rw [e0]; rfl
  have q3 : (x1 == 3) = false := by rw [e0]; rfl
  have q4 : (x1 == 4) = false := by rw [e0]; rfl
  have q5 : (x1 == 5) = false := by rw [e0]; rfl
  have q6 : (x1 == 6) = false := by rw [e0]; rfl
  have q7 : (x1 == 7) = false := by rw [e0]; rfl
  have q8 : (x1 == 8) = false := by rw [e0]; rfl
  have q9 : (x1 == 9) = false := by rw [e0]; rfl
  have q10 : (x1 == 10) = false := by rw [e0]; rfl
  have q11 : (x1 == 11) = false := by rw [e0]; rfl
  have q12 : (x1 == 12) = false := by rw [e0]; rfl
  have q13 : (x1 == 13) = false := by rw [e0]; rfl
  have q14 : (x1 == 14) = true := by rw [e0]; rfl
  clear e0 hS h3 ek hD0 hD1 hD2 hD3 hD4 hD5 hD6 hx1 hx2 hx3 hx5 hx6
  go_enter Tryd.func17, Tryd.ntmps17
  go_wp2_with fail
  go_at_call 38
  refine (ropen_any s _).mono ?_
  rintro e w1 ⟨rfl, hp, hb, hz⟩
  clear hz
  rw [alloc_size] at hp hb
  have HD0 : Hid (RDecAt (w.heap.size + 1) (w.heap.size + 1) w1.heap.size D0 (.slice none 0 0) (w.alloc (.cells #[.int .i64 0, .int .i64 0, .int .i64 0, .string ⟨#[]⟩, .string ⟨#[]⟩, .int .i64 0, .int .i64 0, .int .i64 0, .string ⟨#[]⟩, .int .i64 0, .int .i64 0, .slice none 0 0] 24)) (w1.alloc (.cells #[.int .i64 0, .int .i64 0, .int .i64 0, .string ⟨#[]⟩, .string ⟨#[]⟩, .int .i64 0, .int .i64 0, .int .i64 0, .string ⟨#[]⟩, .int .i64 0, .int .i64 0, .slice none 0 0] 24))) := Lib.hid (by
    rw [HE0.out]
    exact RDecAt.start hb (by have hh := hb.size; rw [alloc_size] at hh; exact hh) (Nat.le_refl _) ⟨s, 0, hp, by omega, by omega, fun _ => by rw [HSS.out]; rfl⟩)
  clear hp hb
  go_wp2_with fail
  generalize w1.alloc (.cells #[.int .i64 0, .int .i64 0, .int .i64 0, .string ⟨#[]⟩, .string ⟨#[]⟩, .int .i64 0, .int .i64 0, .int .i64 0, .string ⟨#[]⟩, .int .i64 0, .int .i64 0, .slice none 0 0] 24) = v0 at HD0 ⊢
  generalize w1.heap.size = ob at HD0 ⊢
  go_at_call 39
  refine (num_as HX1.out (vnum_any _ _ _ 1 _ HD0.out.un)).mono ?_
  rintro e u1 ⟨rfl, hu, ho, hz⟩
  clear hz
  have HD1 := Lib.hid (HD0.out.numS hu ho HX1.out 2 (fun v r => { r with k := v }) HE1.out (fun _ => rfl) (fun _ => rfl))
  have hx := (HD0.out.num hu ho).bx
  have fj := hx.free 2
  obtain ⟨d0, d1, d2, d3, d4, d5, d6, d7, d8, d9, d10, d11⟩ := hx.cells
  clear hu ho hx d0 d1 d3 d4 d5 d6 d7 d8 d9 d10 d11
  go_wp2_with fail
  generalize u1.setCell ⟨ob, 2, none⟩ (.int .i64 x1) = v1 at HD1 ⊢
  clear fj d2 HD0
  go_at_call 39
  refine (num_as HX2.out (vnum_any _ _ _ 1 _ HD1.out.un)).mono ?_
  rintro e u2 ⟨rfl, hu, ho, hz⟩
  clear hz
  have HD2 := Lib.hid (HD1.out.numS hu ho HX2.out 0 (fun v r => { r with cl := v }) HE2.out (fun _ => rfl) (fun _ => rfl))
  have hx := (HD1.out.num hu ho).bx
  have fj := hx.free 0
  obtain ⟨d0, d1, d2, d3, d4, d5, d6, d7, d8, d9, d10, d11⟩ := hx.cells
  clear hu ho hx d1 d2 d3 d4 d5 d6 d7 d8 d9 d10 d11
  go_wp2_with fail
  generalize u2.setCell ⟨ob, 0, none⟩ (.int .i64 x2) = v2 at HD2 ⊢
  clear fj d0 HD1
  go_at_call 39
  refine (num_as HX3.out (vnum_any _ _ _ 4 _ HD2.out.un)).mono ?_
  rintro e u3 ⟨rfl, hu, ho, hz⟩
  clear hz
  have HD3 := Lib.hid (HD2.out.numS hu ho HX3.out 1 (fun v r => { r with sq := v }) HE3.out (fun _ => rfl) (fun _ => rfl))
  have hx := (HD2.out.num hu ho).bx
  have fj := hx.free 1
  obtain ⟨d0, d1, d2, d3, d4, d5, d6, d7, d8, d9, d10, d11⟩ := hx.cells
  rw [HKC.out] at d2
  clear hu ho hx d0 d3 d4 d5 d6 d7 d8 d9 d10 d11
  go_wp2_with fail
  generalize u3.setCell ⟨ob, 1, none⟩ (.int .i64 x3) = v3 at HD3 ⊢
  clear fj d1 d2 HD2
  go_at_call 40
  refine (vtext_is _ _ _ 65535 _ HD3.out.un).mono ?_
  rintro e u4 ⟨rfl, hu, ho⟩
  have HD4 := Lib.hid (HD3.out.textS hu ho 8 (fun v r => { r with d := v }) HE4.out (fun _ => rfl) (fun _ => rfl))
  have hx := (HD3.out.num hu ho).bx
  have fj := hx.free 8
  obtain ⟨d0, d1, d2, d3, d4, d5, d6, d7, d8, d9, d10, d11⟩ := hx.cells
  clear hu ho hx d0 d1 d2 d3 d4 d5 d6 d7 d9 d10 d11
  go_wp2_with fail
  generalize u4.setCell ⟨ob, 8, none⟩ (.string (textA D3.l D3.sp 65535)) = v4 at HD4 ⊢
  clear fj d8 HD3
  go_at_call 39
  refine (num_as HX5.out (vnum_any _ _ _ 4 _ HD4.out.un)).mono ?_
  rintro e u5 ⟨rfl, hu, ho, hz⟩
  clear hz
  have HD5 := Lib.hid (HD4.out.numS hu ho HX5.out 5 (fun v r => { r with sz := v }) HE5.out (fun _ => rfl) (fun _ => rfl))
  have hx := (HD4.out.num hu ho).bx
  have fj := hx.free 5
  obtain ⟨d0, d1, d2, d3, d4, d5, d6, d7, d8, d9, d10, d11⟩ := hx.cells
  clear hu ho hx d0 d1 d2 d3 d4 d6 d7 d8 d9 d10 d11
  go_wp2_with fail
  generalize u5.setCell ⟨ob, 5, none⟩ (.int .i64 x5) = v5 at HD5 ⊢
  clear fj d5 HD4
  go_at_call 39
  refine (num_as HX6.out (vnum_any _ _ _ 4 _ HD5.out.un)).mono ?_
  rintro e u6 ⟨rfl, hu, ho, hz⟩
  clear hz
  have HD6 := Lib.hid (HD5.out.numS hu ho HX6.out 7 (fun v r => { r with o := v }) HE6.out (fun _ => rfl) (fun _ => rfl))
  have hx := (HD5.out.num hu ho).bx
  have fj := hx.free 7
  obtain ⟨d0, d1, d2, d3, d4, d5, d6, d7, d8, d9, d10, d11⟩ := hx.cells
  clear hu ho hx d0 d1 d2 d3 d4 d5 d6 d8 d9 d10 d11
  go_wp2_with fail
  generalize u6.setCell ⟨ob, 7, none⟩ (.int .i64 x6) = v6 at HD6 ⊢
  clear fj d7 HD5
  obtain ⟨vz, HD⟩ : ∃ vz, Hid (RDecAt (w.heap.size + 1) (w.heap.size + 1) ob D6 vz (w.alloc (.cells #[.int .i64 0, .int .i64 0, .int .i64 0, .string ⟨#[]⟩, .string ⟨#[]⟩, .int .i64 0, .int .i64 0, .int .i64 0, .string ⟨#[]⟩, .int .i64 0, .int .i64 0, .slice none 0 0] 24)) v6) := ⟨_, HD6⟩
  clear HD6 HE0 HE1 HE2 HE3 HE4 HE5 HE6 HX1 HX2 HX3 HX5 HX6 HKC HSS q1 q2 q3 q4 q5 q6 q7 q8 q9 q10 q11 q12 q13 q14
  have HT := HD
  rw [HDE.out] at HT
  have HFIT := Lib.hid (dec_fit limQ limQ_b S)
  generalize decD limQ S = D at *
  by_cases he : endA D.l D.sp = 0
  · have hE : (endA D.l D.sp != 0) = false := by rw [he]; rfl
    have HE := Lib.hid he
    clear he
    cases hg : goodB D.r with
    | true =>
      have HG := Lib.hid hg
      have HDR : Hid (decR D = some D.r) := Lib.hid (by unfold decR; rw [if_pos ⟨HE.out, hg⟩])
      clear hg
      go_at_call 41
      refine (vend_is _ _ _ _ HT.out.un).mono ?_
      rintro e w8 ⟨rfl, hb8⟩
      have HT8 := Lib.hid (HT.out.keep hb8)
      clear hb8
      obtain ⟨oz, cz, rfl, hcz1, hcz2, hcz3⟩ := HT8.out.row.form
      have HFORM : Hid (oz = none → D.r.m.length = 0 ∧ cz = 0) := Lib.hid hcz3
      clear hcz1 hcz2 hcz3
      have hx := HT8.out.bx
      obtain ⟨f0, f1, f2, f3, f4, f5, f6, f7, f8, f9, f10, f11⟩ := hx.cells
      have HMV : Hid (MvAt w8 oz D.r.m) := Lib.hid (RowK.pts encM_len (by decide) HT8.out.row)
      have HRES : Hid (w8.heap[w.heap.size]? = some (.cells #[.int .i64 0, .int .i64 0, .int .i64 0, .string ⟨#[]⟩, .string ⟨#[]⟩, .int .i64 0, .int .i64 0, .int .i64 0, .string ⟨#[]⟩, .int .i64 0, .int .i64 0, .slice none 0 0] 24 (0, 0))) := Lib.hid ((HT8.out.low.block w.heap.size (by simp)).trans HR.out)
      have HLOW : Hid (Below w.heap.size w w8) := Lib.hid (H0.out.trans (HT8.out.low.mono (by omega)))
      clear hx
      go_wp2_with (first
        | (refine wpList_store_row rfl 24 (Operand.tmp 2) _ rfl w.heap.size _ rfl rfl 24 _ ((HB9.out.block w.heap.size (lt_of_block HRES.out)).trans HRES.out) opSize rfl (by simp [Value.oneCell']) ?_)
        | (go_at_call 14; refine (rgood_any D.r HFIT.out oz _ cz rfl _ HMV.out).mono ?_; rintro e w9 ⟨hge, hb9⟩; rw [HG.out] at hge; subst hge; have HB9 := Lib.hid hb9; have hx9 := HT8.out.bx.keep hb9; obtain ⟨g0, g1, g2, g3, g4, g5, g6, g7, g8, g9, g10, g11⟩ := hx9.cells; clear hb9 hx9 f0 f1 f2 f3 f4 f5 f6 f7 f8 f9 f10 f11))
      refine ret_row (p := 2) (u := 3) rfl rfl rfl (setRow_heap _ _ _ _ _ _ ((HB9.out.block w.heap.size (lt_of_block HRES.out)).trans HRES.out)) Tryd.underlying24 rfl opSize ?_
      have hbb := below_setRow (bstep HLOW.out HB9.out) (Nat.le_refl w.heap.size) #[.int .i64 D.r.cl, .int .i64 D.r.sq, .int .i64 D.r.k, .string D.r.p, .string D.r.t, .int .i64 D.r.sz, .int .i64 D.r.h, .int .i64 D.r.o, .string D.r.d, .int .i64 D.r.tk, .int .i64 D.r.i, .slice oz D.r.m.length cz]
      exact ⟨D.r, 0, oz, _, cz, rfl, rfl, HFORM.out, (HMV.out.grow HB9.out).only (setRow_only _ _ _) (fun a ha => by have hh := (own_base HT8.out.row).1 a ha; omega), hbb, .inl ⟨HDR.out, rfl⟩⟩
    | false =>
      have HG := Lib.hid hg
      have HDR : Hid (decR D = none) := Lib.hid (by unfold decR; rw [if_neg (fun h => by rw [hg] at h; cases h.2)])
      clear hg
      go_at_call 41
      refine (vend_is _ _ _ _ HT.out.un).mono ?_
      rintro e w8 ⟨rfl, hb8⟩
      have HT8 := Lib.hid (HT.out.keep hb8)
      clear hb8
      obtain ⟨oz, cz, rfl, hcz1, hcz2, hcz3⟩ := HT8.out.row.form
      have HFORM : Hid (oz = none → D.r.m.length = 0 ∧ cz = 0) := Lib.hid hcz3
      clear hcz1 hcz2 hcz3
      have hx := HT8.out.bx
      obtain ⟨f0, f1, f2, f3, f4, f5, f6, f7, f8, f9, f10, f11⟩ := hx.cells
      have HMV : Hid (MvAt w8 oz D.r.m) := Lib.hid (RowK.pts encM_len (by decide) HT8.out.row)
      have HRES : Hid (w8.heap[w.heap.size]? = some (.cells #[.int .i64 0, .int .i64 0, .int .i64 0, .string ⟨#[]⟩, .string ⟨#[]⟩, .int .i64 0, .int .i64 0, .int .i64 0, .string ⟨#[]⟩, .int .i64 0, .int .i64 0, .slice none 0 0] 24 (0, 0))) := Lib.hid ((HT8.out.low.block w.heap.size (by simp)).trans HR.out)
      have HLOW : Hid (Below w.heap.size w w8) := Lib.hid (H0.out.trans (HT8.out.low.mono (by omega)))
      clear hx
      go_wp2_with (first
        | (refine wpList_store_row rfl 24 (Operand.tmp 2) _ rfl w.heap.size _ rfl rfl 24 _ ((HB9.out.block w.heap.size (lt_of_block HRES.out)).trans HRES.out) opSize rfl (by simp [Value.oneCell']) ?_)
        | (go_at_call 14; refine (rgood_any D.r HFIT.out oz _ cz rfl _ HMV.out).mono ?_; rintro e w9 ⟨hge, hb9⟩; rw [HG.out] at hge; subst hge; have HB9 := Lib.hid hb9; clear hb9 f0 f1 f2 f3 f4 f5 f6 f7 f8 f9 f10 f11))
      refine ret_row (p := 2) (u := 3) rfl rfl rfl (setRow_heap _ _ _ _ _ _ ((HB9.out.block w.heap.size (lt_of_block HRES.out)).trans HRES.out)) Tryd.underlying24 rfl opSize ?_
      have hbb := below_setRow (bstep HLOW.out HB9.out) (Nat.le_refl w.heap.size) #[.int .i64 0, .int .i64 0, .int .i64 0, .string ⟨#[]⟩, .string ⟨#[]⟩, .int .i64 0, .int .i64 0, .int .i64 0, .string ⟨#[]⟩, .int .i64 0, .int .i64 0, .slice none 0 0]
      exact ⟨zr, 11, none, 0, 0, rfl, rfl, fun _ => ⟨rfl, rfl⟩, MvAt.nil _ _, hbb, .inr ⟨HDR.out, rfl, rfl⟩⟩
  · have hE : (endA D.l D.sp != 0) = true := bne_iff_ne.2 he
    have HDR : Hid (decR D = none) := Lib.hid (by unfold decR; rw [if_neg (fun h => he h.1)])
    clear he
    go_at_call 41
    refine (vend_is _ _ _ _ HT.out.un).mono ?_
    rintro e w8 ⟨rfl, hb8⟩
    have HT8 := Lib.hid (HT.out.keep hb8)
    clear hb8
    obtain ⟨oz, cz, rfl, hcz1, hcz2, hcz3⟩ := HT8.out.row.form
    have HFORM : Hid (oz = none → D.r.m.length = 0 ∧ cz = 0) := Lib.hid hcz3
    clear hcz1 hcz2 hcz3
    have hx := HT8.out.bx
    obtain ⟨f0, f1, f2, f3, f4, f5, f6, f7, f8, f9, f10, f11⟩ := hx.cells
    have HMV : Hid (MvAt w8 oz D.r.m) := Lib.hid (RowK.pts encM_len (by decide) HT8.out.row)
    have HRES : Hid (w8.heap[w.heap.size]? = some (.cells #[.int .i64 0, .int .i64 0, .int .i64 0, .string ⟨#[]⟩, .string ⟨#[]⟩, .int .i64 0, .int .i64 0, .int .i64 0, .string ⟨#[]⟩, .int .i64 0, .int .i64 0, .slice none 0 0] 24 (0, 0))) := Lib.hid ((HT8.out.low.block w.heap.size (by simp)).trans HR.out)
    have HLOW : Hid (Below w.heap.size w w8) := Lib.hid (H0.out.trans (HT8.out.low.mono (by omega)))
    clear hx
    go_wp2_with (first
      | (refine wpList_store_row rfl 24 (Operand.tmp 2) _ rfl w.heap.size _ rfl rfl 24 _ HRES.out opSize rfl (by simp [Value.oneCell']) ?_))
    refine ret_row (p := 2) (u := 3) rfl rfl rfl (setRow_heap _ _ _ _ _ _ HRES.out) Tryd.underlying24 rfl opSize ?_
    have hbb := below_setRow HLOW.out (Nat.le_refl w.heap.size) #[.int .i64 0, .int .i64 0, .int .i64 0, .string ⟨#[]⟩, .string ⟨#[]⟩, .int .i64 0, .int .i64 0, .int .i64 0, .string ⟨#[]⟩, .int .i64 0, .int .i64 0, .slice none 0 0]
    exact ⟨zr, 11, none, 0, 0, rfl, rfl, fun _ => ⟨rfl, rfl⟩, MvAt.nil _ _, hbb, .inr ⟨HDR.out, rfl, rfl⟩⟩
end Go.Proofs.YtlffcilgmockmaaDoor.OpW
