/- op.Decode. -/
import Derived.Test.YtlffcilgmockmaaDoorOpGet
import Derived.Test.YtlffcilgmockmaaDoorOpGood
import Derived.Test.YtlffcilgmockmaaDoorOpDecF
namespace Go.Proofs.YtlffcilgmockmaaDoor.OpW
set_option maxRecDepth 100000
open Go.RowKit OpP PackW
def zval : Array Value := #[.int .i64 0, .int .i64 0, .int .i64 0, .string ⟨#[]⟩, .string ⟨#[]⟩, .int .i64 0, .int .i64 0, .int .i64 0, .string ⟨#[]⟩, .int .i64 0, .int .i64 0, .slice none 0 0]
/-- what Decode answers -/
def DecPost (d : Dn) (w : World) (e : Ending) (w' : World) : Prop := ∃ (r : Rec) (x : Int) (oa : Option Addr) (n c : Nat), e = .returned (.tuple #[.agg #[.int .i64 r.cl, .int .i64 r.sq, .int .i64 r.k, .string r.p, .string r.t, .int .i64 r.sz, .int .i64 r.h, .int .i64 r.o, .string r.d, .int .i64 r.tk, .int .i64 r.i, .slice oa n c], .int .i64 x]) ∧ n = r.m.length ∧ (oa = none → n = 0 ∧ c = 0) ∧ MvAt w' oa r.m ∧ Below w.heap.size w w' ∧
  ((decR d = some r ∧ x = 0) ∨ (decR d = none ∧ x = 11 ∧ r = zr))
def d1 (S : List UInt8) : Dn := numD 1 ⟨S, false, zr⟩ fun v r => { r with k := v }
def d2 (S : List UInt8) : Dn := numD 1 (d1 S) fun v r => { r with cl := v }
theorem headD_eq (S : List UInt8) : headD S = numD 4 (d2 S) fun v r => { r with sq := v } := rfl
theorem DecAt.start {B b : Nat} {S : List UInt8} {w0 w1 w2 : World} {kk : Int} (hk : kk = numA S false 1) (hb1 : Below B w0 w1) (hB : B ≤ w1.heap.size) (hbB : B ≤ b) (hu : UIs b (S.drop (Int.toNat 1)) (numG S false 1) w2) (ho : Only b w1 w2) :
    DecAt B b w2.heap.size (d1 S) (.slice none 0 0) w0 (w2.alloc (.cells #[.int .i64 0, .int .i64 0, .int .i64 kk, .string ⟨#[]⟩, .string ⟨#[]⟩, .int .i64 0, .int .i64 0, .int .i64 0, .string ⟨#[]⟩, .int .i64 0, .int .i64 0, .slice none 0 0] 24)) := by
  subst hk
  have h1 := ho.size
  exact ⟨hu.keep (below_alloc _ _), heap_alloc_new w2 _, RowK.nil _ _, (hb1.trans (ho.below hbB hB)).alloc (by omega) _, by have := hu.lt; omega, hbB, by omega⟩
theorem DecAt.heads {B b ob : Nat} {S : List UInt8} {w0 w5 : World} {cc qq : Int} (hc : cc = numA (d1 S).l (d1 S).sp 1) (hq : qq = numA (d2 S).l (d2 S).sp 4)
    (h : DecAt B b ob ⟨(d2 S).l.drop (Int.toNat 4), numG (d2 S).l (d2 S).sp 4, (d1 S).r⟩ (.slice none 0 0) w0 w5) : DecAt B b ob (headD S) (.slice none 0 0) w0 ((w5.setCell ⟨ob, 0, none⟩ (.int .i64 cc)).setCell ⟨ob, 1, none⟩ (.int .i64 qq)) := by
  subst hc
  subst hq
  have h1 := h.set 0 (.int .i64 (numA (d1 S).l (d1 S).sp 1)) { (d1 S).r with cl := numA (d1 S).l (d1 S).sp 1 } (by rfl) rfl
  exact h1.set 1 (.int .i64 (numA (d2 S).l (d2 S).sp 4)) (headD S).r (by rfl) rfl
/-- behind k fields -/
def decTo (f : ByteArray) (d : Dn) (k : Nat) : Dn := (f.data.toList.take k).foldl (fun d c => getD limP c d) d
theorem decTo_snoc (f : ByteArray) (d : Dn) (k : Nat) (hk : k < f.size) : decTo f d (k + 1) = getD limP f[k] (decTo f d k) := by
  unfold decTo
  rw [List.take_succ_eq_append_getElem (by simpa using hk), List.foldl_append]
  rfl
theorem decTo_all (f : ByteArray) (d : Dn) : decTo f d f.size = f.data.toList.foldl (fun d c => getD limP c d) d := by
  unfold decTo
  rw [List.take_of_length_le (by simp)]
theorem decTo_m (f : ByteArray) (S : List UInt8) (k : Nat) (hk : k < f.size) (hn : f.data.toList.Nodup) : f[k] = 109 → (decTo f (headD S) k).r.m = [] := by
  intro hc
  unfold decTo
  have h := take_not f.data.toList hn k (by simpa using hk)
  rw [show f.data.toList[k]'(by simpa using hk) = f[k] from rfl, hc] at h
  rw [fold_m limP _ _ h]
  rfl
theorem limP_b : LimB limP := ⟨by decide, by decide, fun n h => by show (min n 17).toNat ≤ 300; omega⟩
set_option maxHeartbeats 800000 in
theorem dec_any (s : ByteArray) (hs : s.size ≤ 100000) (w : World) (hf : Fl w) : Calls Tryd.prog 16 #[.string s] w (DecPost (decD limP s.data.toList) w) := by
  have HF := Lib.hid hf
  have H0 := Lib.hid (below_alloc w (.cells #[.int .i64 0, .int .i64 0, .int .i64 0, .string ⟨#[]⟩, .string ⟨#[]⟩, .int .i64 0, .int .i64 0, .int .i64 0, .string ⟨#[]⟩, .int .i64 0, .int .i64 0, .slice none 0 0] 24))
  have HR : Hid ((w.alloc (.cells #[.int .i64 0, .int .i64 0, .int .i64 0, .string ⟨#[]⟩, .string ⟨#[]⟩, .int .i64 0, .int .i64 0, .int .i64 0, .string ⟨#[]⟩, .int .i64 0, .int .i64 0, .slice none 0 0] 24)).heap[w.heap.size]? = some (.cells #[.int .i64 0, .int .i64 0, .int .i64 0, .string ⟨#[]⟩, .string ⟨#[]⟩, .int .i64 0, .int .i64 0, .int .i64 0, .string ⟨#[]⟩, .int .i64 0, .int .i64 0, .slice none 0 0] 24 (0, 0))) := Lib.hid (heap_alloc_new w _)
  generalize hS : s.data.toList = S
  obtain ⟨kk, hkk⟩ : ∃ kk, kk = numA S false 1 := ⟨_, rfl⟩
  obtain ⟨cc, hcc⟩ : ∃ cc, cc = numA (d1 S).l (d1 S).sp 1 := ⟨_, rfl⟩
  obtain ⟨qq, hqq⟩ : ∃ qq, qq = numA (d2 S).l (d2 S).sp 4 := ⟨_, rfl⟩
  have HSS := Lib.hid hS
  have HKK := Lib.hid hkk
  have HCC := Lib.hid hcc
  have HQQ := Lib.hid hqq
  have HHK : Hid ((headD S).r.k = kk) := Lib.hid hkk.symm
  clear hf hkk hcc hqq hS
  by_cases hk : 1 ≤ kk ∧ kk ≤ 14
  · have hfc := HF.out kk.toNat (by omega) (by omega)
    rw [Int.toNat_of_nonneg (by omega)] at hfc
    have HI := Lib.hid (fields_isF kk hk)
    have HND := Lib.hid (fields_nodup kk hk)
    have hss := fields_size kk hk
    have HDD0 : Hid (decD limP S = decTo (fieldsOf kk) (headD S) (fieldsOf kk).size) := Lib.hid (by unfold decD; rw [HHK.out, decTo_all])
    generalize fieldsOf kk = f at hfc HI HND hss HDD0
    have HFC := Lib.hid hfc
    have HKB : Hid ((decide (1 ≤ kk) && decide (kk ≤ 14)) = true) := Lib.hid (by simp [hk.1, hk.2])
    clear hfc
    go_enter Tryd.func16, Tryd.ntmps16
    go_wp2_with (first
      | (have hz := HD4.out; clear hz; go_at_call 35; refine (num_as HQQ.out (unum_any _ _ _ 4 _ HD4.out.un)).mono ?_; rintro e w5 ⟨rfl, hu, ho, hk5⟩; clear hk5; have HD5 := Lib.hid (HD4.out.num hu ho); have hx := HD5.out.bx; have fz0 := hx.free 0; have fz1 := hx.free 1; obtain ⟨d0, d1', d2', d3, d4, d5, d6, d7, d8, d9, d10, d11⟩ := hx.cells; have d2 : w5.cell? ⟨w2.heap.size, 2, none⟩ = some (.int .i64 kk) := by {rw [HKK.out]; exact d2'}; clear hu ho hx d2' d3 d4 d5 d6 d7 d8 d9 d10 d11)
      | (have hz := HD3.out; clear hz; go_at_call 35; refine (num_as HCC.out (unum_any _ _ _ 1 _ HD3.out.un)).mono ?_; rintro e w4 ⟨rfl, hu, ho, hk4⟩; clear hk4; have HD4 := Lib.hid (HD3.out.num (sp := (d2 S).sp) (l := (d2 S).l) hu ho); clear hu ho)
      | (have hz := HU1.out; clear hz; go_at_call 35; refine (num_as HKK.out (unum_any _ _ _ 1 _ HU1.out)).mono ?_; rintro e w2 ⟨rfl, hu, ho, hk2⟩; clear hk2; have HD3 := Lib.hid (DecAt.start HKK.out HB1.out (by have hh := HB1.out.size; rw [alloc_size] at hh; exact hh) (Nat.le_refl _) hu ho); clear hu ho)
      | (go_at_call 34; refine (open_any s _).mono ?_; rintro e w1 ⟨rfl, hp, hb, hk1⟩; clear hk1; rw [alloc_size] at hp hb; have hu1 := UIs.of hp (by omega); rw [HSS.out] at hu1; have HU1 := Lib.hid hu1; have HB1 := Lib.hid hb; clear hp hb hu1))
    clear d2
    have HHD := Lib.hid (DecAt.heads HCC.out HQQ.out HD5.out)
    generalize hwt : ((w5.setCell ⟨w2.heap.size, 0, none⟩ (.int .i64 cc)).setCell ⟨w2.heap.size, 1, none⟩ (.int .i64 qq)) = wt at HHD ⊢
    clear hwt d0 d1' fz0 fz1
    clear HSS HKK HCC HQQ HD3 HD4 HD5 HU1 HB1
    have hx := HHD.out.bx
    obtain ⟨e0, e1, e2', e3, e4, e5, e6, e7, e8, e9, e10, e11⟩ := hx.cells
    have e2 : wt.cell? ⟨w2.heap.size, 2, none⟩ = some (.int .i64 kk) := by {rw [← HHK.out]; exact e2'}
    clear hx e2' e0 e1 e3 e4 e5 e6 e7 e8 e9 e10 e11
    have HLOW0 : Hid (Below w.heap.size w wt) := Lib.hid (H0.out.trans (HHD.out.low.mono (by omega)))
    have hfct := cell_step HLOW0.out HFC.out
    have hk1 := hk.1
    have hk2 := hk.2
    go_wp2_with (go_at_call 28; refine (known_is kk true HKB.out _).mono ?_; rintro e w6 ⟨rfl, rfl⟩)
    clear hfct e2 hk1 hk2 hk
    go_loopw [28] (fun i wr => ∃ k : Nat, k ≤ f.size ∧ i = .int .i64 (k : Int) ∧ ∃ v', DecAt (w.heap.size + 1) (w.heap.size + 1) w2.heap.size (decTo f (headD S) k) v' (w.alloc (.cells #[.int .i64 0, .int .i64 0, .int .i64 0, .string ⟨#[]⟩, .string ⟨#[]⟩, .int .i64 0, .int .i64 0, .int .i64 0, .string ⟨#[]⟩, .int .i64 0, .int .i64 0, .slice none 0 0] 24)) wr) (fun i _ => ((f.size : Int) - intOf i).toNat)
    case atStart => exact ⟨0, by omega, rfl, _, HHD.out⟩
    case round =>
      obtain ⟨k, hk, rfl, v', hea⟩ := hrel
      have HEA := Lib.hid hea
      clear hea
      by_cases hlt : k < f.size
      · have hk0 : (0 : Int) ≤ (k : Int) := by omega
        have hkl : (k : Int) < (f.size : Int) := by omega
        have HC : Hid (IsF f[k]) := Lib.hid (HI.out _ (List.getElem_mem (by simpa using hlt)))
        have HS := Lib.hid (decTo_snoc f (headD S) k hlt)
        have HM := Lib.hid (decTo_m f S k hlt HND.out)
        go_wp2_with (go_at_call 36; refine (get_any f[k] HC.out _ _ _ _ _ _ _ HEA.out HM.out).mono ?_; rintro e w6 ⟨rfl, v6, ha6⟩; rw [← HS.out] at ha6; have HA6 := Lib.hid ha6; clear ha6)
        exact ⟨⟨k + 1, by omega, by simp, v6, HA6.out⟩, by simp [intOf]; omega⟩
      · have hk1 : ¬ ((k : Int) < (f.size : Int)) := by omega
        have hkf : k = f.size := by omega
        have HE : Hid (decTo f (headD S) k = decD limP S) := Lib.hid (by rw [HDD0.out, hkf])
        clear hkf
        rename_i wr
        obtain ⟨vz, HT⟩ : ∃ vz, Hid (DecAt (w.heap.size + 1) (w.heap.size + 1) w2.heap.size (decD limP S) vz (w.alloc (.cells #[.int .i64 0, .int .i64 0, .int .i64 0, .string ⟨#[]⟩, .string ⟨#[]⟩, .int .i64 0, .int .i64 0, .int .i64 0, .string ⟨#[]⟩, .int .i64 0, .int .i64 0, .slice none 0 0] 24)) wr) := ⟨v', Lib.hid (by rw [← HE.out]; exact HEA.out)⟩
        clear HHD HHK HKB HLOW0 HFC HI HND HDD0 HE HEA
        go_wp2_with fail
        have HFIT := Lib.hid (dec_fit limP limP_b S)
        obtain ⟨oz, cz, rfl, hcz1, hcz2, hcz3⟩ := HT.out.row.form
        have HFORM : Hid (oz = none → (decD limP S).r.m.length = 0 ∧ cz = 0) := Lib.hid hcz3
        have HDD : Hid ((decD limP S).r.m.length = (decD limP S).r.m.length) := Lib.hid rfl
        clear hcz1 hcz2 hcz3
        generalize decD limP S = D at *
        have hx := HT.out.bx
        obtain ⟨f0, f1, f2, f3, f4, f5, f6, f7, f8, f9, f10, f11⟩ := hx.cells
        have HMV : Hid (MvAt wr oz D.r.m) := Lib.hid (RowK.pts encM_len (by decide) HT.out.row)
        have HRES : Hid (wr.heap[w.heap.size]? = some (.cells #[.int .i64 0, .int .i64 0, .int .i64 0, .string ⟨#[]⟩, .string ⟨#[]⟩, .int .i64 0, .int .i64 0, .int .i64 0, .string ⟨#[]⟩, .int .i64 0, .int .i64 0, .slice none 0 0] 24 (0, 0))) := Lib.hid ((HT.out.low.block w.heap.size (by simp)).trans HR.out)
        have HLOW : Hid (Below w.heap.size w wr) := Lib.hid (H0.out.trans (HT.out.low.mono (by omega)))
        clear hx
        by_cases he : endA D.l D.sp = 0
        · have hE : (endA D.l D.sp != 0) = false := by rw [he]; rfl
          have HE := Lib.hid he
          clear he
          cases hg : goodB D.r with
          | true =>
            have HG := Lib.hid hg
            have HDR : Hid (decR D = some D.r) := Lib.hid (by unfold decR; rw [if_pos ⟨HE.out, hg⟩])
            clear hg
            go_wp2_with (first
              | (refine wpList_store_row rfl 24 (Operand.tmp 2) _ rfl w.heap.size _ rfl rfl 24 _ ((HB9.out.block w.heap.size (lt_of_block HRES.out)).trans HRES.out) opSize rfl (by simp [Value.oneCell']) ?_)
              | (go_at_call 37; refine (uend_any _ _ _ _ HT.out.un).mono ?_; rintro e w8 ⟨rfl, rfl⟩)
              | (go_at_call 13; refine (good_any D.r HFIT.out oz _ cz rfl _ (HF.out.keep HLOW.out) HMV.out).mono ?_; rintro e w9 ⟨hge, hb9⟩; rw [HG.out] at hge; subst hge; have HB9 := Lib.hid hb9; have hx9 := HT.out.bx.keep hb9; obtain ⟨g0, g1, g2, g3, g4, g5, g6, g7, g8, g9, g10, g11⟩ := hx9.cells; clear hb9 hx9 f0 f1 f2 f3 f4 f5 f6 f7 f8 f9 f10 f11))
            refine ret_row (p := 2) (u := 3) rfl rfl rfl (setRow_heap _ _ _ _ _ _ ((HB9.out.block w.heap.size (lt_of_block HRES.out)).trans HRES.out)) Tryd.underlying24 rfl opSize ?_
            have hbb := below_setRow (bstep HLOW.out HB9.out) (Nat.le_refl w.heap.size) #[.int .i64 D.r.cl, .int .i64 D.r.sq, .int .i64 D.r.k, .string D.r.p, .string D.r.t, .int .i64 D.r.sz, .int .i64 D.r.h, .int .i64 D.r.o, .string D.r.d, .int .i64 D.r.tk, .int .i64 D.r.i, .slice oz D.r.m.length cz]
            exact ⟨D.r, 0, oz, _, cz, rfl, rfl, HFORM.out, (HMV.out.grow HB9.out).only (setRow_only _ _ _) (fun a ha => by have hh := (own_base HT.out.row).1 a ha; omega), hbb, .inl ⟨HDR.out, rfl⟩⟩
          | false =>
            have HG := Lib.hid hg
            have HDR : Hid (decR D = none) := Lib.hid (by unfold decR; rw [if_neg (fun h => by rw [hg] at h; cases h.2)])
            clear hg
            go_wp2_with (first
              | (refine wpList_store_row rfl 24 (Operand.tmp 2) _ rfl w.heap.size _ rfl rfl 24 _ ((HB9.out.block w.heap.size (lt_of_block HRES.out)).trans HRES.out) opSize rfl (by simp [Value.oneCell']) ?_)
              | (go_at_call 37; refine (uend_any _ _ _ _ HT.out.un).mono ?_; rintro e w8 ⟨rfl, rfl⟩)
              | (go_at_call 13; refine (good_any D.r HFIT.out oz _ cz rfl _ (HF.out.keep HLOW.out) HMV.out).mono ?_; rintro e w9 ⟨hge, hb9⟩; rw [HG.out] at hge; subst hge; have HB9 := Lib.hid hb9; clear hb9 f0 f1 f2 f3 f4 f5 f6 f7 f8 f9 f10 f11))
            refine ret_row (p := 2) (u := 3) rfl rfl rfl (setRow_heap _ _ _ _ _ _ ((HB9.out.block w.heap.size (lt_of_block HRES.out)).trans HRES.out)) Tryd.underlying24 rfl opSize ?_
            have hbb := below_setRow (bstep HLOW.out HB9.out) (Nat.le_refl w.heap.size) #[.int .i64 0, .int .i64 0, .int .i64 0, .string ⟨#[]⟩, .string ⟨#[]⟩, .int .i64 0, .int .i64 0, .int .i64 0, .string ⟨#[]⟩, .int .i64 0, .int .i64 0, .slice none 0 0]
            exact ⟨zr, 11, none, 0, 0, rfl, rfl, fun _ => ⟨rfl, rfl⟩, MvAt.nil _ _, hbb, .inr ⟨HDR.out, rfl, rfl⟩⟩
        · have hE : (endA D.l D.sp != 0) = true := bne_iff_ne.2 he
          have HDR : Hid (decR D = none) := Lib.hid (by unfold decR; rw [if_neg (fun h => he h.1)])
          clear he
          go_wp2_with (first
            | (refine wpList_store_row rfl 24 (Operand.tmp 2) _ rfl w.heap.size _ rfl rfl 24 _ HRES.out opSize rfl (by simp [Value.oneCell']) ?_)
            | (go_at_call 37; refine (uend_any _ _ _ _ HT.out.un).mono ?_; rintro e w8 ⟨rfl, rfl⟩))
          refine ret_row (p := 2) (u := 3) rfl rfl rfl (setRow_heap _ _ _ _ _ _ HRES.out) Tryd.underlying24 rfl opSize ?_
          have hbb := below_setRow HLOW.out (Nat.le_refl w.heap.size) #[.int .i64 0, .int .i64 0, .int .i64 0, .string ⟨#[]⟩, .string ⟨#[]⟩, .int .i64 0, .int .i64 0, .int .i64 0, .string ⟨#[]⟩, .int .i64 0, .int .i64 0, .slice none 0 0]
          exact ⟨zr, 11, none, 0, 0, rfl, rfl, fun _ => ⟨rfl, rfl⟩, MvAt.nil _ _, hbb, .inr ⟨HDR.out, rfl, rfl⟩⟩
  · have HKN := Lib.hid (decD_none limP S (by rw [HHK.out]; exact hk))
    have hkb : (decide (1 ≤ kk) && decide (kk ≤ 14)) = false := by rw [Bool.eq_false_iff]; intro h; simp only [Bool.and_eq_true, decide_eq_true_eq] at h; exact hk h
    have HKB := Lib.hid hkb
    clear hk hkb
    go_enter Tryd.func16, Tryd.ntmps16
    go_wp2_with (first
      | (have hz := HD4.out; clear hz; go_at_call 35; refine (num_as HQQ.out (unum_any _ _ _ 4 _ HD4.out.un)).mono ?_; rintro e w5 ⟨rfl, hu, ho, hk5⟩; clear hk5; have HD5 := Lib.hid (HD4.out.num hu ho); have hx := HD5.out.bx; have fz0 := hx.free 0; have fz1 := hx.free 1; obtain ⟨d0, d1', d2', d3, d4, d5, d6, d7, d8, d9, d10, d11⟩ := hx.cells; have d2 : w5.cell? ⟨w2.heap.size, 2, none⟩ = some (.int .i64 kk) := by {rw [HKK.out]; exact d2'}; clear hu ho hx d2' d3 d4 d5 d6 d7 d8 d9 d10 d11)
      | (have hz := HD3.out; clear hz; go_at_call 35; refine (num_as HCC.out (unum_any _ _ _ 1 _ HD3.out.un)).mono ?_; rintro e w4 ⟨rfl, hu, ho, hk4⟩; clear hk4; have HD4 := Lib.hid (HD3.out.num (sp := (d2 S).sp) (l := (d2 S).l) hu ho); clear hu ho)
      | (have hz := HU1.out; clear hz; go_at_call 35; refine (num_as HKK.out (unum_any _ _ _ 1 _ HU1.out)).mono ?_; rintro e w2 ⟨rfl, hu, ho, hk2⟩; clear hk2; have HD3 := Lib.hid (DecAt.start HKK.out HB1.out (by have hh := HB1.out.size; rw [alloc_size] at hh; exact hh) (Nat.le_refl _) hu ho); clear hu ho)
      | (go_at_call 34; refine (open_any s _).mono ?_; rintro e w1 ⟨rfl, hp, hb, hk1⟩; clear hk1; rw [alloc_size] at hp hb; have hu1 := UIs.of hp (by omega); rw [HSS.out] at hu1; have HU1 := Lib.hid hu1; have HB1 := Lib.hid hb; clear hp hb hu1))
    clear d2
    have HHD := Lib.hid (DecAt.heads HCC.out HQQ.out HD5.out)
    generalize hwt : ((w5.setCell ⟨w2.heap.size, 0, none⟩ (.int .i64 cc)).setCell ⟨w2.heap.size, 1, none⟩ (.int .i64 qq)) = wt at HHD ⊢
    clear hwt d0 d1' fz0 fz1
    have hx := HHD.out.bx
    obtain ⟨e0, e1, e2', e3, e4, e5, e6, e7, e8, e9, e10, e11⟩ := hx.cells
    have e2 : wt.cell? ⟨w2.heap.size, 2, none⟩ = some (.int .i64 kk) := by {rw [← HHK.out]; exact e2'}
    clear hx e2' e0 e1 e3 e4 e5 e6 e7 e8 e9 e10 e11
    go_wp2_with (go_at_call 28; refine (known_is kk false HKB.out _).mono ?_; rintro e w6 ⟨rfl, rfl⟩)
    rw [← HKN.out] at HHD
    clear e2
    obtain ⟨vz, HT⟩ : ∃ vz, Hid (DecAt (w.heap.size + 1) (w.heap.size + 1) w2.heap.size (decD limP S) vz (w.alloc (.cells #[.int .i64 0, .int .i64 0, .int .i64 0, .string ⟨#[]⟩, .string ⟨#[]⟩, .int .i64 0, .int .i64 0, .int .i64 0, .string ⟨#[]⟩, .int .i64 0, .int .i64 0, .slice none 0 0] 24)) wt) := ⟨_, HHD⟩
    clear HHD HKN HSS HKK HCC HQQ HHK HKB HD3 HD4 HD5 HU1 HB1
    have HFIT := Lib.hid (dec_fit limP limP_b S)
    obtain ⟨oz, cz, rfl, hcz1, hcz2, hcz3⟩ := HT.out.row.form
    have HFORM : Hid (oz = none → (decD limP S).r.m.length = 0 ∧ cz = 0) := Lib.hid hcz3
    have HDD : Hid ((decD limP S).r.m.length = (decD limP S).r.m.length) := Lib.hid rfl
    clear hcz1 hcz2 hcz3
    generalize decD limP S = D at *
    have hx := HT.out.bx
    obtain ⟨f0, f1, f2, f3, f4, f5, f6, f7, f8, f9, f10, f11⟩ := hx.cells
    have HMV : Hid (MvAt wt oz D.r.m) := Lib.hid (RowK.pts encM_len (by decide) HT.out.row)
    have HRES : Hid (wt.heap[w.heap.size]? = some (.cells #[.int .i64 0, .int .i64 0, .int .i64 0, .string ⟨#[]⟩, .string ⟨#[]⟩, .int .i64 0, .int .i64 0, .int .i64 0, .string ⟨#[]⟩, .int .i64 0, .int .i64 0, .slice none 0 0] 24 (0, 0))) := Lib.hid ((HT.out.low.block w.heap.size (by simp)).trans HR.out)
    have HLOW : Hid (Below w.heap.size w wt) := Lib.hid (H0.out.trans (HT.out.low.mono (by omega)))
    clear hx
    by_cases he : endA D.l D.sp = 0
    · have hE : (endA D.l D.sp != 0) = false := by rw [he]; rfl
      have HE := Lib.hid he
      clear he
      cases hg : goodB D.r with
      | true =>
        have HG := Lib.hid hg
        have HDR : Hid (decR D = some D.r) := Lib.hid (by unfold decR; rw [if_pos ⟨HE.out, hg⟩])
        clear hg
        go_wp2_with (first
          | (refine wpList_store_row rfl 24 (Operand.tmp 2) _ rfl w.heap.size _ rfl rfl 24 _ ((HB9.out.block w.heap.size (lt_of_block HRES.out)).trans HRES.out) opSize rfl (by simp [Value.oneCell']) ?_)
          | (go_at_call 37; refine (uend_any _ _ _ _ HT.out.un).mono ?_; rintro e w8 ⟨rfl, rfl⟩)
          | (go_at_call 13; refine (good_any D.r HFIT.out oz _ cz rfl _ (HF.out.keep HLOW.out) HMV.out).mono ?_; rintro e w9 ⟨hge, hb9⟩; rw [HG.out] at hge; subst hge; have HB9 := Lib.hid hb9; have hx9 := HT.out.bx.keep hb9; obtain ⟨g0, g1, g2, g3, g4, g5, g6, g7, g8, g9, g10, g11⟩ := hx9.cells; clear hb9 hx9 f0 f1 f2 f3 f4 f5 f6 f7 f8 f9 f10 f11))
        refine ret_row (p := 2) (u := 3) rfl rfl rfl (setRow_heap _ _ _ _ _ _ ((HB9.out.block w.heap.size (lt_of_block HRES.out)).trans HRES.out)) Tryd.underlying24 rfl opSize ?_
        have hbb := below_setRow (bstep HLOW.out HB9.out) (Nat.le_refl w.heap.size) #[.int .i64 D.r.cl, .int .i64 D.r.sq, .int .i64 D.r.k, .string D.r.p, .string D.r.t, .int .i64 D.r.sz, .int .i64 D.r.h, .int .i64 D.r.o, .string D.r.d, .int .i64 D.r.tk, .int .i64 D.r.i, .slice oz D.r.m.length cz]
        exact ⟨D.r, 0, oz, _, cz, rfl, rfl, HFORM.out, (HMV.out.grow HB9.out).only (setRow_only _ _ _) (fun a ha => by have hh := (own_base HT.out.row).1 a ha; omega), hbb, .inl ⟨HDR.out, rfl⟩⟩
      | false =>
        have HG := Lib.hid hg
        have HDR : Hid (decR D = none) := Lib.hid (by unfold decR; rw [if_neg (fun h => by rw [hg] at h; cases h.2)])
        clear hg
        go_wp2_with (first
          | (refine wpList_store_row rfl 24 (Operand.tmp 2) _ rfl w.heap.size _ rfl rfl 24 _ ((HB9.out.block w.heap.size (lt_of_block HRES.out)).trans HRES.out) opSize rfl (by simp [Value.oneCell']) ?_)
          | (go_at_call 37; refine (uend_any _ _ _ _ HT.out.un).mono ?_; rintro e w8 ⟨rfl, rfl⟩)
          | (go_at_call 13; refine (good_any D.r HFIT.out oz _ cz rfl _ (HF.out.keep HLOW.out) HMV.out).mono ?_; rintro e w9 ⟨hge, hb9⟩; rw [HG.out] at hge; subst hge; have HB9 := Lib.hid hb9; clear hb9 f0 f1 f2 f3 f4 f5 f6 f7 f8 f9 f10 f11))
        refine ret_row (p := 2) (u := 3) rfl rfl rfl (setRow_heap _ _ _ _ _ _ ((HB9.out.block w.heap.size (lt_of_block HRES.out)).trans HRES.out)) Tryd.underlying24 rfl opSize ?_
        have hbb := below_setRow (bstep HLOW.out HB9.out) (Nat.le_refl w.heap.size) #[.int .i64 0, .int .i64 0, .int .i64 0, .string ⟨#[]⟩, .string ⟨#[]⟩, .int .i64 0, .int .i64 0, .int .i64 0, .string ⟨#[]⟩, .int .i64 0, .int .i64 0, .slice none 0 0]
        exact ⟨zr, 11, none, 0, 0, rfl, rfl, fun _ => ⟨rfl, rfl⟩, MvAt.nil _ _, hbb, .inr ⟨HDR.out, rfl, rfl⟩⟩
    · have hE : (endA D.l D.sp != 0) = true := bne_iff_ne.2 he
      have HDR : Hid (decR D = none) := Lib.hid (by unfold decR; rw [if_neg (fun h => he h.1)])
      clear he
      go_wp2_with (first
        | (refine wpList_store_row rfl 24 (Operand.tmp 2) _ rfl w.heap.size _ rfl rfl 24 _ HRES.out opSize rfl (by simp [Value.oneCell']) ?_)
        | (go_at_call 37; refine (uend_any _ _ _ _ HT.out.un).mono ?_; rintro e w8 ⟨rfl, rfl⟩))
      refine ret_row (p := 2) (u := 3) rfl rfl rfl (setRow_heap _ _ _ _ _ _ HRES.out) Tryd.underlying24 rfl opSize ?_
      have hbb := below_setRow HLOW.out (Nat.le_refl w.heap.size) #[.int .i64 0, .int .i64 0, .int .i64 0, .string ⟨#[]⟩, .string ⟨#[]⟩, .int .i64 0, .int .i64 0, .int .i64 0, .string ⟨#[]⟩, .int .i64 0, .int .i64 0, .slice none 0 0]
      exact ⟨zr, 11, none, 0, 0, rfl, rfl, fun _ => ⟨rfl, rfl⟩, MvAt.nil _ _, hbb, .inr ⟨HDR.out, rfl, rfl⟩⟩
end Go.Proofs.YtlffcilgmockmaaDoor.OpW
