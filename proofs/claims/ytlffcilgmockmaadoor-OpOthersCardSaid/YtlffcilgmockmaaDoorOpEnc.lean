/- op.Encode. -/
import Derived.Test.YtlffcilgmockmaaDoorOpOk
import Derived.Test.YtlffcilgmockmaaDoorOpGood
namespace Go.Proofs.YtlffcilgmockmaaDoor.OpW
set_option maxRecDepth 100000
open Go.RowKit OpP PackW
/-- the packer in the block behind w1, holding a text -/
structure EncAt (w1 : World) (L : List UInt8) (S : Bool) (wr : World) : Prop where
  pk : PkAt w1.heap.size w1.heap.size L S wr
  low : Below w1.heap.size w1 wr
theorem EncAt.drew {w1 wr : World} {L : List UInt8} {S : Bool} (h : EncAt w1 L S wr) : EncAt w1 L S wr.drew := ⟨h.pk.drew, h.low.drew⟩
theorem enc_num {w1 wr : World} {L : List UInt8} {S : Bool} (h : EncAt w1 L S wr) (v n : Int) (hv : v < 9223372036854775808) (hn : n ≠ 0) (hL : L.length ≤ 100000000) :
    Calls Tryd.prog 21 #[.pointer (some ⟨w1.heap.size, 0, none⟩), .int .i64 v, .int .i64 n] wr fun e w' => e = .returned (.tuple #[]) ∧ EncAt w1 (pkl L [fdN v n]) (pkb S [fdN v n]) w' := by
  rw [pkl_num _ _ _ hn, pkb_num _ _ _ hn]
  refine (num_any _ _ _ _ v n hv _ h.pk (by omega) h.low.size).mono ?_
  rintro e w' ⟨rfl, h1, h2⟩
  exact ⟨rfl, h1, h.low.trans h2.below⟩
theorem pkl_one (l : List UInt8) (v n : Int) : (pkl l [fdN v n]).length ≤ l.length + 8 := pkl_len _ _
theorem head0 : ([] : List UInt8).length ≤ 100000000 := by simp
theorem head1 (a x : Int) : (pkl [] [fdN a x]).length ≤ 100000000 := Nat.le_trans (pkl_one _ _ _) (by simp)
theorem head2 (a x b y : Int) : (pkl (pkl [] [fdN a x]) [fdN b y]).length ≤ 100000000 := Nat.le_trans (pkl_one _ _ _) (Nat.le_trans (Nat.add_le_add_right (pkl_one _ _ _) 8) (by simp))
theorem enc_put {w1 wr : World} {L : List UInt8} {S : Bool} (h : EncAt w1 L S wr) (c : UInt8) (hc : IsF c) (r : Rec) (hr : Fit r) (hw : Wf r) (oa : Option Addr) (n cap : Nat) (hn : n = r.m.length) (hm : MvAt w1 oa r.m) (hL : L.length ≤ 100000000) :
    Calls Tryd.prog 22 #[.pointer (some ⟨w1.heap.size, 0, none⟩), .int .u8 c.toNat, .agg #[.int .i64 r.cl, .int .i64 r.sq, .int .i64 r.k, .string r.p, .string r.t, .int .i64 r.sz, .int .i64 r.h, .int .i64 r.o, .string r.d, .int .i64 r.tk, .int .i64 r.i, .slice oa n cap]] wr fun e w' => e = .returned (.tuple #[]) ∧ EncAt w1 (pkl L (fdsF c r)) (pkb S (fdsF c r)) w' := by
  have key : Calls Tryd.prog 22 #[.pointer (some ⟨w1.heap.size, 0, none⟩), .int .u8 c.toNat, .agg #[.int .i64 r.cl, .int .i64 r.sq, .int .i64 r.k, .string r.p, .string r.t, .int .i64 r.sz, .int .i64 r.h, .int .i64 r.o, .string r.d, .int .i64 r.tk, .int .i64 r.i, .slice oa n cap]] wr (PutPost w1.heap.size w1.heap.size (pkl L (fdsF c r)) (pkb S (fdsF c r)) wr) := by
    rcases hc with rfl | rfl | rfl | rfl | rfl | rfl | rfl | rfl | rfl
    · exact put_112 _ _ _ _ r hr hw oa n cap wr h.pk hL h.low.size
    · exact put_116 _ _ _ _ r hr hw oa n cap wr h.pk hL h.low.size
    · exact put_115 _ _ _ _ r hr hw oa n cap wr h.pk hL h.low.size
    · exact put_104 _ _ _ _ r hr hw oa n cap wr h.pk hL h.low.size
    · exact put_111 _ _ _ _ r hr hw oa n cap wr h.pk hL h.low.size
    · exact put_100 _ _ _ _ r hr hw oa n cap wr h.pk hL h.low.size
    · exact put_107 _ _ _ _ r hr hw oa n cap wr h.pk hL h.low.size
    · exact put_105 _ _ _ _ r hr hw oa n cap wr h.pk hL h.low.size
    · exact put_109 _ _ _ _ r hr hw oa n cap hn wr h.pk hL h.low.size (KAt.below hm h.low)
  refine key.mono ?_
  rintro e w' ⟨rfl, h1, h2⟩
  exact ⟨rfl, h1, h.low.trans h2.below⟩
theorem fdsF_len (c : UInt8) (r : Rec) (hr : Fit r) : fdSz (fdsF c r) ≤ 33000000 := by
  have hN : ∀ v n : Int, fdSz [fdN v n] = 8 := fun v n => rfl
  have hT : ∀ s : ByteArray, fdSz [fdT s] = s.size + 8 := fun s => by simp [fdSz, fdT]
  obtain ⟨h1, h2, h3, h4⟩ := hr
  have e1 : fdSz (fdN r.m.length 1 :: r.m.flatMap mvF) = 8 + 32 * r.m.length := by rw [← fdSz_flat]; show 8 + _ = _; rfl
  unfold fdsF
  split
  · rw [hT]; omega
  split
  · rw [hT]; omega
  split
  · rw [hN]; omega
  split
  · rw [hN]; omega
  split
  · rw [hN]; omega
  split
  · rw [hT]; omega
  split
  · rw [hN]; omega
  split
  · rw [hN]; omega
  split
  · rw [e1]; omega
  · simp [fdSz]
/-- the text when k fields are packed -/
def encTo (s : ByteArray) (r : Rec) (k : Nat) : List PackW.Fd := heads r ++ (s.data.toList.take k).flatMap fun c => fdsF c r
theorem encTo_snoc (s : ByteArray) (r : Rec) (k : Nat) (hk : k < s.size) : encTo s r (k + 1) = encTo s r k ++ fdsF s[k] r := by
  unfold encTo
  rw [List.take_succ_eq_append_getElem (by simpa using hk), List.flatMap_append, List.append_assoc]
  congr 2
  simp only [List.flatMap_cons, List.flatMap_nil, List.append_nil]
  rfl
theorem encTo_len (s : ByteArray) (r : Rec) (hr : Fit r) (k : Nat) : k ≤ s.size → fdSz (encTo s r k) ≤ 24 + 33000000 * k := by
  induction k with
  | zero => intro _; unfold encTo; rw [List.take_zero, List.flatMap_nil, List.append_nil]; exact Nat.le_refl _
  | succ k ih =>
    intro hk
    have h1 := ih (by omega)
    rw [encTo_snoc s r k (by omega), fdSz_app]
    have := fdsF_len s[k] r hr
    omega
theorem enc0 (s : ByteArray) (r : Rec) : pkl (pkl (pkl [] [fdN r.k 1]) [fdN r.cl 1]) [fdN r.sq 4] = pkl [] (encTo s r 0) ∧ pkb (pkb (pkb false [fdN r.k 1]) [fdN r.cl 1]) [fdN r.sq 4] = pkb false (encTo s r 0) := by
  unfold encTo
  rw [List.take_zero, List.flatMap_nil, List.append_nil]
  exact ⟨rfl, rfl⟩
theorem encTo_all (s : ByteArray) (r : Rec) (k : Nat) (hk : s.size ≤ k) : encTo s r k = heads r ++ s.data.toList.flatMap fun c => fdsF c r := by
  unfold encTo; rw [List.take_of_length_le (by simpa using hk)]
def EncPost (r : Rec) (w : World) (e : Ending) (w' : World) : Prop := e = .returned (.tuple #[.string (encS r), .int .i64 (encE r)]) ∧ Below w.heap.size w w'
set_option maxHeartbeats 3200000 in
theorem enc_any (r : Rec) (hr : Fit r) (oa : Option Addr) (n c : Nat) (hn : n = r.m.length) (w : World) (hf : Fl w) (hm : MvAt w oa r.m) : Calls Tryd.prog 11 #[.agg #[.int .i64 r.cl, .int .i64 r.sq, .int .i64 r.k, .string r.p, .string r.t, .int .i64 r.sz, .int .i64 r.h, .int .i64 r.o, .string r.d, .int .i64 r.tk, .int .i64 r.i, .slice oa n c]] w (EncPost r w) := by
  have HR := Lib.hid hr
  have HN := Lib.hid hn
  have HM := Lib.hid hm
  have H0 := Lib.hid (below_alloc w (.cells #[.int .i64 r.cl, .int .i64 r.sq, .int .i64 r.k, .string r.p, .string r.t, .int .i64 r.sz, .int .i64 r.h, .int .i64 r.o, .string r.d, .int .i64 r.tk, .int .i64 r.i, .slice oa n c] 24))
  have HBX : Hid (OBox (w.alloc (.cells #[.int .i64 r.cl, .int .i64 r.sq, .int .i64 r.k, .string r.p, .string r.t, .int .i64 r.sz, .int .i64 r.h, .int .i64 r.o, .string r.d, .int .i64 r.tk, .int .i64 r.i, .slice oa n c] 24)) w.heap.size r (.slice oa n c)) := Lib.hid (heap_alloc_new w _)
  have HF := Lib.hid (hf.keep H0.out)
  have HM1 := Lib.hid (hm.grow H0.out)
  clear hr hn hm hf
  cases hg : goodB r with
  | false =>
    have HE : Hid (encS r = ⟨#[]⟩ ∧ encE r = 11) := Lib.hid ⟨by unfold encS; rw [hg]; rfl, by unfold encE; rw [hg]; rfl⟩
    have HG := Lib.hid hg
    clear hg
    go_enter Tryd.func11, Tryd.ntmps11
    go_wp2_with (go_at_call 13; refine (good_any r HR.out oa n c HN.out _ HF.out HM1.out).mono ?_; rintro e w1 ⟨he, hb1⟩; rw [HG.out] at he; subst he; have HB1 := Lib.hid (bstep H0.out hb1); clear hb1)
    go_ret2
    exact ⟨by rw [HE.out.1, HE.out.2]; rfl, HB1.out⟩
  | true =>
    have HD := Lib.hid (enc_done hg)
    have HW := Lib.hid (good_wf hg)
    have hfm := (good_parts hg).2.1
    have hk := formB_kind hfm
    have hfc := HF.out r.k.toNat (by omega) (by omega)
    rw [Int.toNat_of_nonneg (by omega)] at hfc
    have HI := Lib.hid (fields_isF r.k hk)
    have hss := fields_size r.k hk
    have HFD : Hid (fds r = heads r ++ (fieldsOf r.k).data.toList.flatMap fun c => fdsF c r) := Lib.hid rfl
    have hkb : 1 ≤ r.k ∧ r.k ≤ 14 := hk
    generalize fieldsOf r.k = s at hfc HI hss HFD
    have HFC := Lib.hid hfc
    have HG := Lib.hid hg
    clear hg hfm hk hfc
    go_enter Tryd.func11, Tryd.ntmps11
    go_wp2_with (first
      | (go_at_call 13; refine (good_any r HR.out oa n c HN.out _ HF.out HM1.out).mono ?_; rintro e w1 ⟨he, hb1⟩; rw [HG.out] at he; subst he; have HB1 := Lib.hid hb1; have HX1 := Lib.hid (HBX.out.keep hb1); have HFC1 := Lib.hid (cell_step hb1 HFC.out); clear hb1)
      | (go_at_call 20; refine (new_any _).mono ?_; rintro e w2 ⟨rfl, hp2, hb2, hz2⟩; have HA2 : Hid (EncAt w1 [] false w2) := Lib.hid ⟨hp2, hb2⟩; have hx := HX1.out.keep hb2; obtain ⟨d0, d1, d2, d3, d4, d5, d6, d7, d8, d9, d10, d11⟩ := hx.cells; clear hp2 hb2 hz2 hx d0 d1 d3 d4 d5 d6 d7 d8 d9 d10 d11)
      | (have hz := HA4.out; clear hz; go_at_call 21; refine (enc_num HA4.out r.sq 4 HW.out.sq (by decide) (head2 _ _ _ _)).mono ?_; rintro e w5 ⟨rfl, ha5⟩; have HA5 := Lib.hid ha5; have hx := HX1.out.keep ha5.low; have hfc5 := cell_step ha5.low HFC1.out; obtain ⟨f0, f1, f2, f3, f4, f5, f6, f7, f8, f9, f10, f11⟩ := hx.cells; clear ha5 hx f0 f1 f3 f4 f5 f6 f7 f8 f9 f10 f11)
      | (have hz := HA3.out; clear hz; go_at_call 21; refine (enc_num HA3.out r.cl 1 HW.out.cl (by decide) (head1 _ _)).mono ?_; rintro e w4 ⟨rfl, ha4⟩; have HA4 := Lib.hid ha4; have hx := HX1.out.keep ha4.low; obtain ⟨g0, g1, g2, g3, g4, g5, g6, g7, g8, g9, g10, g11⟩ := hx.cells; clear ha4 hx g0 g2 g3 g4 g5 g6 g7 g8 g9 g10 g11)
      | (go_at_call 21; refine (enc_num HA2.out r.k 1 HW.out.k (by decide) head0).mono ?_; rintro e w3 ⟨rfl, ha3⟩; have HA3 := Lib.hid ha3; have hx := HX1.out.keep ha3.low; obtain ⟨e0, e1, e2, e3, e4, e5, e6, e7, e8, e9, e10, e11⟩ := hx.cells; clear ha3 hx e1 e2 e3 e4 e5 e6 e7 e8 e9 e10 e11))
    have HA : Hid (EncAt w1 (pkl [] (encTo s r 0)) (pkb false (encTo s r 0)) w5) := Lib.hid (by rw [← (enc0 s r).1, ← (enc0 s r).2]; exact HA5.out)
    clear d2 e0 g1 f2 hfc5 hkb
    go_loopw [29] (fun i wr => ∃ k : Nat, k ≤ s.size ∧ i = .int .i64 (k : Int) ∧ EncAt w1 (pkl [] (encTo s r k)) (pkb false (encTo s r k)) wr) (fun i _ => ((s.size : Int) - intOf i).toNat)
    case atStart => exact ⟨0, by omega, rfl, HA.out⟩
    case round =>
      obtain ⟨k, hk, rfl, hea⟩ := hrel
      have HEA := Lib.hid hea
      have hx := HX1.out.keep hea.low
      obtain ⟨e0, e1, e2, e3, e4, e5, e6, e7, e8, e9, e10, e11⟩ := hx.cells
      have HLEN : Hid ((pkl [] (encTo s r k)).length ≤ 100000000) := Lib.hid (by
        have h1 := pkl_len (encTo s r k) []
        have h2 := encTo_len s r HR.out k hk
        simp only [List.length_nil] at h1
        omega)
      clear hea hx
      by_cases hlt : k < s.size
      · have hk0 : (0 : Int) ≤ (k : Int) := by omega
        have hkl : (k : Int) < (s.size : Int) := by omega
        have HC : Hid (IsF s[k]) := Lib.hid (HI.out _ (List.getElem_mem (by simpa using hlt)))
        have HS := Lib.hid (encTo_snoc s r k hlt)
        go_wp2_with fail
        go_still_tail 5, (by kernel_rfl)
        go_wp2_with (go_at_call 22; refine (enc_put HEA.out.drew s[k] HC.out r HR.out HW.out oa n c HN.out (HM1.out.grow HB1.out) HLEN.out).mono ?_; rintro e w6 ⟨rfl, ha6⟩; have HA6 : Hid (EncAt w1 (pkl [] (encTo s r (k + 1))) (pkb false (encTo s r (k + 1))) w6) := Lib.hid (by rw [HS.out, pkl_app, pkb_app]; exact ha6); clear ha6)
        exact ⟨⟨k + 1, by omega, by simp, HA6.out⟩, by simp [intOf]; omega⟩
      · have hk1 : ¬ ((k : Int) < (s.size : Int)) := by omega
        have HE : Hid (encTo s r k = fds r) := Lib.hid (by rw [encTo_all s r k (by omega), HFD.out])
        have HPK := Lib.hid HEA.out.pk
        rw [HE.out] at HPK
        clear e0 e1 e2 e3 e4 e5 e6 e7 e8 e9 e10 e11
        go_wp2_with (go_at_call 23; refine (done_any _ _ _ _ _ HPK.out HEA.out.low.size).mono ?_; rintro e w7 ⟨he, hf7⟩; rw [HD.out.1, HD.out.2.1] at he; subst he; have HF7 := Lib.hid (HEA.out.low.trans hf7.below); clear hf7)
        go_ret2
        exact ⟨rfl, bstep (bstep H0.out HB1.out) HF7.out⟩
end Go.Proofs.YtlffcilgmockmaaDoor.OpW
