/- The walk of HandleMost. -/
import Derived.Test.YtjfdbcmmmoipcaaHanWakes
namespace Go.Proofs.Ytjfdbcmmmoipcaa.HanW
open Go.RowKit HanP
theorem openE_ok {L : List Ha} {c n i : Int} (m : mayOpen c n i = true) (h : HanP.look L (c, n) = none) (k : count L c < 16) : openE L c n i = 0 := by
  unfold openE
  rw [if_pos m, h, if_neg (by simp), if_neg (by omega)]
theorem openE_many {L : List Ha} {c n i : Int} (m : mayOpen c n i = true) (h : HanP.look L (c, n) = none) (k : 16 ≤ count L c) : openE L c n i = 3 := by
  unfold openE
  rw [if_pos m, h, if_neg (by simp), if_pos k]
/-- two clients with i handles each -/
structure Both (L : List Ha) (a b : Int) (i : Nat) : Prop where
  ca : count L a = i
  cb : count L b = i
  la : ∀ j : Int, HanP.look L (a, j) = if 0 ≤ j ∧ j < i then some 2 else none
  lb : ∀ j : Int, HanP.look L (b, j) = if 0 ≤ j ∧ j < i then some 3 else none
theorem Both.nil (a b : Int) : Both [] a b 0 where
  ca := rfl
  cb := rfl
  la j := by rw [if_neg (by omega)]; rfl
  lb j := by rw [if_neg (by omega)]; rfl
theorem Both.step {L : List Ha} {ls : List Int} {a b : Int} {i : Nat} (h : Both L a b i) (g : HGood L ls) (ha : 0 ≤ a ∧ a < 8) (hb : 0 ≤ b ∧ b < 8) (hab : a ≠ b) (hi : i < 16) :
    openE L a i 2 = 0 ∧ HGood (openL L a i 2) ls ∧ openE (openL L a i 2) b i 3 = 0 ∧ Both (openL (openL L a i 2) b i 3) a b (i + 1) := by
  have m1 : mayOpen a i 2 = true := decide_eq_true ⟨ha, by omega, by omega, by omega, by omega⟩
  have m2 : mayOpen b i 3 = true := decide_eq_true ⟨hb, by omega, by omega, by omega, by omega⟩
  have n1 : HanP.look L (a, (i : Int)) = none := by rw [h.la, if_neg (by omega)]
  have e1 : openE L a i 2 = 0 := openE_ok m1 n1 (by rw [h.ca]; omega)
  have l1 : openL L a i 2 = ins L ⟨a, i, 2⟩ := by unfold openL; rw [if_pos e1]
  have g1 : HGood (ins L ⟨a, i, 2⟩) ls := g.ins m1 n1 (by rw [h.ca]; omega)
  have k1 := look_ins g.rises (a := ⟨a, i, 2⟩) n1
  have c1 : ∀ d, count (ins L ⟨a, i, 2⟩) d = count L d + if a = d then 1 else 0 := count_ins L ⟨a, i, 2⟩
  rw [l1]
  have n2 : HanP.look (ins L ⟨a, i, 2⟩) (b, (i : Int)) = none := by
    rw [k1]
    show (if (b, (i : Int)) = (a, (i : Int)) then _ else _) = _
    rw [if_neg (by simp [Ne.symm hab]), h.lb, if_neg (by omega)]
  have e2 : openE (ins L ⟨a, i, 2⟩) b i 3 = 0 := openE_ok m2 n2 (by rw [c1, h.cb, if_neg hab]; omega)
  have l2 : openL (ins L ⟨a, i, 2⟩) b i 3 = ins (ins L ⟨a, i, 2⟩) ⟨b, i, 3⟩ := by unfold openL; rw [if_pos e2]
  have k2 := look_ins g1.rises (a := ⟨b, i, 3⟩) n2
  have c2 : ∀ d, count (ins (ins L ⟨a, i, 2⟩) ⟨b, i, 3⟩) d = count (ins L ⟨a, i, 2⟩) d + if b = d then 1 else 0 := count_ins _ ⟨b, i, 3⟩
  rw [l2]
  refine ⟨e1, g1, e2, ⟨?_, ?_, fun j => ?_, fun j => ?_⟩⟩
  · rw [c2, c1, h.ca, if_pos rfl, if_neg (Ne.symm hab)]
  · rw [c2, c1, h.cb, if_pos rfl, if_neg hab]
  · rw [k2]
    show (if (a, j) = (b, (i : Int)) then _ else _) = _
    rw [if_neg (by simp [hab]), k1]
    show (if (a, j) = (a, (i : Int)) then some 2 else _) = _
    by_cases hj : j = i
    · subst hj; rw [if_pos rfl, if_pos (by omega)]
    · rw [if_neg (by simp [hj]), h.la]
      by_cases h1 : 0 ≤ j ∧ j < (i : Int)
      · rw [if_pos h1, if_pos (by omega)]
      · rw [if_neg h1, if_neg (by omega)]
  · rw [k2]
    show (if (b, j) = (b, (i : Int)) then some 3 else _) = _
    by_cases hj : j = i
    · subst hj; rw [if_pos rfl, if_pos (by omega)]
    · rw [if_neg (by simp [hj]), k1]
      show (if (b, j) = (a, (i : Int)) then _ else _) = _
      rw [if_neg (by simp [Ne.symm hab]), h.lb]
      by_cases h1 : 0 ≤ j ∧ j < (i : Int)
      · rw [if_pos h1, if_pos (by omega)]
      · rw [if_neg h1, if_neg (by omega)]
theorem count_del {L : List Ha} (hL : Rises L) {x : Int × Int} {i : Int} (h : HanP.look L x = some i) (c : Int) : count (del L x) c + (if x.1 = c then 1 else 0) = count L c := by
  have hm := (look_iff hL x i).1 h
  obtain ⟨k, hk, hx⟩ := List.getElem_of_mem hm
  have h1 : del L (⟨x.1, x.2, i⟩ : Ha).key = L.take k ++ L.drop (k + 1) := Sl.del_place haLin hL (by rw [List.getElem?_eq_getElem hk, hx])
  rw [show (⟨x.1, x.2, i⟩ : Ha).key = x from rfl] at h1
  have h2 : L = L.take k ++ (⟨x.1, x.2, i⟩ : Ha) :: L.drop (k + 1) := by
    rw [← hx, List.getElem_cons_drop, List.take_append_drop]
  have h3 : count L c = count (L.take k ++ (⟨x.1, x.2, i⟩ : Ha) :: L.drop (k + 1)) c := congrArg (fun l => count l c) h2
  rw [h1, h3]
  unfold count
  simp only [List.countP_append, List.countP_cons, decide_eq_true_eq]
  omega
theorem Both.last {L : List Ha} {ls : List Int} {a b : Int} (h : Both L a b 16) (g : HGood L ls) (ha : 0 ≤ a ∧ a < 8) (hab : a ≠ b) :
    openE L a 99 2 = 3 ∧ openL L a 99 2 = L ∧ ofI L a 3 = 2 ∧ closeE L a 3 = 0 ∧ ofI (del L (a, 3)) b 3 = 3 ∧ ofB (del L (a, 3)) b 3 = true ∧ openE (del L (a, 3)) a 99 2 = 0 ∧ count (openL (del L (a, 3)) a 99 2) a = 16 := by
  have m1 : mayOpen a 99 2 = true := decide_eq_true ⟨ha, by omega, by omega, by omega, by omega⟩
  have n1 : HanP.look L (a, (99 : Int)) = none := by rw [h.la, if_neg (by omega)]
  have e1 : openE L a 99 2 = 3 := openE_many m1 n1 (by rw [h.ca]; omega)
  have n2 : HanP.look L (a, (3 : Int)) = some 2 := by rw [h.la, if_pos (by omega)]
  have n3 : HanP.look (del L (a, 3)) (b, (3 : Int)) = some 3 := by
    rw [look_del g.rises]
    show (if (b, (3 : Int)) = (a, (3 : Int)) then _ else _) = _
    rw [if_neg (by simp [Ne.symm hab]), h.lb, if_pos (by omega)]
  have n4 : HanP.look (del L (a, 3)) (a, (99 : Int)) = none := by
    rw [look_del g.rises]
    show (if (a, (99 : Int)) = (a, (3 : Int)) then _ else _) = _
    rw [if_neg (by simp), n1]
  have c4 : count (del L (a, 3)) a = 15 := by
    have := count_del g.rises n2 a
    rw [h.ca, if_pos rfl] at this; omega
  have e4 : openE (del L (a, 3)) a 99 2 = 0 := openE_ok m1 n4 (by omega)
  refine ⟨e1, by unfold openL; rw [e1]; rfl, by unfold ofI; rw [n2]; rfl, by unfold closeE; rw [n2]; rfl, by unfold ofI; rw [n3]; rfl, by unfold ofB; rw [n3]; rfl, e4, ?_⟩
  unfold openL
  rw [if_pos e4, count_ins, c4]
  simp
structure HdM (W wr : World) (hb b : Nat) (L : List Ha) (ls : List Int) : Prop where
  h : HIs wr hb b L ls
  below : Below W.heap.size W wr
  bh : W.heap.size ≤ hb
  bb : W.heap.size ≤ b
theorem HdM.onB {W w w' : World} {hb b : Nat} {L L' : List Ha} {ls : List Int} (p : HdM W w hb b L ls) (h' : HIs w' hb b L' ls) (k : Only b w w') : HdM W w' hb b L' ls :=
  ⟨h', p.below.trans (k.below p.bb p.below.size), p.bh, p.bb⟩
theorem HdM.onH {W w w' : World} {hb b : Nat} {L : List Ha} {ls ls' : List Int} (p : HdM W w hb b L ls) (h' : HIs w' hb b L ls') (k : Only hb w w') : HdM W w' hb b L ls' :=
  ⟨h', p.below.trans (k.below p.bh p.below.size), p.bh, p.bb⟩
theorem HdM.grow {W w w' : World} {hb b : Nat} {L : List Ha} {ls : List Int} (p : HdM W w hb b L ls) (k : Below w.heap.size w w') : HdM W w' hb b L ls :=
  ⟨p.h.grow k, bstep p.below k, p.bh, p.bb⟩
theorem open_is (hb b : Nat) (L : List Ha) (ls : List Int) (c n i : Int) (r : Int) (hr : openE L c n i = r) (hok : haOk (c, n)) (W w : World) (h : HdM W w hb b L ls) :
    Calls Try.prog 10 #[.pointer (some ⟨hb, 0, none⟩), .int .i64 c, .int .i64 n, .int .i64 i] w fun e w' => e = .returned (.int .i64 r) ∧ HdM W w' hb b (openL L c n i) ls := by
  subst hr
  exact (open_any hb b L ls c n i hok w h.h).mono fun _ _ ⟨he, h1, h2⟩ => ⟨he, h.onB h1 h2⟩
theorem okS {c n : Int} (h : 0 ≤ c ∧ c < 8) (h2 : 0 ≤ n ∧ n ≤ 100) : haOk (c, n) := haOk_of (by simp [IntKind.min, IntKind.max, IntKind.signed, IntKind.bits]; omega) (by simp [IntKind.min, IntKind.max, IntKind.signed, IntKind.bits]; omega)
set_option maxHeartbeats 1600000 in
theorem most_walk (cc : Int) (w0 : (Lit.int .u8 cc).wf = true) (dd : Int) (w1 : (Lit.int .u8 dd).wf = true) (W : World) :
    Calls Try.prog 4 #[.int .u8 cc, .int .u8 dd] W fun e w' => e = .returned (.bool true) ∧ Below W.heap.size W w' := by
  obtain ⟨c1, c2⟩ := u8_bd w0
  obtain ⟨d1, d2⟩ := u8_bd w1
  have ha : 0 ≤ cc % 8 ∧ cc % 8 < 8 := by omega
  have hb : 0 ≤ dd % 8 ∧ dd % 8 < 8 := by omega
  clear w0 w1
  by_cases hab : cc % 8 = dd % 8
  · have he : (cc % 8 == dd % 8) = true := by rw [beq_iff_eq]; exact hab
    clear hab
    go_enter Try.func4, Try.ntmps4
    go_wp2_with (first
      | (go_at_call 7; refine (new_any _).mono ?_; rintro e w1 ⟨rfl, h1, hb1⟩; have HB1 := Lib.hid hb1; clear h1 hb1)
      | (go_at_call 14; refine (wakes_any _).mono ?_; rintro e w2 ⟨rfl, hb2⟩; have HB2 := Lib.hid (bstep HB1.out hb2); clear hb2))
    go_ret
    exact ⟨rfl, HB2.out⟩
  · have he : (cc % 8 == dd % 8) = false := by simpa using hab
    have HAB := Lib.hid hab
    clear hab
    go_enter Try.func4, Try.ntmps4
    go_wp2_with (go_at_call 7; refine (new_any _).mono ?_; rintro e w1 ⟨rfl, h1, hb1⟩; have HH0 : Hid (HdM W w1 (W.heap.size + 1) W.heap.size [] (List.replicate 8 0)) := Lib.hid ⟨h1, hb1, by omega, by omega⟩; clear h1 hb1)
    generalize W.heap.size + 1 = hh at *
    obtain ⟨b, hbb⟩ : ∃ b, b = W.heap.size := ⟨_, rfl⟩
    have HH1 : Hid (HdM W w1 hh b [] (List.replicate 8 0)) := Lib.hid (by rw [hbb]; exact HH0.out)
    clear HH0 hbb
    generalize List.replicate 8 (0 : Int) = ls at *
    generalize cc % 8 = A at *
    generalize dd % 8 = D at *
    go_loopw [8] (fun i wr => ∃ (k : Nat) (L : List Ha), k ≤ 16 ∧ i = .int .i64 (k : Int) ∧ HdM W wr hh b L ls ∧ Both L A D k) (fun i _ => (16 - intOf i).toNat)
    case atStart => exact ⟨0, [], by omega, rfl, HH1.out, Both.nil _ _⟩
    case round =>
      obtain ⟨k, L, hk, rfl, hd, hboth⟩ := hrel
      have HD := Lib.hid hd
      have HBO := Lib.hid hboth
      clear hd hboth HH1
      by_cases hlt : k < 16
      · have hki : (k : Int) < 16 := by omega
        have HST := Lib.hid (HBO.out.step HD.out.h.good ha hb HAB.out hlt)
        have HK1 := Lib.hid (okS ha (n := (k : Int)) (by omega))
        have HK2 := Lib.hid (okS hb (n := (k : Int)) (by omega))
        clear hlt
        go_wp2_with (first
          | (go_at_call_of 10 (Value.int IntKind.i64 A); refine (open_is _ _ _ _ _ _ _ 0 HST.out.1 HK1.out _ _ HD.out).mono ?_; rintro e w2 ⟨rfl, h2⟩; have H2 := Lib.hid h2; clear h2)
          | (go_at_call_of 10 (Value.int IntKind.i64 D); refine (open_is _ _ _ _ _ _ _ 0 HST.out.2.2.1 HK2.out _ _ H2.out).mono ?_; rintro e w3 ⟨rfl, h3⟩; have H3 := Lib.hid h3; clear h3))
        exact ⟨⟨k + 1, _, by omega, by simp, H3.out, HST.out.2.2.2⟩, by simp [intOf]; omega⟩
      · obtain rfl : k = 16 := by omega
        have HLA := Lib.hid (HBO.out.last HD.out.h.good ha HAB.out)
        have HK9 := Lib.hid (okS ha (n := 99) (by omega))
        have HK3 := Lib.hid (okS ha (n := 3) (by omega))
        have HK4 := Lib.hid (okS hb (n := 3) (by omega))
        clear hk
        go_wp2_with (first
          | (with_reducible (have hz := H4.out); go_at_call 10; refine (open_is _ _ _ _ _ _ _ 0 HLA.out.2.2.2.2.2.2.1 HK9.out _ _ H4.out).mono ?_; rintro e w5 ⟨rfl, h5⟩; have H5 := Lib.hid h5; clear h5 hz)
          | (go_at_call 10; refine (open_is _ _ _ _ _ _ _ 3 HLA.out.1 HK9.out _ _ HD.out).mono ?_; rintro e w3 ⟨rfl, h3⟩; rw [HLA.out.2.1] at h3; have H3 := Lib.hid h3; clear h3)
          | (go_at_call 15; refine (close_any _ _ _ _ _ _ HK3.out _ H3.out.h).mono ?_; rintro e w4 ⟨rfl, h4, ho4, _⟩; rw [HLA.out.2.2.1, HLA.out.2.2.2.1]; have H4 := Lib.hid (H3.out.onB h4 ho4); clear h4 ho4)
          | (go_at_call 13; refine (of_any _ _ _ _ _ _ HK4.out _ H4.out.h).mono ?_; rintro e w9 ⟨rfl, rfl⟩; rw [HLA.out.2.2.2.2.1, HLA.out.2.2.2.2.2.1])
          | (go_at_call 16; refine (count_any _ _ _ _ _ _ H5.out.h).mono ?_; rintro e w6 ⟨rfl, hb6⟩; rw [HLA.out.2.2.2.2.2.2.2]; have H6 := Lib.hid (H5.out.grow hb6); clear hb6)
          | (go_at_call 14; refine (wakes_any _).mono ?_; rintro e w7 ⟨rfl, hb7⟩; have HB7 := Lib.hid (bstep H6.out.below hb7); clear hb7))
        go_ret
        exact ⟨rfl, HB7.out⟩
end Go.Proofs.Ytjfdbcmmmoipcaa.HanW
