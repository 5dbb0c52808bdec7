/- The reference's Put, Cut, End. -/
import Derived.Test.YtappgelpigoknaaExtGather
import Derived.Test.YtappgelpigoknaaExtRef2
namespace Go.Proofs.Ytappgelpigoknaa.ExtW
open Go.RowKit
theorem units_ones {l : List Pt} (ho : ∀ x ∈ l, One x) (N : Nat) : ∀ y ∈ units (look l) 0 N, One y := by
  intro y hy
  obtain ⟨h1, h2, h3, h4⟩ := units_mem _ _ _ y hy
  obtain ⟨p, hp, b1, b2, e1, e2⟩ := look_some h4
  have hps := (ho p hp).small
  unfold One Whole; omega
theorem units_onesG {l : List Pt} {g : Int → Option (Int × Int)} (ho : ∀ x ∈ l, One x) (N : Nat) (e : ∀ i, look l i = g i) : ∀ y ∈ units g 0 N, One y := by
  rw [← show look l = g from funext e]; exact units_ones ho N
theorem Says.congr {d : Nat → Int × Int} {g g' : Int → Option (Int × Int)} (h : Says d g) (e : ∀ i : Nat, i < 8192 → g i = g' i) : Says d g' := fun i hi => by
  rw [← e i hi]; exact h i hi
theorem gather_is (B : Nat) (a : Addr) (d : Nat → Int × Int) (g : Int → Option (Int × Int)) (L : List Pt) (hL : joinL (units g 0 8192) = L) (hsay : Says d g) (ho : ∀ x ∈ units g 0 8192, One x) (w : World) (h : Spr B w a d) :
    Calls Try.prog 69 #[.slice (some a) 8192 8192] w fun e w' => ∃ v, e = .returned v ∧ Row w.heap.size w' v L ∧ L.length ≤ 100000 ∧ Below w.heap.size w w' := by
  subst hL
  refine (gather_any B a d g hsay ho w h).mono ?_
  rintro e w' ⟨v, h1, h2, h3⟩
  exact ⟨v, h1, h2, Nat.le_trans (join_len _) (Nat.le_trans (units_len g 0 8192) (by omega)), h3⟩
set_option maxHeartbeats 3200000 in
theorem rput_any (oa : Option Addr) (cap : Nat) (l : List Pt) (x : Pt) (hl : l.length ≤ 9223372036854775807) (w : World) (h : PtsAt w.heap.size oa l w) :
    Calls Try.prog 52 #[.slice oa l.length cap, .agg #[.int .i64 x.o, .int .i64 x.n, .int .i64 x.a, .int .i64 x.f]] w fun e w' => ∃ v, e = .returned (.tuple #[v, .int .i64 (putE l x)]) ∧ Row w.heap.size w' v (putL l x) ∧ Below w.heap.size w w' := by
  have HP := Lib.hid (h.grow (below_alloc w (.cells #[.int .i64 x.o, .int .i64 x.n, .int .i64 x.a, .int .i64 x.f] 40)))
  have HBX := Lib.hid (Box.made w x)
  clear h
  by_cases hg : Good l
  · have HG : Hid (decide (Good l) = true) := Lib.hid (decide_eq_true hg)
    by_cases ho : One x
    · have H1 : Hid (decide (One x) = true) := Lib.hid (decide_eq_true ho)
      have HE : Hid (putE l x = fewE (joinL (overL l x)) ∧ putL l x = fewL (joinL (overL l x))) := Lib.hid (by unfold putE putL; rw [if_pos hg, if_pos hg, if_pos ho, if_pos ho]; exact ⟨rfl, rfl⟩)
      have HJ := Lib.hid (put_units hg ho).symm
      have HON := Lib.hid (units_onesG (over_ones hg ho) 8192 (fun i => look_over l x i ho.small.2.1))
      have HGL := Lib.hid hg
      have HOX := Lib.hid ho
      have hl64 := hg.1
      clear hg ho hl
      go_enter Try.func52, Try.ntmps52
      go_wp2_with (first
        | (go_at_call 65; refine (rgood_is _ _ _ _ _ HG.out rfl (by omega) _ HP.out).mono ?_; rintro e w1 ⟨rfl, hb1⟩; have HP1 := Lib.hid (HP.out.grow hb1); have HBX1 := Lib.hid (HBX.out.grow hb1); have HB1 := Lib.hid (bstep (below_alloc w _) hb1); clear hb1; obtain ⟨p0, p1, p2, p3⟩ := HBX1.out.cells)
        | (go_at_call 66; refine (rone_is x _ H1.out _).mono ?_; rintro e w2 ⟨rfl, hb2⟩; have HP2 := Lib.hid (HP1.out.grow hb2); have HBX2 := Lib.hid (HBX1.out.grow hb2); have HB2 := Lib.hid (bstep HB1.out hb2); clear hb2 p0 p1 p2 p3; obtain ⟨p0, p1, p2, p3⟩ := HBX2.out.cells)
        | (go_at_call 67; refine (spread_any _ _ l HGL.out _ HP2.out).mono ?_; rintro e w3 ⟨a, d, rfl, hsp, hsay, hb3⟩; have HBX3 := Lib.hid (HBX2.out.grow hb3); have HSP := Lib.hid hsp; have HSAY := Lib.hid hsay; have HZ3 := Lib.hid hb3.size; have HB3 := Lib.hid (bstep HB2.out hb3); clear hb3 hsp hsay p0 p1 p2 p3))
      obtain ⟨B, hBz⟩ : ∃ B, B = w2.heap.size := ⟨_, rfl⟩
      rw [← hBz] at HSP
      have HBB : Hid (w.heap.size < B) := Lib.hid (by rw [hBz]; exact lt_of_block HBX2.out)
      clear hBz HZ3
      obtain ⟨N, hN⟩ : ∃ N : Nat, x.n = N := ⟨x.n.toNat, by have := HOX.out.small; omega⟩
      have HN := Lib.hid hN
      have hN2 : N ≤ 1024 := by have := HOX.out.small; omega
      clear hN
      go_loopw [7] (fun i wr => ∃ (j : Nat) (d : Nat → Int × Int), j ≤ N ∧ i = .int .i64 (j : Int) ∧ Spr B wr a d ∧ Says d (overG (look l) ⟨x.o, j, x.a, x.f⟩) ∧ Box wr w.heap.size x ∧ Below w.heap.size w wr) (fun i _ => ((N : Int) - intOf i).toNat)
      case atStart => exact ⟨0, d, by omega, rfl, HSP.out, (by rw [show overG (look l) ⟨x.o, ((0 : Nat) : Int), x.a, x.f⟩ = look l from funext fun z => by unfold overG; rw [if_neg (by simp only; omega)]]; exact HSAY.out), HBX3.out, HB3.out⟩
      case round =>
        obtain ⟨j, d2, hj, rfl, hsp, hsay, hbx, hbel⟩ := hrel
        have HSPJ := Lib.hid hsp
        have HSAYJ := Lib.hid hsay
        have HBXJ := Lib.hid hbx
        have HBJ := Lib.hid hbel
        clear hsp hsay hbx hbel
        obtain ⟨p0, p1, p2, p3⟩ := HBXJ.out.cells
        have hn := HN.out
        have hxs := HOX.out.small
        by_cases hjl : j < N
        · have hjl2 : (j : Int) < x.n := by omega
          obtain ⟨m, hm⟩ : ∃ m : Nat, x.o + j = m := ⟨(x.o + j).toNat, by omega⟩
          have hw1 : IntKind.i64.wrap (x.o + j) = m := by rw [← hm]; exact IntWalk.i64_in _ (by omega)
          have hw2 : IntKind.i64.wrap (x.f + j) = x.f + j := IntWalk.i64_in _ (by omega)
          have hm0 : (0 : Int) ≤ (m : Int) := by omega
          have hm1 : (m : Int) < 8192 := by omega
          have hm2 : m < 8192 := by omega
          obtain ⟨q0, q1, f0, f1⟩ := HSPJ.out.cells hm2
          have HSET := Lib.hid (HSPJ.out.set2 m x.a (x.f + j))
          obtain ⟨pb, po, hpa⟩ : ∃ (pb po : Nat), a.add (m * 2) = ⟨pb, po, none⟩ := ⟨a.block, m * 2, addb _ HSPJ.out.1 _⟩
          have HPB : Hid (B ≤ pb) := Lib.hid (by have := HSPJ.out.2.1; rw [addb _ HSPJ.out.1] at hpa; injection hpa with h1 h2; omega)
          rw [hpa] at q0 q1 f0 f1 HSET
          have HM := Lib.hid hm
          clear hm hn hxs
          go_wp2_with fail
          exact ⟨⟨j + 1, fun q => if q = m then (x.a, x.f + j) else d2 q, by omega, by simp, HSET.out, Says.over x HOX.out j m hjl2 HM.out HSAYJ.out, (far_set (by have := HPB.out; have := HBB.out; omega)).trans ((far_set (by have := HPB.out; have := HBB.out; omega)).trans HBXJ.out), (HBJ.out.setCell (p := ⟨_, _, none⟩) (by show w.heap.size ≤ pb; have := HPB.out; have := HBB.out; omega) _).setCell (p := ⟨_, _, none⟩) (by show w.heap.size ≤ pb; have := HPB.out; have := HBB.out; omega) _⟩, by simp [intOf]; omega⟩
        · have hjl2 : ¬ ((j : Int) < x.n) := by omega
          have HSAYF : Hid (Says d2 (overG (look l) x)) := Lib.hid (by have := HSAYJ.out; rw [show (j : Int) = x.n by omega] at this; exact this)
          clear hn hxs
          go_wp2_with (first
            | (go_at_call 69; refine (gather_is B a d2 _ _ HJ.out HSAYF.out HON.out _ HSPJ.out).mono ?_; rintro e w5 ⟨v5, rfl, hr5, hl5, hb5⟩; have HR5 := Lib.hid hr5; have HL5 := Lib.hid hl5; have HZ := Lib.hid HBJ.out.size; have HB5 := Lib.hid (bstep HBJ.out hb5); clear hr5 hb5 hl5)
            | (go_at_call 68; refine (rfew_any _ _ _ HL5.out _ HR5.out).mono ?_; rintro e w6 ⟨u6, rfl, hr6, rfl⟩; have HR6 := Lib.hid (hr6.mono HZ.out); clear hr6))
          go_ret2
          exact ⟨u6, by rw [HE.out.1]; rfl, by rw [HE.out.2]; exact HR6.out, HB5.out⟩
    · have H1 : Hid (decide (One x) = false) := Lib.hid (decide_eq_false ho)
      have HE : Hid (putE l x = 1 ∧ putL l x = []) := Lib.hid (by unfold putE putL; rw [if_pos hg, if_pos hg, if_neg ho, if_neg ho]; exact ⟨rfl, rfl⟩)
      have hl64 := hg.1
      clear hg ho hl
      go_enter Try.func52, Try.ntmps52
      go_wp2_with (first
        | (go_at_call 65; refine (rgood_is _ _ _ _ _ HG.out rfl (by omega) _ HP.out).mono ?_; rintro e w1 ⟨rfl, hb1⟩; have HBX1 := Lib.hid (HBX.out.grow hb1); have HB1 := Lib.hid (bstep (below_alloc w _) hb1); clear hb1; obtain ⟨p0, p1, p2, p3⟩ := HBX1.out.cells)
        | (go_at_call 66; refine (rone_is x _ H1.out _).mono ?_; rintro e w2 ⟨rfl, hb2⟩; have HB2 := Lib.hid (bstep HB1.out hb2); clear hb2))
      go_ret2
      exact ⟨.slice none 0 0, by rw [HE.out.1]; rfl, by rw [HE.out.2]; exact Row.nil _ _, HB2.out⟩
  · have HG : Hid (decide (Good l) = false) := Lib.hid (decide_eq_false hg)
    have HE : Hid (putE l x = 11 ∧ putL l x = []) := Lib.hid (by unfold putE putL; rw [if_neg hg, if_neg hg]; exact ⟨rfl, rfl⟩)
    clear hg
    go_enter Try.func52, Try.ntmps52
    go_wp2_with (go_at_call 65; refine (rgood_is _ _ _ _ _ HG.out rfl (by omega) _ HP.out).mono ?_; rintro e w1 ⟨rfl, hb1⟩; have HB1 := Lib.hid (bstep (below_alloc w _) hb1); clear hb1)
    go_ret2
    exact ⟨.slice none 0 0, by rw [HE.out.1]; rfl, by rw [HE.out.2]; exact Row.nil _ _, HB1.out⟩
set_option maxHeartbeats 1600000 in
theorem rcut_any (oa : Option Addr) (cap : Nat) (l : List Pt) (s : Int) (hs : -9223372036854775808 ≤ s ∧ s ≤ 9223372036854775807) (hl : l.length ≤ 9223372036854775807) (w : World) (h : PtsAt w.heap.size oa l w) :
    Calls Try.prog 54 #[.slice oa l.length cap, .int .i64 s] w fun e w' => ∃ v, e = .returned v ∧ Row w.heap.size w' v (cutS l s) ∧ Below w.heap.size w w' := by
  have HP := Lib.hid h
  clear h
  by_cases hg : Good l
  · have HG : Hid (decide (Good l) = true) := Lib.hid (decide_eq_true hg)
    have HS : Hid (cutS l s = cutL l s) := Lib.hid (if_pos hg)
    have HJ := Lib.hid (cut_units hg s).symm
    have HON := Lib.hid (units_onesG (cut_ones (chain_ones hg.2) s) 8192 (fun i => look_cut l s i))
    have HGL := Lib.hid hg
    have hl64 := hg.1
    obtain ⟨K, hK⟩ : ∃ K : Nat, max s 0 = K := ⟨(max s 0).toNat, by omega⟩
    have hK' : (if s < 0 then 0 else s) = (K : Int) := by rw [← hK]; split <;> omega
    have HKK := Lib.hid hK
    have hKb : K ≤ 9223372036854775807 := by omega
    clear hg hl hK hs
    go_enter Try.func54, Try.ntmps54
    go_wp2_with (first
      | (go_at_call 65; refine (rgood_is _ _ _ _ _ HG.out rfl (by omega) _ HP.out).mono ?_; rintro e w1 ⟨rfl, hb1⟩; have HP1 := Lib.hid (HP.out.grow hb1); have HB1 := Lib.hid hb1; clear hb1)
      | (go_at_call 67; refine (spread_any _ _ l HGL.out _ HP1.out).mono ?_; rintro e w3 ⟨a, d, rfl, hsp, hsay, hb3⟩; have HSP := Lib.hid hsp; have HSAY := Lib.hid hsay; have HB3 := Lib.hid (bstep HB1.out hb3); clear hb3 hsp hsay))
    clear hK'
    have HZ1 := Lib.hid HB1.out.size
    go_loopw [6] (fun i wr => ∃ (k : Nat) (d : Nat → Int × Int), K ≤ k ∧ k ≤ 9223372036854775807 ∧ (k ≤ 8192 ∨ k = K) ∧ i = .int .i64 (k : Int) ∧ Spr w1.heap.size wr a d ∧ Says d (fun z => if s ≤ z ∧ z < k then none else look l z) ∧ Below w.heap.size w wr) (fun i _ => (9223372036854775807 - intOf i).toNat)
    case atStart => exact ⟨K, d, Nat.le_refl _, hKb, .inr rfl, rfl, HSP.out, HSAY.out.congr (fun i hi => by have := HKK.out; rw [if_neg (by omega)]), HB3.out⟩
    case round =>
      obtain ⟨k, d2, hk1, hk2, hk3, rfl, hsp, hsay, hbel⟩ := hrel
      have HSPJ := Lib.hid hsp
      have HSAYJ := Lib.hid hsay
      have HBJ := Lib.hid hbel
      clear hsp hsay hbel
      by_cases hlt : k < 8192
      · have hk8 : (k : Int) < 8192 := by omega
        obtain ⟨q0, q1, f0, f1⟩ := HSPJ.out.cells hlt
        have HSET := Lib.hid (HSPJ.out.set1 k (-1))
        obtain ⟨pb, po, hpa⟩ : ∃ (pb po : Nat), a.add (k * 2) = ⟨pb, po, none⟩ := ⟨a.block, k * 2, addb _ HSPJ.out.1 _⟩
        have HPB : Hid (w1.heap.size ≤ pb) := Lib.hid (by have := HSPJ.out.2.1; rw [addb _ HSPJ.out.1] at hpa; injection hpa with h1 h2; omega)
        rw [hpa] at q0 q1 f0 f1 HSET
        have HK3 := Lib.hid hk3
        clear hk3
        go_wp2_with fail
        exact ⟨⟨k + 1, _, by omega, by omega, .inl (by omega), by simp, HSET.out, fun i hi => by
          have hq := HSAYJ.out i hi
          have hkk := HKK.out
          dsimp only at hq ⊢
          by_cases c : i = k
          · subst c
            rw [if_pos rfl, if_pos (by omega)]
            exact ⟨.inl ⟨by dsimp only; omega, rfl⟩, hq.2.1, hq.2.2.1, by dsimp only; omega, by dsimp only; omega⟩
          · rw [if_neg c]
            by_cases c2 : s ≤ (i : Int) ∧ (i : Int) < k
            · rw [if_pos c2] at hq
              rw [if_pos (by omega)]
              exact hq
            · rw [if_neg c2] at hq
              rw [if_neg (by omega)]
              exact hq, HBJ.out.setCell (p := ⟨_, _, none⟩) (by show w.heap.size ≤ pb; have := HPB.out; have := HZ1.out; omega) _⟩, by simp [intOf]; omega⟩
      · have hk8 : ¬ ((k : Int) < 8192) := by omega
        have HSAYF : Hid (Says d2 (fun z => if z < s then look l z else none)) := Lib.hid (HSAYJ.out.congr fun i hi => by
          by_cases c : (i : Int) < s
          · rw [if_pos c, if_neg (by omega)]
          · rw [if_neg c, if_pos (by omega)])
        clear hk3
        go_wp2_with (go_at_call 69; refine (gather_is w1.heap.size a d2 _ _ HJ.out HSAYF.out HON.out _ HSPJ.out).mono ?_; rintro e w5 ⟨v5, rfl, hr5, hl5, hb5⟩; have HR5 := Lib.hid (hr5.mono HBJ.out.size); have HB5 := Lib.hid (bstep HBJ.out hb5); clear hr5 hb5 hl5)
        go_ret
        exact ⟨v5, rfl, by rw [HS.out]; exact HR5.out, HB5.out⟩
  · have HG : Hid (decide (Good l) = false) := Lib.hid (decide_eq_false hg)
    have HS : Hid (cutS l s = []) := Lib.hid (if_neg hg)
    clear hg
    go_enter Try.func54, Try.ntmps54
    go_wp2_with (go_at_call 65; refine (rgood_is _ _ _ _ _ HG.out rfl (by omega) _ HP.out).mono ?_; rintro e w1 ⟨rfl, hb1⟩; have HB1 := Lib.hid hb1; clear hb1)
    go_ret
    exact ⟨_, rfl, by rw [HS.out]; exact Row.nil _ _, HB1.out⟩
end Go.Proofs.Ytappgelpigoknaa.ExtW
