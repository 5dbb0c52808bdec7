/- console.read: a word is put where it belongs. -/
import Derived.Test.YtiffmigihhcgcaaGreatDoorConSt
namespace Go.Proofs.YtiffmigihhcgcaaGreatDoor.ConW
set_option maxRecDepth 100000
set_option linter.constructorNameAsVariable false
open Go.RowKit ConP
/-- a block that is none of the variables' -/
def Far (b : Nat) : Prop := b ≠ 3 ∧ b ≠ 4 ∧ b ≠ 1 ∧ b ≠ 0
theorem CV.only {w w' : World} {b : Nat} (h : CV w) (k : Only b w w') (hb : Far b) : CV w' := by
  obtain ⟨⟨t1, p1, h1⟩, ⟨t2, p2, h2⟩, h3⟩ := h
  have step : ∀ (g : Nat) (v : Value), b ≠ g → w.cell? ⟨g, 0, none⟩ = some v → w'.cell? ⟨g, 0, none⟩ = some v := by
    intro g v hg hc
    have hlt := World.block_lt_of_cell? _ _ hc
    have e := k.block g hlt (fun e => hg (by injection e with e; exact e.symm))
    unfold World.cell? at hc ⊢
    simp only at hc ⊢
    rw [e]; exact hc
  refine ⟨⟨t1, p1, step _ _ hb.1 h1⟩, ⟨t2, p2, step _ _ hb.2.1 h2⟩, ?_⟩
  have hlt : 1 < w.heap.size := by
    unfold Lib.TabIs World.var? at h3
    rw [gpow] at h3
    simp only [Option.bind_some] at h3
    rcases Nat.lt_or_ge 1 w.heap.size with h | h
    · exact h
    · rw [Array.getElem?_eq_none h] at h3; cases h3
  have e := k.block _ hlt (fun e => hb.2.2.1 (by injection e with e; exact e.symm))
  unfold Lib.TabIs World.var? at h3 ⊢
  rw [gpow] at h3 ⊢
  simp only [Option.bind_some] at h3 ⊢
  rw [e]; exact h3
/-- what read leaves -/
structure ReadPost (s : Stp) (p : Pl) (x : ByteArray) (b : Nat) (m : Value) (z : Int) (c : Value) (w : World) (e : Ending) (w' : World) : Prop where
  ret : e = .returned (.bool (putW s p x.data.toList).isSome)
  box : ∀ t, putW s p x.data.toList = some t → SBox w' b t m z c
  only : Only b w w'
theorem putN_is {s : Stp} {p : Pl} (hp : isN p = true) (x : Bs) : putW s p x = (numW x).map fun (n : Nat) => setN s p (n : Int) := by cases p <;> first | rfl | cases hp
theorem putT_is {s : Stp} {p : Pl} (hp : isT p = true) (x : Bs) : putW s p x = if pathW x then some (setT s p (bs x)) else none := by cases p <;> first | rfl | cases hp
set_option maxHeartbeats 1600000 in
theorem read_num (f : UInt8) (x : ByteArray) (hx : x.size ≤ 1000000) (b : Nat) (s : Stp) (m c : Value) (z : Int) (p : Pl) (hpl : place (s.a.k == 1) f = p) (hn : isN p = true) (hfb : Far b) (w : World) (h : SBox w b s m z c) (hv : CV w) :
    Calls Tryz.prog 34 #[.pointer (some ⟨b, 0, none⟩), .int .u8 (f.toNat : Int), .string x] w (ReadPost s p x b m z c w) := by
  have hc := number_any f b s m c z w h
  rw [hpl, show ptrN b p = .pointer (some ⟨b, offP p, none⟩) from if_pos hn] at hc
  have HC := Lib.hid hc
  have H := Lib.hid h
  have HV := Lib.hid hv
  have HN := Lib.hid hn
  have hat := atoi_num x.data.toList
  have HPUT := Lib.hid (putN_is (s := s) hn x.data.toList)
  have hlen := PathW.list_size x
  clear hc h hv hn hpl
  obtain ⟨o, ho⟩ : ∃ o, o = offP p := ⟨_, rfl⟩
  rw [← ho] at HC
  have HO := Lib.hid ho
  clear ho
  go_enter Tryz.func34, Tryz.ntmps34
  go_wp2_with fail
  refine HC.out.mono ?_
  rintro e w1 ⟨rfl, rfl⟩
  go_wp2_with fail
  refine (atoi_any x hx w HV.out).mono ?_
  rintro e w2 ⟨⟨v, er, rfl, hv1, hv2, hcase⟩, hb2⟩
  have HS2 := Lib.hid (H.out.keep hb2)
  have hcl := HS2.out.num HN.out
  have hfr := HS2.out.free o
  rw [← HO.out] at hcl
  have HS3 : Hid (SBox (w2.setCell ⟨b, o, none⟩ (.int .i64 v)) b (setN s p v) m z c) := Lib.hid (by rw [HO.out]; exact HS2.out.setN HN.out v)
  have HO3 : Hid (Only b w (w2.setCell ⟨b, o, none⟩ (.int .i64 v))) := Lib.hid ((Only.of_below hb2).setCell o _)
  have HV2 := Lib.hid (HV.out.keep hb2)
  clear hb2
  have HV3 : Hid (CV (w2.setCell ⟨b, o, none⟩ (.int .i64 v))) := Lib.hid (HV2.out.only ((Only.refl b w2).setCell o _) hfb)
  clear HV2 HS2
  rcases hcase with ⟨rfl, ha⟩ | ⟨⟨t, q, rfl⟩, ha⟩
  · rw [ha] at hat
    simp only at hat
    clear ha
    by_cases h0 : 0 ≤ v
    · by_cases h9 : x.data.toList.length ≤ 9
      · have h9' : (x.size : Int) ≤ 9 := by omega
        have HAT := Lib.hid hat
        have H0 := Lib.hid h0
        have H9 := Lib.hid h9
        have HV1 := Lib.hid (And.intro hv1 hv2)
        by_cases hi : Lib.itoa v = x.data.toList
        · have hq : ((bs (Lib.itoa v)).toList == x.toList) = true := by rw [Lib.toList_data, Lib.toList_data, bs_data, hi]; simp
          have HNW : Hid (numW x.data.toList = some v.toNat) := Lib.hid (by rw [← HAT.out, if_pos ⟨H0.out, H9.out, hi⟩])
          have hit : ∀ W : World, CV W → Calls Tryz.prog 21 #[.int .i64 v] W fun e w' => e = .returned (.string (bs (Lib.itoa v))) ∧ Below W.heap.size W w' := fun W hW => itoa_any v HV1.out.1 HV1.out.2 W hW
          have HIT := Lib.hid hit
          clear hit hat hi h9 hlen
          generalize bs (Lib.itoa v) = y at *
          generalize hw3 : w2.setCell ⟨b, o, none⟩ (.int .i64 v) = w3 at *
          have HW3 := Lib.hid hw3
          clear hw3
          go_wp2_with fail
          rw [HW3.out]
          refine (HIT.out _ HV3.out).mono ?_
          rintro e w4 ⟨rfl, hb4⟩
          have HO4 := Lib.hid (HO3.out.step hb4)
          have HS4 := Lib.hid (HS3.out.keep hb4)
          clear hb4
          go_wp2_with fail
          go_ret
          exact ⟨by rw [HPUT.out, HNW.out]; rfl, fun t ht => by
            rw [HPUT.out, HNW.out] at ht
            injection ht with ht
            rw [← ht]
            show SBox w4 b (setN s p (v.toNat : Int)) m z c
            rw [Int.toNat_of_nonneg H0.out]; exact HS4.out, HO4.out⟩
        · have hq : ((bs (Lib.itoa v)).toList == x.toList) = false := by rw [Lib.toList_data, Lib.toList_data, bs_data, beq_eq_false_iff_ne]; exact hi
          have HNW : Hid (numW x.data.toList = none) := Lib.hid (by rw [← HAT.out, if_neg (fun h => hi h.2.2)])
          have hit : ∀ W : World, CV W → Calls Tryz.prog 21 #[.int .i64 v] W fun e w' => e = .returned (.string (bs (Lib.itoa v))) ∧ Below W.heap.size W w' := fun W hW => itoa_any v HV1.out.1 HV1.out.2 W hW
          have HIT := Lib.hid hit
          clear hit hat hi h9 hlen
          generalize bs (Lib.itoa v) = y at *
          generalize hw3 : w2.setCell ⟨b, o, none⟩ (.int .i64 v) = w3 at *
          have HW3 := Lib.hid hw3
          clear hw3
          go_wp2_with fail
          rw [HW3.out]
          refine (HIT.out _ HV3.out).mono ?_
          rintro e w4 ⟨rfl, hb4⟩
          have HO4 := Lib.hid (HO3.out.step hb4)
          clear hb4
          go_wp2_with fail
          go_ret
          exact ⟨by rw [HPUT.out, HNW.out]; rfl, fun t ht => (by rw [HPUT.out, HNW.out] at ht; cases ht), HO4.out⟩
      · have h9' : decide ((x.size : Int) ≤ 9) = false := decide_eq_false (by omega)
        have HNW : Hid (numW x.data.toList = none) := Lib.hid (by rw [← hat, if_neg (fun h => h9 h.2.1)])
        clear hat h9 hlen
        go_wp2_with fail
        go_ret
        exact ⟨by rw [HPUT.out, HNW.out]; rfl, fun t ht => (by rw [HPUT.out, HNW.out] at ht; cases ht), HO3.out⟩
    · have h0' : decide (0 ≤ v) = false := decide_eq_false h0
      have HNW : Hid (numW x.data.toList = none) := Lib.hid (by rw [← hat, if_neg (fun h => h0 h.1)])
      clear hat h0 hlen
      go_wp2_with fail
      go_ret
      exact ⟨by rw [HPUT.out, HNW.out]; rfl, fun t ht => (by rw [HPUT.out, HNW.out] at ht; cases ht), HO3.out⟩
  · have HNW : Hid (numW x.data.toList = none) := Lib.hid (by
      rw [← hat]
      cases hx : Lib.atoiAll x.data.toList with
      | ok u => exact absurd hx (ha u)
      | «syntax» => rfl
      | range => rfl)
    clear hat ha hlen
    go_wp2_with fail
    go_ret
    exact ⟨by rw [HPUT.out, HNW.out]; rfl, fun t ht => (by rw [HPUT.out, HNW.out] at ht; cases ht), HO3.out⟩
set_option maxHeartbeats 1600000 in
theorem read_txt (f : UInt8) (x : ByteArray) (hx : x.size ≤ 1000000) (b : Nat) (s : Stp) (m c : Value) (z : Int) (p : Pl) (hpl : place (s.a.k == 1) f = p) (hn : isT p = true) (w : World) (h : SBox w b s m z c) :
    Calls Tryz.prog 34 #[.pointer (some ⟨b, 0, none⟩), .int .u8 (f.toNat : Int), .string x] w (ReadPost s p x b m z c w) := by
  have hnn : isN p = false := by cases p <;> first | rfl | cases hn
  have hc := number_any f b s m c z w h
  have ht := text_any f b s m c z (by rw [hpl]; exact hnn) w h
  rw [hpl, show ptrN b p = .pointer none from if_neg (by rw [hnn]; decide)] at hc
  rw [hpl, show ptrT b p = .pointer (some ⟨b, offP p, none⟩) from if_pos hn] at ht
  have HC := Lib.hid hc
  have HT := Lib.hid ht
  have hcl := h.txt hnn
  have hfr := h.free (offP p)
  have HPUT := Lib.hid (putT_is (s := s) hn x.data.toList)
  have HS3 : Hid (SBox (w.setCell ⟨b, offP p, none⟩ (.string x)) b (setT s p x) m z c) := Lib.hid (h.setT hnn x)
  have HO3 : Hid (Only b w (w.setCell ⟨b, offP p, none⟩ (.string x))) := Lib.hid ((Only.refl b w).setCell _ _)
  clear hc ht h hpl hn hnn
  generalize offP p = o at *
  obtain ⟨y, hy⟩ : ∃ y, y = getT s p := ⟨_, rfl⟩
  rw [← hy] at hcl
  clear hy
  go_enter Tryz.func34, Tryz.ntmps34
  go_wp2_with fail
  refine HC.out.mono ?_
  rintro e w1 ⟨rfl, rfl⟩
  go_wp2_with fail
  refine HT.out.mono ?_
  rintro e w1 ⟨rfl, rfl⟩
  go_wp2_with fail
  refine (PathW.good_any x (by omega) _).mono ?_
  rintro e w2 ⟨rfl, hb2⟩
  have HO4 := Lib.hid (HO3.out.step hb2)
  have HS4 := Lib.hid (HS3.out.keep hb2)
  clear hb2
  go_wp2_with fail
  go_ret
  have hp : pathW x.data.toList = (PathW.namesR x.data.toList).isSome := rfl
  refine ⟨?_, fun t ht => ?_, HO4.out⟩
  · rw [HPUT.out, ← hp]
    cases pathW x.data.toList <;> rfl
  · rw [HPUT.out] at ht
    cases hq : pathW x.data.toList with
    | false => rw [hq] at ht; cases ht
    | true =>
      rw [hq] at ht
      injection ht with ht
      rw [← ht]; exact HS4.out
set_option maxHeartbeats 1600000 in
theorem read_dat (f : UInt8) (x : ByteArray) (hx : x.size ≤ 1000000) (b : Nat) (s : Stp) (m c : Value) (z : Int) (hpl : place (s.a.k == 1) f = .d) (w : World) (h : SBox w b s m z c) :
    Calls Tryz.prog 34 #[.pointer (some ⟨b, 0, none⟩), .int .u8 (f.toNat : Int), .string x] w (ReadPost s .d x b m z c w) := by
  have hc := number_any f b s m c z w h
  have ht := text_any f b s m c z (by rw [hpl]; rfl) w h
  rw [hpl, show ptrN b .d = .pointer none from rfl] at hc
  rw [hpl, show ptrT b .d = .pointer none from rfl] at ht
  have HC := Lib.hid hc
  have HT := Lib.hid ht
  have H := Lib.hid h
  obtain ⟨y, hy⟩ : ∃ y, y = (hexW x.data.toList).getD [] := ⟨_, rfl⟩
  have HY := Lib.hid hy
  have hu := unhex_any x hx
  unfold e32 at hu
  rw [← hy] at hu
  have HU := Lib.hid hu
  clear hc ht h hpl hy hu
  generalize hyb : bs y = yb at *
  have HYB := Lib.hid hyb
  clear hyb
  go_enter Tryz.func34, Tryz.ntmps34
  go_wp2_with fail
  refine HC.out.mono ?_
  rintro e w1 ⟨rfl, rfl⟩
  go_wp2_with fail
  refine HT.out.mono ?_
  rintro e w1 ⟨rfl, rfl⟩
  go_wp2_with fail
  refine (HU.out _).mono ?_
  rintro e w2 ⟨rfl, hb2⟩
  have HS2 := Lib.hid (H.out.keep hb2)
  have hcl : w2.cell? ⟨b, 21, none⟩ = some (.string s.a.d) := HS2.out.txt (p := .d) rfl
  have hfr := HS2.out.free 21
  have HS3 : Hid (SBox (w2.setCell ⟨b, 21, none⟩ (.string yb)) b (setT s .d yb) m z c) := Lib.hid (HS2.out.setT (p := .d) rfl yb)
  have HO3 : Hid (Only b w (w2.setCell ⟨b, 21, none⟩ (.string yb))) := Lib.hid ((Only.of_below hb2).setCell _ _)
  clear hb2
  go_wp2_with fail
  go_ret
  refine ⟨?_, fun t ht => ?_, HO3.out⟩
  · unfold putW
    cases hexW x.data.toList <;> rfl
  · unfold putW at ht
    have e := HY.out
    cases hq : hexW x.data.toList with
    | none => rw [hq] at ht; cases ht
    | some q =>
      rw [hq] at ht e
      injection ht with ht
      rw [← ht]
      have : bs q = yb := by rw [← HYB.out, e]; rfl
      show SBox _ b (setT s .d (bs q)) m z c
      rw [this]; exact HS3.out
theorem read_any (f : UInt8) (x : ByteArray) (hx : x.size ≤ 1000000) (b : Nat) (s : Stp) (m c : Value) (z : Int) (hfb : Far b) (w : World) (h : SBox w b s m z c) (hv : CV w) :
    Calls Tryz.prog 34 #[.pointer (some ⟨b, 0, none⟩), .int .u8 (f.toNat : Int), .string x] w (ReadPost s (place (s.a.k == 1) f) x b m z c w) := by
  generalize hp : place (s.a.k == 1) f = p
  cases hn : isN p with
  | true => exact read_num f x hx b s m c z p hp hn hfb w h hv
  | false =>
    cases ht : isT p with
    | true => exact read_txt f x hx b s m c z p hp ht w h
    | false =>
      have e : p = .d := by
        cases p <;> first | rfl | (exfalso; revert hn; decide) | (exfalso; revert ht; decide)
      subst e
      exact read_dat f x hx b s m c z hp w h
end Go.Proofs.YtiffmigihhcgcaaGreatDoor.ConW
