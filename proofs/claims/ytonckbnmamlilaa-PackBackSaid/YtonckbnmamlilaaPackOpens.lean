/- PackOpens: the walk. -/
import Derived.Test.YtonckbnmamlilaaPackPacks
namespace Go.Proofs.Ytonckbnmamlilaa.PackW
open Go.RowKit
theorem UIs.any {b : Nat} {l : List UInt8} {w : World} (h : UIs b l true w) (l' : List UInt8) : UIs b l' true w := by
  obtain ⟨s, h1, h2, _⟩ := h
  exact ⟨s, h1, h2, fun h => by cases h⟩
theorem VIs.any {b : Nat} {l : List UInt8} {w : World} (h : VIs b l true w) (l' : List UInt8) : VIs b l' true w := by
  obtain ⟨s, k, h1, h2, h3, _⟩ := h
  exact ⟨s, k, h1, h2, h3, fun h => by cases h⟩
theorem UIs.keepOnly {b x : Nat} {l : List UInt8} {sp : Bool} {w w' : World} (h : UIs b l sp w) (k : Only x w w') (hne : b ≠ x) : UIs b l sp w' := by
  obtain ⟨s, h1, h2⟩ := h
  exact ⟨s, k.heap h1 hne, h2⟩
theorem VIs.keepOnly {b x : Nat} {l : List UInt8} {sp : Bool} {w w' : World} (h : VIs b l sp w) (k : Only x w w') (hne : b ≠ x) : VIs b l sp w' := by
  obtain ⟨s, j, h1, h2⟩ := h
  exact ⟨s, j, k.heap h1 hne, h2⟩
/-- what is left behind a text -/
def textR (l : List UInt8) : List UInt8 := (l.drop 2).drop (ShiftP.getN (l.take 2))
theorem utext_is (b : Nat) (l : List UInt8) (sp : Bool) (most : Int) (w : World) (hp : UIs b l sp w) :
    Calls Try.prog 19 #[.pointer (some ⟨b, 0, none⟩), .int .i64 most] w fun e w' => e = .returned (.string (textA l sp most)) ∧ UIs b (textR l) (textG l sp most) w' ∧ Only b w w' := by
  refine (utext_any b l sp most w hp).mono ?_
  rintro e w' ⟨rfl, ⟨l', h1, h2⟩, h3, h4⟩
  refine ⟨rfl, ?_, h3⟩
  cases hg : textG l sp most with
  | true => rw [hg] at h1; exact h1.any _
  | false => rw [hg] at h1 h2; rw [textR, ← h2 rfl]; exact h1
theorem vtext_is (b : Nat) (l : List UInt8) (sp : Bool) (most : Int) (w : World) (hp : VIs b l sp w) :
    Calls Try.prog 20 #[.pointer (some ⟨b, 0, none⟩), .int .i64 most] w fun e w' => e = .returned (.string (textA l sp most)) ∧ VIs b (textR l) (textG l sp most) w' ∧ Only b w w' := by
  refine (vtextI_any b l sp most w hp).mono ?_
  rintro e w' ⟨rfl, ⟨l', h1, h2⟩, h3, h4⟩
  refine ⟨rfl, ?_, h3⟩
  cases hg : textG l sp most with
  | true => rw [hg] at h1; exact h1.any _
  | false => rw [hg] at h1 h2; rw [textR, ← h2 rfl]; exact h1
/-- both Unpackers, ahead of what may differ -/
structure TwoU (w : World) (b1 b2 : Nat) (l1 l2 : List UInt8) (s1 s2 : Bool) (wr : World) : Prop where
  u : UIs b1 l1 s1 wr
  v : VIs b2 l2 s2 wr
  low : Below w.heap.size w wr
  ne : b1 ≠ b2
  le1 : w.heap.size ≤ b1
  le2 : w.heap.size ≤ b2
theorem TwoU.drewN {w wr : World} {b1 b2 : Nat} {l1 l2 : List UInt8} {s1 s2 : Bool} (h : TwoU w b1 b2 l1 l2 s1 s2 wr) (n : Nat) : TwoU w b1 b2 l1 l2 s1 s2 (wr.drewN n) :=
  ⟨h.u.keep (below_drawn wr n), h.v.keep (below_drawn wr n), below_drewN h.low n, h.ne, h.le1, h.le2⟩
theorem TwoU.drew {w wr : World} {b1 b2 : Nat} {l1 l2 : List UInt8} {s1 s2 : Bool} (h : TwoU w b1 b2 l1 l2 s1 s2 wr) : TwoU w b1 b2 l1 l2 s1 s2 wr.drew :=
  ⟨h.u.keep (below_refl wr).drew, h.v.keep (below_refl wr).drew, h.low.drew, h.ne, h.le1, h.le2⟩
theorem TwoU.stepU {w wr w' : World} {b1 b2 : Nat} {l1 l2 l' : List UInt8} {s1 s2 s' : Bool} (h : TwoU w b1 b2 l1 l2 s1 s2 wr) (hu : UIs b1 l' s' w') (k : Only b1 wr w') : TwoU w b1 b2 l' l2 s' s2 w' :=
  ⟨hu, h.v.keepOnly k h.ne.symm, h.low.trans (k.below h.le1 h.low.size), h.ne, h.le1, h.le2⟩
theorem TwoU.stepV {w wr w' : World} {b1 b2 : Nat} {l1 l2 l' : List UInt8} {s1 s2 s' : Bool} (h : TwoU w b1 b2 l1 l2 s1 s2 wr) (hv : VIs b2 l' s' w') (k : Only b2 wr w') : TwoU w b1 b2 l1 l' s1 s' w' :=
  ⟨h.u.keepOnly k h.ne, hv, h.low.trans (k.below h.le2 h.low.size), h.ne, h.le1, h.le2⟩
theorem tu_text1 {w wr : World} {b1 b2 : Nat} {l : List UInt8} {sp : Bool} (most : Int) (h : TwoU w b1 b2 l l sp sp wr) :
    Calls Try.prog 19 #[.pointer (some ⟨b1, 0, none⟩), .int .i64 most] wr fun e w' => e = .returned (.string (textA l sp most)) ∧ TwoU w b1 b2 (textR l) l (textG l sp most) sp w' :=
  (utext_is b1 l sp most wr h.u).mono fun _ _ ⟨h1, h2, h3⟩ => ⟨h1, h.stepU h2 h3⟩
theorem tu_text2 {w wr : World} {b1 b2 : Nat} {l : List UInt8} {sp : Bool} (most : Int) (h : TwoU w b1 b2 (textR l) l (textG l sp most) sp wr) :
    Calls Try.prog 20 #[.pointer (some ⟨b2, 0, none⟩), .int .i64 most] wr fun e w' => e = .returned (.string (textA l sp most)) ∧ TwoU w b1 b2 (textR l) (textR l) (textG l sp most) (textG l sp most) w' :=
  (vtext_is b2 l sp most wr h.v).mono fun _ _ ⟨h1, h2, h3⟩ => ⟨h1, h.stepV h2 h3⟩
theorem tu_num1 {w wr : World} {b1 b2 : Nat} {l : List UInt8} {sp : Bool} (n : Int) (h : TwoU w b1 b2 l l sp sp wr) :
    Calls Try.prog 21 #[.pointer (some ⟨b1, 0, none⟩), .int .i64 n] wr fun e w' => e = .returned (.int .i64 (numA l sp n)) ∧ TwoU w b1 b2 (l.drop n.toNat) l (numG l sp n) sp w' :=
  (unum_any b1 l sp n wr h.u).mono fun _ _ ⟨h1, h2, h3, _⟩ => ⟨h1, h.stepU h2 h3⟩
theorem tu_num2 {w wr : World} {b1 b2 : Nat} {l : List UInt8} {sp : Bool} (n : Int) (h : TwoU w b1 b2 (l.drop n.toNat) l (numG l sp n) sp wr) :
    Calls Try.prog 22 #[.pointer (some ⟨b2, 0, none⟩), .int .i64 n] wr fun e w' => e = .returned (.int .i64 (numA l sp n)) ∧ TwoU w b1 b2 (l.drop n.toNat) (l.drop n.toNat) (numG l sp n) (numG l sp n) w' :=
  (vnum_any b2 l sp n wr h.v).mono fun _ _ ⟨h1, h2, h3, _⟩ => ⟨h1, h.stepV h2 h3⟩
/-- a slice of ints -/
def IsAt (B : Nat) (oa : Option Addr) (n : Nat) (f : Nat → Int) (w : World) : Prop :=
  ∀ i, i < n → ∃ a, oa = some a ∧ a.block < B ∧ w.cell? (a.add i) = some (.int .i64 (f i))
theorem IsAt.below {B : Nat} {oa : Option Addr} {n : Nat} {f : Nat → Int} {w w' : World} (h : IsAt B oa n f w) (hb : Below B w w') : IsAt B oa n f w' := by
  intro i hi
  obtain ⟨a, h1, h2, h3⟩ := h i hi
  exact ⟨a, h1, h2, (hb.cell (by unfold Addr.add; split <;> exact h2)).trans h3⟩
def Stay (w : World) (b1 b2 : Nat) (wr : World) : Prop := ∃ l sp, TwoU w b1 b2 l l sp sp wr
set_option maxHeartbeats 800000 in
theorem opens_walk (s : ByteArray) (hs : s.size ≤ maxLen) (oa : Option Addr) (n cap : Nat) (f : Nat → Int) (hn : n ≤ 9223372036854775807) (most : Int) (_ : (Lit.int .i64 most).wf = true) (w : World) (h : IsAt w.heap.size oa n f w) :
    Calls Try.prog 4 #[.string s, .slice oa n cap, .int .i64 most] w fun e w' => e = .returned (.bool true) ∧ Below w.heap.size w w' := by
  unfold maxLen at hs
  have HF := Lib.hid h
  clear h
  by_cases hbig : s.size > 70000 ∨ n > 200
  · by_cases h1 : s.size > 70000
    · go_enter Try.func4, Try.ntmps4
      go_wp2_with (first
        | (go_at_call 8; refine (wakes_any _).mono ?_; rintro e w1 ⟨rfl, hb⟩))
      go_ret
      exact ⟨rfl, hb⟩
    · have h2 : n > 200 := by omega
      clear hbig
      go_enter Try.func4, Try.ntmps4
      go_wp2_with (first
        | (go_at_call 8; refine (wakes_any _).mono ?_; rintro e w1 ⟨rfl, hb⟩))
      go_ret
      exact ⟨rfl, hb⟩
  · have h1 : s.size ≤ 70000 := by omega
    have h2 : n ≤ 200 := by omega
    have d1 : decide (70000 < (s.size : Int)) = false := decide_eq_false (by omega)
    have d2 : decide (200 < (n : Int)) = false := decide_eq_false (by omega)
    clear hbig hs hn
    go_enter Try.func4, Try.ntmps4
    go_wp2_with (first
      | (go_at_call 17; refine (open_any _ _).mono ?_; rintro e w1 ⟨rfl, hp1, hb1, hz1⟩; have HP1 := Lib.hid hp1; have HB1 := Lib.hid hb1; have HZ1 := Lib.hid hz1; clear hp1 hb1 hz1)
      | (go_at_call 18; refine (ropen_any _ _).mono ?_; rintro e w2 ⟨rfl, hp2, hb2, hz2⟩; have HP2 := Lib.hid hp2; have HB2 := Lib.hid hb2; clear hp2 hb2 hz2))
    have HT0 : Hid (Stay w w.heap.size w1.heap.size w2) := Lib.hid ⟨s.data.toList, false, ⟨s, HP1.out.keep HB2.out, by omega, fun _ => rfl⟩, ⟨s, 0, HP2.out, by omega, by omega, fun _ => rfl⟩, bstep HB1.out HB2.out, by have := HZ1.out; omega, by omega, by have := HZ1.out; omega⟩
    clear d1 d2
    go_loopw [9] (fun i wr => ∃ k : Nat, k ≤ n ∧ i = .int .i64 (k : Int) ∧ Stay w w.heap.size w1.heap.size wr) (fun i _ => ((n : Int) - intOf i).toNat)
    case atStart => exact ⟨0, Nat.zero_le _, rfl, HT0.out⟩
    case round =>
      obtain ⟨k, hk, rfl, l, sp, hd⟩ := hrel
      have HD := Lib.hid hd
      clear hd
      by_cases hlt : k < n
      · have CELL : Hid (∀ wr : World, Below w.heap.size w wr → ∃ a, oa = some a ∧ wr.cell? (a.add k) = some (.int .i64 (f k))) := Lib.hid fun wr hb => by
          obtain ⟨a, ha, _, h0⟩ := (HF.out.below hb) k hlt
          exact ⟨a, ha, h0⟩
        obtain ⟨a, rfl, hc0⟩ := CELL.out _ (TwoU.low HD.out)
        by_cases hz : f k = 0
        · have hz' : (f k == 0) = true := by rw [hz]; rfl
          clear hz
          go_wp2_with (first
            | (go_at_call 19; refine (tu_text1 most HD.out).mono ?_; rintro e w3 ⟨rfl, h3⟩; have H3 := Lib.hid h3; clear h3)
            | (go_at_call 20; refine (tu_text2 most H3.out).mono ?_; rintro e w4 ⟨rfl, h4⟩; have H4 := Lib.hid h4; clear h4)
            | (go_at_call 23; refine (uleft_any _ _ _ _ (TwoU.u H4.out)).mono ?_; rintro e w5 ⟨rfl, rfl⟩)
            | (go_at_call 24; refine (vleft_any _ _ _ _ (TwoU.v H4.out)).mono ?_; rintro e w5 ⟨rfl, m5, rfl⟩; have H5 := Lib.hid (H4.out.drewN m5))
            | (go_at_call 25; refine (uend_any _ _ _ _ (TwoU.u H5.out)).mono ?_; rintro e w5 ⟨rfl, rfl⟩)
            | (go_at_call 26; refine (vend_any _ _ _ _ (TwoU.v H5.out)).mono ?_; rintro e w6 ⟨rfl, m6, rfl⟩; have H6 := Lib.hid (H5.out.drewN m6)))
          go_round
          case rel => exact ⟨k + 1, by omega, by go_num, _, _, by rw [← World.drewN_drewN]; exact H6.out⟩
          case measure => simp [intOf]; omega
        · have hz' : (f k == 0) = false := by rw [beq_eq_false_iff_ne]; exact hz
          clear hz
          have CELL2 : Hid (∀ wr : World, Below w.heap.size w wr → wr.cell? (a.add k) = some (.int .i64 (f k))) := Lib.hid fun wr hb => by
            obtain ⟨a', ha', h0⟩ := CELL.out wr hb
            injection ha' with ha'
            subst ha'
            exact h0
          go_wp2
          go_region_with (first
            | (go_at_call 21; refine (tu_num1 _ HD.out.drew).mono ?_; rintro e w3 ⟨rfl, h3⟩; have hc3 := CELL2.out w3 h3.low; have H3 := Lib.hid h3; clear h3)
            | (go_at_call 22; refine (tu_num2 _ H3.out).mono ?_; rintro e w4 ⟨rfl, h4⟩; have H4 := Lib.hid h4; clear h4))
          all_goals go_wp2_with (first
            | (go_at_call 23; refine (uleft_any _ _ _ _ (TwoU.u H4.out)).mono ?_; rintro e w5 ⟨rfl, rfl⟩)
            | (go_at_call 24; refine (vleft_any _ _ _ _ (TwoU.v H4.out)).mono ?_; rintro e w5 ⟨rfl, m5, rfl⟩; have H5 := Lib.hid (H4.out.drewN m5))
            | (go_at_call 25; refine (uend_any _ _ _ _ (TwoU.u H5.out)).mono ?_; rintro e w5 ⟨rfl, rfl⟩)
            | (go_at_call 26; refine (vend_any _ _ _ _ (TwoU.v H5.out)).mono ?_; rintro e w6 ⟨rfl, m6, rfl⟩; have H6 := Lib.hid (H5.out.drewN m6)))
          all_goals
            go_round
            case rel => exact ⟨k + 1, by omega, by go_num, _, _, by rw [← World.drewN_drewN]; exact H6.out⟩
            case measure => simp [intOf]; omega
      · go_wp2_with (first
          | (go_at_call 8; refine (wakes_any _).mono ?_; rintro e w1 ⟨rfl, hb⟩))
        go_ret
        exact ⟨rfl, bstep (TwoU.low HD.out) hb⟩
end Go.Proofs.Ytonckbnmamlilaa.PackW
