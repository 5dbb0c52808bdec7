/- PackPacks: the walk. -/
import Derived.Test.YtonckbnmamlilaaPackAbs
namespace Go.Proofs.Ytonckbnmamlilaa.PackW
open Go.RowKit
/-- both Packers, over the same fields -/
structure Two (w : World) (b1 b2 : Nat) (l : List UInt8) (sp : Bool) (N : Nat) (wr : World) : Prop where
  pk : PkAt w.heap.size b1 l sp wr
  rf : RIs b2 l sp N wr
  low : Below w.heap.size w wr
  ne : b1 ≠ b2
  le : w.heap.size ≤ b2
  len : l.length ≤ N
  far : N ≤ 400000
/-- behind the program's step -/
structure Mid (w : World) (b1 b2 : Nat) (l l' : List UInt8) (sp sp' : Bool) (N : Nat) (wr : World) : Prop where
  pk : PkAt w.heap.size b1 l' sp' wr
  rf : RIs b2 l sp N wr
  low : Below w.heap.size w wr
  ne : b1 ≠ b2
  le : w.heap.size ≤ b2
  far : N ≤ 400000
theorem Two.drew {w wr : World} {b1 b2 : Nat} {l : List UInt8} {sp : Bool} {N : Nat} (h : Two w b1 b2 l sp N wr) : Two w b1 b2 l sp N wr.drew := by
  obtain ⟨h1, h2, h3, h4, h5, h6, h7⟩ := h
  exact ⟨h1.drew, h2.keep (below_refl wr).drew, h3.drew, h4, h5, h6, h7⟩
theorem Mid.drew {w wr : World} {b1 b2 : Nat} {l l' : List UInt8} {sp sp' : Bool} {N : Nat} (h : Mid w b1 b2 l l' sp sp' N wr) : Mid w b1 b2 l l' sp sp' N wr.drew := by
  obtain ⟨h1, h2, h3, h4, h5, h7⟩ := h
  exact ⟨h1.drew, h2.keep (below_refl wr).drew, h3.drew, h4, h5, h7⟩
theorem two_num1 {w wr : World} {b1 b2 : Nat} {l : List UInt8} {sp : Bool} {N : Nat} (h : Two w b1 b2 l sp N wr) (v n : Int) (hv : v < 9223372036854775808) :
    Calls Try.prog 13 #[.pointer (some ⟨b1, 0, none⟩), .int .i64 v, .int .i64 n] wr fun e w' => e = .returned (.tuple #[]) ∧ Mid w b1 b2 l (numL l v n) sp (numB sp v n) N w' := by
  refine (num_any _ _ _ _ v n hv _ h.pk (by have := h.len; have := h.far; omega) h.low.size).mono ?_
  rintro e w' ⟨rfl, h1, h2⟩
  exact ⟨rfl, h1, h.rf.keepFr h2 h.ne.symm, h.low.trans h2.below, h.ne, h.le, h.far⟩
theorem two_num2 {w wr : World} {b1 b2 : Nat} {l : List UInt8} {sp : Bool} {N : Nat} (v n : Int) (h : Mid w b1 b2 l (numL l v n) sp (numB sp v n) N wr) (hv : v < 9223372036854775808) (hN : N + 8 ≤ 400000) (hl : (numL l v n).length ≤ N + 8) :
    Calls Try.prog 14 #[.pointer (some ⟨b2, 0, none⟩), .int .i64 v, .int .i64 n] wr fun e w' => e = .returned (.tuple #[]) ∧ Two w b1 b2 (numL l v n) (numB sp v n) (N + 8) w' := by
  refine (rnum_is _ _ _ _ v n hv _ h.rf (by omega)).mono ?_
  rintro e w' ⟨rfl, h1, h2⟩
  exact ⟨rfl, h.pk.keepRef h.rf h2 h.ne, h1, h.low.trans (h2.below h.le h.low.size), h.ne, h.le, hl, hN⟩
theorem two_text1 {w wr : World} {b1 b2 : Nat} {l : List UInt8} {sp : Bool} {N : Nat} (h : Two w b1 b2 l sp N wr) (s : ByteArray) (hs : s.size ≤ 70000) :
    Calls Try.prog 11 #[.pointer (some ⟨b1, 0, none⟩), .string s] wr fun e w' => e = .returned (.tuple #[]) ∧ Mid w b1 b2 l (textL l s.data.toList) sp (textB sp s.data.toList) N w' := by
  refine (text_any _ _ _ _ s _ h.pk (by have := h.len; have := h.far; omega) h.low.size).mono ?_
  rintro e w' ⟨rfl, h1, h2⟩
  exact ⟨rfl, h1, h.rf.keepFr h2 h.ne.symm, h.low.trans h2.below, h.ne, h.le, h.far⟩
theorem two_text2 {w wr : World} {b1 b2 : Nat} {l : List UInt8} {sp : Bool} {N : Nat} (s : ByteArray) (h : Mid w b1 b2 l (textL l s.data.toList) sp (textB sp s.data.toList) N wr) (hN : N + (s.size + 8) ≤ 400000) (hl : (textL l s.data.toList).length ≤ N + (s.size + 8)) :
    Calls Try.prog 12 #[.pointer (some ⟨b2, 0, none⟩), .string s] wr fun e w' => e = .returned (.tuple #[]) ∧ Two w b1 b2 (textL l s.data.toList) (textB sp s.data.toList) (N + (s.size + 8)) w' := by
  refine (rtext_is _ _ _ _ s _ h.rf (by have := h.far; omega)).mono ?_
  rintro e w' ⟨rfl, ⟨x, h1, h3, h4⟩, h2⟩
  exact ⟨rfl, h.pk.keepRef h.rf h2 h.ne, ⟨x, h1, by omega, h4⟩, h.low.trans (h2.below h.le h.low.size), h.ne, h.le, hl, hN⟩
theorem num_len (l : List UInt8) (v n : Int) (N : Nat) (h : l.length ≤ N) : (numL l v n).length ≤ N + 8 := by
  unfold numL
  split
  · rename_i h
    have : n.toNat ≤ 8 := by have := h.1; unfold Sized at this; omega
    simp only [List.length_append, ShiftP.putN_length]; omega
  · omega
theorem text_len (l : List UInt8) (s : ByteArray) (N : Nat) (h : l.length ≤ N) : (textL l s.data.toList).length ≤ N + (s.size + 8) := by
  have hsz : s.data.toList.length = s.size := by simp
  unfold textL
  split
  · simp only [List.length_append, ShiftP.putN_length, hsz]; omega
  · simp only [List.length_append, hsz]; omega
/-- at the head of a round -/
def Head (w : World) (b1 b2 : Nat) (f : Nat → Fd) (k : Nat) (wr : World) : Prop := Two w b1 b2 (pkL f k) (pkB f k) (sumF f k + 8 * k) wr
theorem head_num {w wr : World} {b1 b2 : Nat} {f : Nat → Fd} {k : Nat} (h0 : (f k).size ≠ 0) (h : Two w b1 b2 (numL (pkL f k) (f k).v (f k).size) (numB (pkB f k) (f k).v (f k).size) (sumF f k + 8 * k + 8) wr) (hs : sumF f (k + 1) + 8 * (k + 1) ≤ 400000) : Head w b1 b2 f (k + 1) wr := by
  unfold Head
  rw [pkL, pkB, if_neg h0, if_neg h0]
  have hle : sumF f k + 8 * k + 8 ≤ sumF f (k + 1) + 8 * (k + 1) := by rw [sumF]; omega
  obtain ⟨h1, ⟨x, h2, h3, h4⟩, h5, h6, h7, h8, h9⟩ := h
  exact ⟨h1, ⟨x, h2, by omega, h4⟩, h5, h6, h7, by omega, hs⟩
theorem head_text {w wr : World} {b1 b2 : Nat} {f : Nat → Fd} {k : Nat} (h0 : (f k).size = 0) (h : Two w b1 b2 (textL (pkL f k) (f k).s.data.toList) (textB (pkB f k) (f k).s.data.toList) (sumF f k + 8 * k + ((f k).s.size + 8)) wr) : Head w b1 b2 f (k + 1) wr := by
  unfold Head
  rw [pkL, pkB, if_pos h0, if_pos h0]
  have hle : sumF f k + 8 * k + ((f k).s.size + 8) = sumF f (k + 1) + 8 * (k + 1) := by rw [sumF]; omega
  rw [← hle]; exact h
set_option maxHeartbeats 800000 in
theorem packs_unfair (oa : Option Addr) (n cap : Nat) (f : Nat → Fd) (hn : n ≤ 9223372036854775807) (hf : ¬ Fair f n) (w : World) (h : FdAt w.heap.size oa n f w) :
    Calls Try.prog 3 #[.slice oa n cap] w fun e w' => e = .returned (.bool true) ∧ Below w.heap.size w w' := by
  have HF := Lib.hid h
  have HN := Lib.hid hn
  have HU := Lib.hid hf
  clear h hn hf
  go_enter Try.func3, Try.ntmps3
  go_wp2_with (first
    | (go_at_call 7; refine (fair_no _ oa n cap f HN.out HU.out _ HF.out).mono ?_; rintro e w1 ⟨rfl, rfl⟩)
    | (go_at_call 8; refine (wakes_any _).mono ?_; rintro e w1 ⟨rfl, hb⟩))
  go_ret
  exact ⟨rfl, hb⟩
set_option maxHeartbeats 800000 in
theorem packs_fair (oa : Option Addr) (n cap : Nat) (f : Nat → Fd) (hf : Fair f n) (hv : ∀ i, (f i).v < 9223372036854775808) (w : World) (h : FdAt w.heap.size oa n f w) :
    Calls Try.prog 3 #[.slice oa n cap] w fun e w' => e = .returned (.bool true) ∧ Below w.heap.size w w' := by
  have HF := Lib.hid h
  have HU := Lib.hid hf
  have HV := Lib.hid hv
  clear h hf hv
  go_enter Try.func3, Try.ntmps3
  go_wp2_with (first
    | (go_at_call 7; refine (fair_yes _ oa n cap f HU.out _ HF.out).mono ?_; rintro e w1 ⟨rfl, rfl⟩)
    | (go_at_call 9; refine (new_any _).mono ?_; rintro e w1 ⟨rfl, hp1, hb1, hz1⟩; have HP1 := Lib.hid hp1; have HB1 := Lib.hid hb1; have HZ1 := Lib.hid hz1; clear hp1 hb1 hz1)
    | (go_at_call 10; refine (rnew_any _).mono ?_; rintro e w2 ⟨rfl, hp2, hb2, hz2⟩; have HP2 := Lib.hid hp2; have HB2 := Lib.hid hb2; clear hp2 hb2 hz2))
  have HT0 : Hid (Head w w.heap.size w1.heap.size f 0 w2) := Lib.hid ⟨HP1.out.keep HB2.out, ⟨⟨#[]⟩, HP2.out, by simp [ByteArray.size], fun _ => rfl⟩, bstep HB1.out HB2.out, by have := HZ1.out; omega, by have := HZ1.out; omega, by simp [pkL], by simp [sumF]⟩
  have HL : Hid (∀ k, k < n → sumF f (k + 1) + 8 * (k + 1) ≤ 400000 ∧ (f k).s.size ≤ 70000) := Lib.hid fun k hk => by
    have h1 := sumF_le f (show k + 1 ≤ n by omega)
    have h2 := HU.out.2.1
    have h3 := HU.out.2.2
    exact ⟨by omega, HU.out.1 k hk⟩
  have hn : n ≤ 200 := HU.out.2.2
  go_loopw [5] (fun i wr => ∃ k : Nat, k ≤ n ∧ i = .int .i64 (k : Int) ∧ Head w w.heap.size w1.heap.size f k wr) (fun i _ => ((n : Int) - intOf i).toNat)
  case atStart => exact ⟨0, Nat.zero_le _, rfl, HT0.out⟩
  case round =>
    obtain ⟨k, hk, rfl, hd⟩ := hrel
    have HD := Lib.hid hd
    clear hd
    by_cases hlt : k < n
    · obtain ⟨a, rfl, hab, hc0, hc1, hc2⟩ := (HF.out.below (Two.low HD.out)) k hlt
      have HK := Lib.hid (HL.out k hlt)
      have CELL : Hid (∀ wr : World, Below w.heap.size w wr → wr.cell? (a.add (k * 3)) = some (.int .i64 (f k).size) ∧ wr.cell? ⟨(a.add (k * 3)).block, (a.add (k * 3)).off + 1, none⟩ = some (.int .i64 (f k).v) ∧ wr.cell? ⟨(a.add (k * 3)).block, (a.add (k * 3)).off + 2, none⟩ = some (.string (f k).s)) := Lib.hid fun wr hb => by
        obtain ⟨a', ha', _, h0, h1, h2⟩ := (HF.out.below hb) k hlt
        injection ha' with ha'
        subst ha'
        exact ⟨h0, h1, h2⟩
      by_cases hz : (f k).size = 0
      · have HZ := Lib.hid hz
        have hz' : ((f k).size == 0) = true := by rw [hz]; rfl
        clear hz
        go_wp2_with (first
          | (go_at_call 11; refine (two_text1 HD.out _ HK.out.2).mono ?_; rintro e w3 ⟨rfl, hm⟩; have HM := Lib.hid hm; clear hm; obtain ⟨hd0, hd1, hd2⟩ := CELL.out w3 HM.out.low)
          | (go_at_call 12; refine (two_text2 _ HM.out ?_ (text_len _ _ _ HD.out.len)).mono ?_; (have h1 := HK.out.1; rw [sumF] at h1; omega); rintro e w4 ⟨rfl, ht⟩; have HT := Lib.hid (head_text HZ.out ht); clear ht))
        go_round
        case rel => exact ⟨k + 1, by omega, by go_num, HT.out⟩
        case measure => simp [intOf]; omega
      · have HZ := Lib.hid hz
        have hz' : ((f k).size == 0) = false := by rw [beq_eq_false_iff_ne]; exact hz
        clear hz
        go_wp2
        go_region_with (go_at_call 13; refine (two_num1 HD.out.drew _ _ (HV.out k)).mono ?_; rintro e w3 ⟨rfl, hm⟩; have HM := Lib.hid hm; clear hm; obtain ⟨hd0, hd1, hd2⟩ := CELL.out w3 HM.out.low)
        all_goals go_wp2
        all_goals go_region_with (go_at_call 14; refine (two_num2 _ _ HM.out.drew (HV.out k) ?_ (num_len _ _ _ _ HD.out.len)).mono ?_; (have h1 := HK.out.1; rw [sumF] at h1; omega); rintro e w4 ⟨rfl, ht⟩; have HT := Lib.hid (head_num HZ.out ht HK.out.1); clear ht)
        all_goals go_wp2
        all_goals
          go_round
          case rel => exact ⟨k + 1, by omega, by go_num, HT.out⟩
          case measure => simp [intOf]; omega
    · have HKN : Hid (k = n) := Lib.hid (by omega)
      go_wp2_with (first
        | (go_at_call 15; refine (done_any _ _ _ _ _ (Two.pk HD.out) (Two.low HD.out).size).mono ?_; rintro e w3 ⟨rfl, hf3⟩; have HR := Lib.hid ((Two.rf HD.out).keepFr hf3 (Two.ne HD.out).symm); have HB := Lib.hid ((Two.low HD.out).trans hf3.below); clear hf3)
        | (go_at_call 16; refine (rdone_is _ _ _ _ _ HR.out (by have := Two.far HD.out; omega)).mono ?_; rintro e w4 ⟨rfl, rfl⟩)
        | (go_at_call 8; refine (wakes_any _).mono ?_; rintro e w5 ⟨rfl, hb5⟩))
      go_ret
      exact ⟨rfl, bstep HB.out hb5⟩
theorem packs_walk (oa : Option Addr) (n cap : Nat) (f : Nat → Fd) (hn : n ≤ 9223372036854775807) (hv : ∀ i, (f i).v < 9223372036854775808) (w : World) (h : FdAt w.heap.size oa n f w) :
    Calls Try.prog 3 #[.slice oa n cap] w fun e w' => e = .returned (.bool true) ∧ Below w.heap.size w w' := by
  by_cases hf : Fair f n
  · exact packs_fair oa n cap f hf hv w h
  · exact packs_unfair oa n cap f hn hf w h
end Go.Proofs.Ytonckbnmamlilaa.PackW
