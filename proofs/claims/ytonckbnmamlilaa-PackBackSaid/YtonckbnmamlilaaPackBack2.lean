/- PackBack: the walk. -/
import Derived.Test.YtonckbnmamlilaaPackBack
namespace Go.Proofs.Ytonckbnmamlilaa.PackW
open Go.RowKit
/-- the Unpacker at the head of a round: behind the fields packed there stands the rest -/
def Un (w : World) (b : Nat) (f : Nat → Fd) (n k : Nat) (wr : World) : Prop := ∃ l, UIs b l false wr ∧ pkL f k ++ l = pkL f n ∧ Below w.heap.size w wr ∧ w.heap.size ≤ b
theorem Un.low {w : World} {b : Nat} {f : Nat → Fd} {n k : Nat} {wr : World} (h : Un w b f n k wr) : Below w.heap.size w wr := by
  obtain ⟨l, _, _, h, _⟩ := h; exact h
theorem Un.drew {w : World} {b : Nat} {f : Nat → Fd} {n k : Nat} {wr : World} (h : Un w b f n k wr) : Un w b f n k wr.drew := by
  obtain ⟨l, h1, h2, h3, h4⟩ := h
  exact ⟨l, h1.keep (below_refl wr).drew, h2, h3.drew, h4⟩
theorem un_text {w wr : World} {b : Nat} {f : Nat → Fd} {n k : Nat} (h : Un w b f n k wr) (hk : k < n) (hn : pkB f n = false) (hz : (f k).size = 0) :
    Calls Try.prog 19 #[.pointer (some ⟨b, 0, none⟩), .int .i64 65535] wr fun e w' => e = .returned (.string (f k).s) ∧ Un w b f n (k + 1) w' := by
  obtain ⟨l, h1, h2, h3, h4⟩ := h
  obtain ⟨q1, q2, q3⟩ := back_text f hk hn l h2 hz
  refine (utext_is b l false 65535 wr h1).mono ?_
  rintro e w' ⟨rfl, h5, h6⟩
  rw [q2] at h5
  exact ⟨by rw [q1], ⟨_, h5, q3, h3.trans (h6.below h4 h3.size), h4⟩⟩
theorem un_num {w wr : World} {b : Nat} {f : Nat → Fd} {n k : Nat} (h : Un w b f n k wr) (hk : k < n) (hn : pkB f n = false) (hv : (f k).v < 9223372036854775808) (hz : (f k).size ≠ 0) :
    Calls Try.prog 21 #[.pointer (some ⟨b, 0, none⟩), .int .i64 (f k).size] wr fun e w' => e = .returned (.int .i64 (f k).v) ∧ Un w b f n (k + 1) w' := by
  obtain ⟨l, h1, h2, h3, h4⟩ := h
  obtain ⟨q1, q2, q3⟩ := back_num f hk hn hv l h2 hz
  refine (unum_any b l false (f k).size wr h1).mono ?_
  rintro e w' ⟨rfl, h5, h6, _⟩
  rw [q2] at h5
  exact ⟨by rw [q1], ⟨_, h5, q3, h3.trans (h6.below h4 h3.size), h4⟩⟩
theorem un_end {w wr : World} {b : Nat} {f : Nat → Fd} {n k : Nat} (hk : k = n) (h : Un w b f n k wr) : UIs b [] false wr := by
  subst hk
  obtain ⟨l, h1, h2, h3, h4⟩ := h
  have : l = [] := by
    have := congrArg List.length h2
    rw [List.length_append] at this
    exact List.eq_nil_of_length_eq_zero (by omega)
  rw [← this]; exact h1
set_option maxHeartbeats 800000 in
theorem back_unfair (oa : Option Addr) (n cap : Nat) (f : Nat → Fd) (hn : n ≤ 9223372036854775807) (hf : ¬ Fair f n) (w : World) (h : FdAt w.heap.size oa n f w) :
    Calls Try.prog 5 #[.slice oa n cap] w fun e w' => e = .returned (.bool true) ∧ Below w.heap.size w w' := by
  have HF := Lib.hid h
  have HN := Lib.hid hn
  have HU := Lib.hid hf
  clear h hn hf
  go_enter Try.func5, Try.ntmps5
  go_wp2_with (first
    | (go_at_call 7; refine (fair_no _ oa n cap f HN.out HU.out _ HF.out).mono ?_; rintro e w1 ⟨rfl, rfl⟩)
    | (go_at_call 8; refine (wakes_any _).mono ?_; rintro e w1 ⟨rfl, hb⟩))
  go_ret
  exact ⟨rfl, hb⟩
set_option maxHeartbeats 800000 in
theorem back_bad (oa : Option Addr) (n cap : Nat) (f : Nat → Fd) (hf : Fair f n) (hv : ∀ i, (f i).v < 9223372036854775808) (E : Int) (hS : doneS (pkL f n) (pkB f n) = ⟨#[]⟩) (hE : doneE (pkL f n) (pkB f n) = E) (h0 : (E != 0) = true) (w : World) (h : FdAt w.heap.size oa n f w) :
    Calls Try.prog 5 #[.slice oa n cap] w fun e w' => e = .returned (.bool true) ∧ Below w.heap.size w w' := by
  have HF := Lib.hid h
  have HU := Lib.hid hf
  have HV := Lib.hid hv
  have HS := Lib.hid hS
  have HE := Lib.hid hE
  have HE0 := Lib.hid h0
  clear h hf hv hS hE h0
  go_enter Try.func5, Try.ntmps5
  go_wp2_with (first
    | (go_at_call 7; refine (fair_yes _ oa n cap f HU.out _ HF.out).mono ?_; rintro e w1 ⟨rfl, rfl⟩)
    | (go_at_call 9; refine (new_any _).mono ?_; rintro e w1 ⟨rfl, hp1, hb1, hz1⟩; have HP1 := Lib.hid hp1; have HB1 := Lib.hid hb1; clear hp1 hb1 hz1))
  have HT0 : Hid (Head1 w f 0 w1) := Lib.hid ⟨HP1.out, HB1.out, by simp [pkL], by simp [sumF]⟩
  have HL : Hid (∀ k, k < n → sumF f (k + 1) + 8 * (k + 1) ≤ 400000 ∧ (f k).s.size ≤ 70000) := Lib.hid fun k hk => by
    have h1 := sumF_le f (show k + 1 ≤ n by omega)
    have h2 := HU.out.2.1
    have h3 := HU.out.2.2
    exact ⟨by omega, HU.out.1 k hk⟩
  have hn : n ≤ 200 := HU.out.2.2
  go_loopw [4] (fun i wr => ∃ k : Nat, k ≤ n ∧ i = .int .i64 (k : Int) ∧ Head1 w f k wr) (fun i _ => ((n : Int) - intOf i).toNat)
  case atStart => exact ⟨0, Nat.zero_le _, rfl, HT0.out⟩
  case round =>
    obtain ⟨k, hk, rfl, hd⟩ := hrel
    have HD := Lib.hid hd
    clear hd
    by_cases hlt : k < n
    · obtain ⟨a, rfl, hab, hc0, hc1, hc2⟩ := (HF.out.below (One.low HD.out)) k hlt
      have HK := Lib.hid (HL.out k hlt)
      by_cases hz : (f k).size = 0
      · have HZ := Lib.hid hz
        have hz' : ((f k).size == 0) = true := by rw [hz]; rfl
        clear hz
        go_wp2_with (first
          | (go_at_call 11; refine (one_text HD.out _ ?_).mono ?_; (have h1 := HK.out.1; rw [sumF] at h1; omega); rintro e w3 ⟨rfl, hm⟩; have HM := Lib.hid (head1_text HZ.out hm); clear hm))
        go_round
        case rel => exact ⟨k + 1, by omega, by go_num, HM.out⟩
        case measure => simp [intOf]; omega
      · have HZ := Lib.hid hz
        have hz' : ((f k).size == 0) = false := by rw [beq_eq_false_iff_ne]; exact hz
        clear hz
        go_wp2
        go_region_with (go_at_call 13; refine (one_num HD.out.drew _ _ (HV.out k) ?_).mono ?_; (have h1 := HK.out.1; rw [sumF] at h1; omega); rintro e w3 ⟨rfl, hm⟩; have HM := Lib.hid (head1_num HZ.out hm HK.out.1); clear hm)
        all_goals go_wp2
        all_goals
          go_round
          case rel => exact ⟨k + 1, by omega, by go_num, HM.out⟩
          case measure => simp [intOf]; omega
    · have HKN : Hid (k = n) := Lib.hid (by omega)
      have HS2 : Hid (doneS (pkL f k) (pkB f k) = ⟨#[]⟩) := Lib.hid (by rw [HKN.out]; exact HS.out)
      have HE2 : Hid (doneE (pkL f k) (pkB f k) = E) := Lib.hid (by rw [HKN.out]; exact HE.out)
      have hE0 := HE0.out
      go_wp2_with (first
        | (go_at_call 15; refine (done_any _ _ _ _ _ (One.pk HD.out) (One.low HD.out).size).mono ?_; rintro e w3 ⟨he, hf3⟩; rw [HS2.out, HE2.out] at he; subst he; have HB := Lib.hid ((One.low HD.out).trans hf3.below); clear hf3)
        | (go_at_call 8; refine (wakes_any _).mono ?_; rintro e w5 ⟨rfl, hb5⟩))
      go_ret
      exact ⟨rfl, bstep HB.out hb5⟩
set_option maxHeartbeats 800000 in
theorem back_good (oa : Option Addr) (n cap : Nat) (f : Nat → Fd) (hf : Fair f n) (hv : ∀ i, (f i).v < 9223372036854775808) (hB : pkB f n = false) (hl : (pkL f n).length ≤ 65536) (w : World) (h : FdAt w.heap.size oa n f w) :
    Calls Try.prog 5 #[.slice oa n cap] w fun e w' => e = .returned (.bool true) ∧ Below w.heap.size w w' := by
  have HF := Lib.hid h
  have HU := Lib.hid hf
  have HV := Lib.hid hv
  have HB0 := Lib.hid hB
  have HLE := Lib.hid hl
  have HS : Hid (doneS (pkL f n) (pkB f n) = ⟨(pkL f n).toArray⟩) := Lib.hid (by rw [hB, doneS, if_pos ⟨rfl, hl⟩])
  have HE : Hid (doneE (pkL f n) (pkB f n) = 0) := Lib.hid (by rw [hB, doneE, if_neg (by decide), if_pos hl])
  clear h hf hv hB hl
  go_enter Try.func5, Try.ntmps5
  go_wp2_with (first
    | (go_at_call 7; refine (fair_yes _ oa n cap f HU.out _ HF.out).mono ?_; rintro e w1 ⟨rfl, rfl⟩)
    | (go_at_call 9; refine (new_any _).mono ?_; rintro e w1 ⟨rfl, hp1, hb1, hz1⟩; have HP1 := Lib.hid hp1; have HB1 := Lib.hid hb1; clear hp1 hb1 hz1))
  have HT0 : Hid (Head1 w f 0 w1) := Lib.hid ⟨HP1.out, HB1.out, by simp [pkL], by simp [sumF]⟩
  have HL : Hid (∀ k, k < n → sumF f (k + 1) + 8 * (k + 1) ≤ 400000 ∧ (f k).s.size ≤ 70000) := Lib.hid fun k hk => by
    have h1 := sumF_le f (show k + 1 ≤ n by omega)
    have h2 := HU.out.2.1
    have h3 := HU.out.2.2
    exact ⟨by omega, HU.out.1 k hk⟩
  have hn : n ≤ 200 := HU.out.2.2
  go_loopw [4] (fun i wr => ∃ k : Nat, k ≤ n ∧ i = .int .i64 (k : Int) ∧ Head1 w f k wr) (fun i _ => ((n : Int) - intOf i).toNat)
  case atStart => exact ⟨0, Nat.zero_le _, rfl, HT0.out⟩
  case round =>
    obtain ⟨k, hk, rfl, hd⟩ := hrel
    have HD := Lib.hid hd
    clear hd
    by_cases hlt : k < n
    · obtain ⟨a, rfl, hab, hc0, hc1, hc2⟩ := (HF.out.below (One.low HD.out)) k hlt
      have HK := Lib.hid (HL.out k hlt)
      by_cases hz : (f k).size = 0
      · have HZ := Lib.hid hz
        have hz' : ((f k).size == 0) = true := by rw [hz]; rfl
        clear hz
        go_wp2_with (first
          | (go_at_call 11; refine (one_text HD.out _ ?_).mono ?_; (have h1 := HK.out.1; rw [sumF] at h1; omega); rintro e w3 ⟨rfl, hm⟩; have HM := Lib.hid (head1_text HZ.out hm); clear hm))
        go_round
        case rel => exact ⟨k + 1, by omega, by go_num, HM.out⟩
        case measure => simp [intOf]; omega
      · have HZ := Lib.hid hz
        have hz' : ((f k).size == 0) = false := by rw [beq_eq_false_iff_ne]; exact hz
        clear hz
        go_wp2
        go_region_with (go_at_call 13; refine (one_num HD.out.drew _ _ (HV.out k) ?_).mono ?_; (have h1 := HK.out.1; rw [sumF] at h1; omega); rintro e w3 ⟨rfl, hm⟩; have HM := Lib.hid (head1_num HZ.out hm HK.out.1); clear hm)
        all_goals go_wp2
        all_goals
          go_round
          case rel => exact ⟨k + 1, by omega, by go_num, HM.out⟩
          case measure => simp [intOf]; omega
    · have HKN : Hid (k = n) := Lib.hid (by omega)
      have HS2 : Hid (doneS (pkL f k) (pkB f k) = ⟨(pkL f n).toArray⟩) := Lib.hid (by rw [HKN.out]; exact HS.out)
      have HE2 : Hid (doneE (pkL f k) (pkB f k) = 0) := Lib.hid (by rw [HKN.out]; exact HE.out)
      go_wp2_with (first
        | (go_at_call 15; refine (done_any _ _ _ _ _ (One.pk HD.out) (One.low HD.out).size).mono ?_; rintro e w3 ⟨he, hf3⟩; rw [HS2.out, HE2.out] at he; subst he; have HB := Lib.hid ((One.low HD.out).trans hf3.below); clear hf3)
        | (go_at_call 17; refine (open_any _ _).mono ?_; rintro e w4 ⟨rfl, hp4, hb4, hz4⟩; have HU4 := Lib.hid hp4; have HB4 := Lib.hid hb4; clear hp4 hb4 hz4))
      have HT4 : Hid (Un w w3.heap.size f n 0 w4) := Lib.hid ⟨pkL f n, ⟨_, HU4.out, by have := HLE.out; simp [ByteArray.size]; omega, fun _ => rfl⟩, by simp [pkL], bstep HB.out HB4.out, HB.out.size⟩
      have h6 : Hid (endA [] false = 0 ∧ leftA [] false = 0 ∧ numA [] false 1 = 0 ∧ numG [] false 1 = true ∧ endA (([] : List UInt8).drop (Int.toNat 1)) true = 11) := Lib.hid (by decide +kernel)
      have hlow : w.heap.size ≤ w3.heap.size := HB.out.size
      clear hlt
      go_loopw [8] (fun i wr => ∃ j : Nat, j ≤ n ∧ i = .int .i64 (j : Int) ∧ Un w w3.heap.size f n j wr) (fun i _ => ((n : Int) - intOf i).toNat)
      case atStart => exact ⟨0, Nat.zero_le _, rfl, HT4.out⟩
      case round =>
        obtain ⟨j, hj, rfl, hd⟩ := hrel
        have HD5 := Lib.hid hd
        clear hd
        by_cases hlt : j < n
        · obtain ⟨a, rfl, hab, hc0, hc1, hc2⟩ := (HF.out.below (Un.low HD5.out)) j hlt
          have CELL : Hid (∀ wr : World, Below w.heap.size w wr → wr.cell? (a.add (j * 3)) = some (.int .i64 (f j).size) ∧ wr.cell? ⟨(a.add (j * 3)).block, (a.add (j * 3)).off + 1, none⟩ = some (.int .i64 (f j).v) ∧ wr.cell? ⟨(a.add (j * 3)).block, (a.add (j * 3)).off + 2, none⟩ = some (.string (f j).s)) := Lib.hid fun wr hb => by
            obtain ⟨a', ha', _, h0, h1, h2⟩ := (HF.out.below hb) j hlt
            injection ha' with ha'
            subst ha'
            exact ⟨h0, h1, h2⟩
          by_cases hz : (f j).size = 0
          · have HZ := Lib.hid hz
            have HLT := Lib.hid hlt
            have hz' : ((f j).size == 0) = true := by rw [hz]; rfl
            clear hz
            go_wp2
            go_region_with (go_at_call 19; refine (un_text HD5.out.drew HLT.out HB0.out HZ.out).mono ?_; rintro e w5 ⟨rfl, hm⟩; obtain ⟨hd0, hd1, hd2⟩ := CELL.out w5 hm.low; have HM := Lib.hid hm; clear hm)
            all_goals go_wp2
            all_goals
              go_round
              case rel => exact ⟨j + 1, by omega, by go_num, HM.out⟩
              case measure => simp [intOf]; omega
          · have HZ := Lib.hid hz
            have HLT := Lib.hid hlt
            have hz' : ((f j).size == 0) = false := by rw [beq_eq_false_iff_ne]; exact hz
            clear hz
            go_wp2
            go_region_with (go_at_call 21; refine (un_num HD5.out.drew HLT.out HB0.out (HV.out j) HZ.out).mono ?_; rintro e w5 ⟨rfl, hm⟩; obtain ⟨hd0, hd1, hd2⟩ := CELL.out w5 hm.low; have HM := Lib.hid hm; clear hm)
            all_goals go_wp2
            all_goals
              go_round
              case rel => exact ⟨j + 1, by omega, by go_num, HM.out⟩
              case measure => simp [intOf]; omega
        · have HJ : Hid (j = n) := Lib.hid (by omega)
          have HU9 := Lib.hid (un_end (k := j) HJ.out HD5.out)
          have HL9 := Lib.hid (Un.low HD5.out)
          go_wp2_with (first
            | (go_at_call 25; refine (uend_any _ _ _ _ HQ.out).mono ?_; rintro e w7 ⟨he, rfl⟩; rw [h6.out.2.2.2.2] at he; subst he)
            | (go_at_call 25; refine (uend_any _ _ _ _ HU9.out).mono ?_; rintro e w6 ⟨he, rfl⟩; rw [h6.out.1] at he; subst he)
            | (go_at_call 23; refine (uleft_any _ _ _ _ HU9.out).mono ?_; rintro e w6 ⟨he, rfl⟩; rw [h6.out.2.1] at he; subst he)
            | (go_at_call 21; refine (unum_any _ _ _ _ _ HU9.out).mono ?_; rintro e w6 ⟨he, hu6, hb6, _⟩; rw [h6.out.2.2.1] at he; subst he; rw [h6.out.2.2.2.1] at hu6; have HQ := Lib.hid hu6; have HL6 := Lib.hid (HL9.out.trans (hb6.below hlow HL9.out.size)); clear hu6 hb6)
            | (go_at_call 8; refine (wakes_any _).mono ?_; rintro e w8 ⟨rfl, hb8⟩))
          go_ret
          exact ⟨rfl, bstep HL6.out hb8⟩
theorem back_walk (oa : Option Addr) (n cap : Nat) (f : Nat → Fd) (hn : n ≤ 9223372036854775807) (hv : ∀ i, (f i).v < 9223372036854775808) (w : World) (h : FdAt w.heap.size oa n f w) :
    Calls Try.prog 5 #[.slice oa n cap] w fun e w' => e = .returned (.bool true) ∧ Below w.heap.size w w' := by
  by_cases hf : Fair f n
  · cases hB : pkB f n with
    | true => exact back_bad oa n cap f hf hv 11 (by rw [hB]; simp [doneS]) (by rw [hB]; simp [doneE]) (by decide) w h
    | false =>
      by_cases hl : (pkL f n).length ≤ 65536
      · exact back_good oa n cap f hf hv hB hl w h
      · exact back_bad oa n cap f hf hv 2 (by rw [hB]; simp [doneS, hl]) (by rw [hB]; simp [doneE, hl]) (by decide) w h
  · exact back_unfair oa n cap f hn hf w h
end Go.Proofs.Ytonckbnmamlilaa.PackW
