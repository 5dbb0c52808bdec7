/- The reference's Next and Open. -/
import Derived.Test.YtlmbllboemgcpaaFrameRef
namespace Go.Proofs.Ytlmbllboemgcpaa.FrameW
open Go.RowKit
open ShiftW (getOK getV putS getR rput_any rget_any)
open CrcW (u rsum_any)
def rnextV (f : List UInt8) : Value := .tuple #[.agg #[.string ⟨(nextR f).1.toArray⟩, .int .i64 ((nextR f).2.1 : Nat)], .int .i64 ((nextR f).2.2 : Nat)]
set_option maxHeartbeats 800000 in
theorem rnext_short (f : ByteArray) (hf : f.size < 8) (w : World) :
    Calls Try.prog 15 #[.string f] w fun e w' => e = .returned (.tuple #[.agg #[.string ⟨#[]⟩, .int .i64 0], .int .i64 10]) ∧ Below w.heap.size w w' := by
  go_enter Try.func15, Try.ntmps15
  go_wp2
  exact bodyPost_ret (v := .tuple #[.agg #[.string ⟨#[]⟩, .int .i64 0], .int .i64 10]) (by simp [results, Try.results15, go_sem]) rfl ⟨rfl, below_alloc _ _⟩
set_option maxHeartbeats 800000 in
set_option maxRecDepth 10000 in
theorem rnext_off (f : ByteArray) (hs : f.size ≤ 9223372036854775807) (n : Nat) (E : Int) (hf : 8 ≤ f.size) (hR1 : getR f 0 4 = .tuple #[.int .u64 (n : Nat), .bool true]) (hn : n < 4294967296)
    (h : 65536 < n ∧ E = 2 ∨ n ≤ 65536 ∧ f.size - 8 < n ∧ E = 10) (w : World) :
    Calls Try.prog 15 #[.string f] w fun e w' => e = .returned (.tuple #[.agg #[.string ⟨#[]⟩, .int .i64 0], .int .i64 E]) ∧ Below w.heap.size w w' := by
  have hsz := Lib.hid hs
  have h1 := Lib.hid hR1
  have hw : IntKind.i64.wrap (n : Int) = (n : Int) := IntWalk.i64_in _ (by omega)
  clear hR1 hn hs
  rcases h with ⟨h, rfl⟩ | ⟨h, h', rfl⟩
  · have d1 : decide (65536 < (n : Int)) = true := decide_eq_true (by omega)
    clear h
    go_enter Try.func15, Try.ntmps15
    go_wp2_with (go_at_call 23; refine (rget_any _ _ _ hsz.out _).mono ?_; rintro e w1 ⟨he, rfl⟩; rw [h1.out] at he; subst he)
    exact bodyPost_ret (v := .tuple #[.agg #[.string ⟨#[]⟩, .int .i64 0], .int .i64 2]) (by simp [results, Try.results15, go_sem]) rfl ⟨rfl, below_alloc _ _⟩
  · have d1 : decide (65536 < (n : Int)) = false := decide_eq_false (by omega)
    have d2 : decide ((f.size : Int) - 8 < (n : Int)) = true := decide_eq_true (by omega)
    have hn6 : (n : Int) ≤ 65536 := by omega
    have hfz : (f.size : Int) ≤ 9223372036854775807 := by have := hsz.out; omega
    clear h
    go_enter Try.func15, Try.ntmps15
    go_wp2_with (go_at_call 23; refine (rget_any _ _ _ hsz.out _).mono ?_; rintro e w1 ⟨he, rfl⟩; rw [h1.out] at he; subst he)
    exact bodyPost_ret (v := .tuple #[.agg #[.string ⟨#[]⟩, .int .i64 0], .int .i64 10]) (by simp [results, Try.results15, go_sem]) rfl ⟨rfl, below_alloc _ _⟩
set_option maxHeartbeats 800000 in
theorem rnext_sum (f : ByteArray) (hs : f.size ≤ 9223372036854775807) (n m : Nat) (hf : 8 + n ≤ f.size) (hR1 : getR f 0 4 = .tuple #[.int .u64 (n : Nat), .bool true]) (hR2 : getR f 4 4 = .tuple #[.int .u64 (m : Nat), .bool true]) (hn : n ≤ 65536) (hm : m < 4294967296)
    (X : CrcP.W) (hX : CrcP.sum (f.data.toList.take 4 ++ (f.extract 8 (8 + n)).data.toList) = X) (B : Bool) (hB : ((m : Int) != u X) = B) (w : World) :
    Calls Try.prog 15 #[.string f] w fun e w' => e = .returned (if B then .tuple #[.agg #[.string ⟨#[]⟩, .int .i64 0], .int .i64 12] else .tuple #[.agg #[.string (f.extract 8 (8 + n)), .int .i64 ((8 + n : Nat) : Int)], .int .i64 0]) ∧ Below w.heap.size w w' := by
  have hsz := Lib.hid hs
  have h1 := Lib.hid hR1
  have h2 := Lib.hid hR2
  have hw : IntKind.i64.wrap (n : Int) = (n : Int) := IntWalk.i64_in _ (by omega)
  have hw2 : (m : Int) % 4294967296 = (m : Int) := by omega
  have hn' : (n : Int) ≤ 65536 := by omega
  have d1 : decide (65536 < (n : Int)) = false := decide_eq_false (by omega)
  have d2 : decide ((f.size : Int) - 8 < (n : Int)) = false := decide_eq_false (by omega)
  have hz1 : (f.extract 0 4).size ≤ 4 := by simp; omega
  have hz2 : (f.extract 8 (8 + n)).size ≤ 65536 := by simp; omega
  have HX : Hid (CrcP.sum (f.extract 0 4 ++ f.extract 8 (8 + n)).data.toList = X) := Lib.hid (by rw [ByteArray.data_append, Array.toList_append, ← hX]; congr 2; simp)
  have HZ := Lib.hid (show (f.extract 0 4 ++ f.extract 8 (8 + n)).size ≤ 9223372036854775807 by rw [ByteArray.size_append]; omega)
  clear hR1 hR2 hX
  go_enter Try.func15, Try.ntmps15
  cases B with
  | true =>
    go_wp2_with (first
      | (go_at_call 23; refine (rget_any _ _ _ hsz.out _).mono ?_; rintro e w1 ⟨he, rfl⟩; (first | rw [h1.out] at he | rw [h2.out] at he); subst he)
      | (go_at_call 21; refine (rsum_any _ _ HZ.out).mono ?_; rintro e w2 ⟨he, rfl⟩; obtain rfl := he.trans (congrArg (fun x => Ending.returned (.int .u32 (u x))) HX.out)))
    exact bodyPost_ret (v := .tuple #[.agg #[.string ⟨#[]⟩, .int .i64 0], .int .i64 12]) (by simp [results, Try.results15, go_sem]) rfl ⟨rfl, below_alloc _ _⟩
  | false =>
    go_wp2_with (first
      | (go_at_call 23; refine (rget_any _ _ _ hsz.out _).mono ?_; rintro e w1 ⟨he, rfl⟩; (first | rw [h1.out] at he | rw [h2.out] at he); subst he)
      | (go_at_call 21; refine (rsum_any _ _ HZ.out).mono ?_; rintro e w2 ⟨he, rfl⟩; obtain rfl := he.trans (congrArg (fun x => Ending.returned (.int .u32 (u x))) HX.out)))
    exact bodyPost_ret (v := .tuple #[.agg #[.string (f.extract 8 (8 + n)), .int .i64 ((8 + n : Nat) : Int)], .int .i64 0]) (by simp [results, Try.results15, go_sem]) rfl ⟨rfl, below_alloc _ _⟩
theorem rnext_any (f : ByteArray) (hs : f.size ≤ 9223372036854775807) (w : World) :
    Calls Try.prog 15 #[.string f] w fun e w' => e = .returned (rnextV f.data.toList) ∧ Below w.heap.size w w' := by
  have hlen : f.data.toList.length = f.size := by simp
  by_cases h8 : f.size < 8
  · have hR : nextR f.data.toList = ([], 0, 10) := by rw [nextR, if_pos (by omega)]
    rw [rnextV, hR]; exact rnext_short f h8 w
  · have hR1 := getR_in f 0 4 (by omega) (by omega)
    have hR2 := getR_in f 4 4 (by omega) (by omega)
    rw [List.drop_zero] at hR1
    have hn := get4_lt f.data.toList
    have hm := get4_lt (f.data.toList.drop 4)
    generalize hnn : ShiftP.getN (f.data.toList.take 4) = n at *
    generalize hmm : ShiftP.getN ((f.data.toList.drop 4).take 4) = m at *
    by_cases h1 : 65536 < n
    · have hR : nextR f.data.toList = ([], 0, 2) := by rw [nextR, if_neg (by omega), hnn, if_pos h1]
      rw [rnextV, hR]; exact rnext_off f hs n 2 (by omega) hR1 hn (.inl ⟨h1, rfl⟩) w
    · by_cases h2 : f.size - 8 < n
      · have hR : nextR f.data.toList = ([], 0, 10) := by rw [nextR, if_neg (by omega), hnn, if_neg h1, if_pos (by omega)]
        rw [rnextV, hR]; exact rnext_off f hs n 10 (by omega) hR1 hn (.inr ⟨by omega, h2, rfl⟩) w
      · have hx : (f.extract 8 (8 + n)).data.toList = (f.data.toList.drop 8).take n := by
          rw [ByteArray.data_extract, Array.toList_extract, List.extract_eq_take_drop]; congr 1; omega
        have hxs : f.extract 8 (8 + n) = ⟨((f.data.toList.drop 8).take n).toArray⟩ := by
          apply ByteArray.ext; apply Array.toList_inj.1; rw [hx]
        have hX : CrcP.sum (f.data.toList.take 4 ++ (f.extract 8 (8 + n)).data.toList) = CrcP.sum (f.data.toList.take 4 ++ (f.data.toList.drop 8).take n) := by rw [hx]
        refine (rnext_sum f hs n m (by omega) hR1 hR2 (by omega) hm _ hX _ rfl w).mono fun e w' ⟨he, hw⟩ => ⟨he.trans ?_, hw⟩
        by_cases hq : (CrcP.sum (f.data.toList.take 4 ++ (f.data.toList.drop 8).take n)).toNat = m
        · have hR : nextR f.data.toList = ((f.data.toList.drop 8).take n, 8 + n, 0) := by rw [nextR, if_neg (by omega), hnn, if_neg h1, if_neg (by omega), hmm, if_pos hq]
          have hb : ((m : Int) != u (CrcP.sum (f.data.toList.take 4 ++ (f.data.toList.drop 8).take n))) = false := by rw [bne_eq_false_iff_eq]; unfold u; rw [hq]
          rw [hb, rnextV, hR, hxs]; rfl
        · have hR : nextR f.data.toList = ([], 0, 12) := by rw [nextR, if_neg (by omega), hnn, if_neg h1, if_neg (by omega), hmm, if_neg hq]
          have hb : ((m : Int) != u (CrcP.sum (f.data.toList.take 4 ++ (f.data.toList.drop 8).take n))) = true := by rw [bne_iff_ne]; unfold u; omega
          rw [hb, rnextV, hR]; rfl
set_option maxHeartbeats 400000 in
theorem ropen_any (f : ByteArray) (hs : f.size ≤ 9223372036854775807) (w : World) :
    Calls Try.prog 14 #[.string f] w fun e w' => e = .returned (.tuple #[.string ⟨(openR f.data.toList).1.toArray⟩, .int .i64 ((openR f.data.toList).2 : Nat)]) ∧ Below w.heap.size w w' := by
  have hlen : f.data.toList.length = f.size := by simp
  have hle := nextR_le f.data.toList
  obtain ⟨s, n, e, hR⟩ : ∃ s n e, nextR f.data.toList = (s, n, e) := ⟨_, _, _, rfl⟩
  have HN : Hid (rnextV f.data.toList = .tuple #[.agg #[.string ⟨s.toArray⟩, .int .i64 (n : Nat)], .int .i64 (e : Nat)]) := Lib.hid (by rw [rnextV, hR])
  have HS := Lib.hid hs
  rw [hR, hlen] at hle
  have hle' : n ≤ f.size := hle
  by_cases h0 : e = 0
  · by_cases h1 : n < f.size
    · have HO : Hid (openR f.data.toList = ([], 11)) := Lib.hid (by rw [openR, hR, if_neg (by simp [h0]), if_pos (by rw [hlen]; exact h1)])
      have hb : ((n : Int) != (f.size : Int)) = true := by rw [bne_iff_ne]; omega
      subst h0
      clear hR hlen hs hle
      go_enter Try.func14, Try.ntmps14
      go_wp2_with (go_at_call 15; refine (rnext_any f HS.out _).mono ?_; rintro e w1 ⟨he, hb1⟩; rw [HN.out] at he; subst he; have HB1 := Lib.hid hb1; clear hb1)
      go_ret2
      exact ⟨by rw [HO.out]; rfl, bstep HB1.out (below_alloc _ _)⟩
    · have HO : Hid (openR f.data.toList = (s, 0)) := Lib.hid (by rw [openR, hR, if_neg (by simp [h0]), if_neg (by rw [hlen]; exact h1)])
      have hb : ((n : Int) != (f.size : Int)) = false := by rw [bne_eq_false_iff_eq]; omega
      subst h0
      clear hR hlen hs hle
      go_enter Try.func14, Try.ntmps14
      go_wp2_with (go_at_call 15; refine (rnext_any f HS.out _).mono ?_; rintro e w1 ⟨he, hb1⟩; rw [HN.out] at he; subst he; have HB1 := Lib.hid hb1; clear hb1)
      go_ret2
      exact ⟨by rw [HO.out]; rfl, bstep HB1.out (below_alloc _ _)⟩
  · have HO : Hid (openR f.data.toList = ([], e)) := Lib.hid (by rw [openR, hR, if_pos (by simpa using h0)])
    have hb : ((e : Int) != 0) = true := by rw [bne_iff_ne]; omega
    clear hR hlen hs h0 hle
    go_enter Try.func14, Try.ntmps14
    go_wp2_with (go_at_call 15; refine (rnext_any f HS.out _).mono ?_; rintro e w1 ⟨he, hb1⟩; rw [HN.out] at he; subst he; have HB1 := Lib.hid hb1; clear hb1)
    go_ret2
    exact ⟨by rw [HO.out]; rfl, bstep HB1.out (below_alloc _ _)⟩
end Go.Proofs.Ytlmbllboemgcpaa.FrameW
