/- The laws of frame: FrameBack, FrameCuts. -/
import Derived.Test.YtlmbllboemgcpaaFrameLaw
import Derived.Test.YtlmbllboemgcpaaFramePlain
namespace Go.Proofs.Ytlmbllboemgcpaa.FrameW
open Go.RowKit
theorem open_is (f : ByteArray) (hs : f.size ≤ 9223372036854775807) (s : List UInt8) (e0 : Nat) (hR : openR f.data.toList = (s, e0)) (w : World) :
    Calls Try.prog 13 #[.string f] w fun e w' => e = .returned (.tuple #[.string ⟨s.toArray⟩, .int .i64 (e0 : Nat)]) ∧ w = w' := by
  have := open_any f hs w
  rw [hR] at this; exact this
set_option maxHeartbeats 800000 in
theorem cuts_walk (s : ByteArray) (hs : s.size ≤ maxLen) (at_ : Int) (_ : (Lit.int .i64 at_).wf = true) (w : World) :
    Calls Try.prog 4 #[.string s, .int .i64 at_] w fun e w' => e = .returned (.bool true) ∧ Below w.heap.size w w' := by
  unfold maxLen at hs
  by_cases h : 20000 < s.size
  · go_enter Try.func4, Try.ntmps4
    go_wp2_with (go_at_call 8; refine (wakes_any _).mono ?_; rintro e w1 ⟨rfl, hb1⟩)
    go_ret
    exact ⟨rfl, hb1⟩
  · have hlen : s.data.toList.length = s.size := by simp
    have hsl := sealL_len s.data.toList
    generalize hF : (⟨(sealL s.data.toList).toArray⟩ : ByteArray) = F
    have hfz : F.size = 8 + s.size := by rw [← hF]; show (sealL s.data.toList).toArray.size = _; rw [List.size_toArray, hsl, hlen]
    obtain ⟨k, hk, hk2⟩ : ∃ k : Nat, k < F.size ∧ at_ % (F.size : Int) = k := by
      have h1 := Int.emod_nonneg at_ (b := (F.size : Int)) (by omega)
      have h2 := Int.emod_lt_of_pos at_ (b := (F.size : Int)) (by omega)
      exact ⟨(at_ % (F.size : Int)).toNat, by omega, by omega⟩
    have HK := Lib.hid hk2
    have HF := Lib.hid hF
    have hx : (F.extract 0 k).data.toList = (sealL s.data.toList).take k := by rw [← hF]; simp
    have HN : Hid (nextV (F.extract 0 k).data.toList = .tuple #[.string ⟨#[]⟩, .int .i64 0, .int .i64 10]) := Lib.hid (by
      rw [hx, nextV, next_cut _ (by omega) k (by omega)]; rfl)
    have HZ := Lib.hid (show (F.extract 0 k).size ≤ 9223372036854775807 by simp; omega)
    have HS := Lib.hid (show s.size ≤ 65536 by omega)
    have hf1 : (1 : Int) ≤ F.size := by omega
    have hf2 : (F.size : Int) ≤ 20008 := by omega
    obtain ⟨hne, hne2⟩ := some_bytes (s := F) (by omega)
    clear hF hk2 hx hfz hsl hlen hs
    go_enter Try.func4, Try.ntmps4
    go_wp2_with (first
      | (go_at_call 9; refine (seal_fits _ HS.out _).mono ?_; rintro e w1 ⟨he, hb1⟩; rw [HF.out] at he; subst he; have HB1 := Lib.hid hb1; clear hb1)
      | (go_at_call 12; refine (mod_any _ _ _ (by omega) (by omega)).mono ?_; rintro e w' ⟨rfl, rfl⟩; rw [HK.out])
      | (go_at_call 11; refine (next_is _ HZ.out _ _ _ HN.out _).mono ?_; rintro e w2 ⟨rfl, rfl⟩)
      | (go_at_call 8; refine (wakes_any _).mono ?_; rintro e w5 ⟨rfl, hb5⟩))
    go_ret
    exact ⟨rfl, bstep HB1.out hb5⟩
set_option maxHeartbeats 800000 in
theorem back_walk (s : ByteArray) (hs : s.size ≤ maxLen) (r : ByteArray) (hr : r.size ≤ maxLen) (w : World) :
    Calls Try.prog 6 #[.string s, .string r] w fun e w' => e = .returned (.bool true) ∧ Below w.heap.size w w' := by
  unfold maxLen at hs hr
  by_cases h : 65536 < s.size ∨ 1000 < r.size
  · by_cases h1 : 65536 < s.size
    · clear h
      go_enter Try.func6, Try.ntmps6
      go_wp2_with (go_at_call 8; refine (wakes_any _).mono ?_; rintro e w1 ⟨rfl, hb1⟩)
      go_ret
      exact ⟨rfl, hb1⟩
    · have h2 : 1000 < r.size := by omega
      clear h
      go_enter Try.func6, Try.ntmps6
      go_wp2_with (go_at_call 8; refine (wakes_any _).mono ?_; rintro e w1 ⟨rfl, hb1⟩)
      go_ret
      exact ⟨rfl, hb1⟩
  · have hlen : s.data.toList.length = s.size := by simp
    have hrl : r.data.toList.length = r.size := by simp
    have hsl := sealL_len s.data.toList
    have h1 : s.size ≤ 65536 := by omega
    have h2 : r.size ≤ 1000 := by omega
    generalize hF : (⟨(sealL s.data.toList).toArray⟩ : ByteArray) = F
    have hFd : F.data.toList = sealL s.data.toList := by rw [← hF]
    have hfz : F.size = 8 + s.size := by rw [← hF]; show (sealL s.data.toList).toArray.size = _; rw [List.size_toArray, hsl, hlen]
    have HF := Lib.hid hF
    have hap : (F ++ r).data.toList = sealL s.data.toList ++ r.data.toList := by rw [ByteArray.data_append, Array.toList_append, hFd]
    have HN : Hid (nextV (F ++ r).data.toList = .tuple #[.string s, .int .i64 ((8 + s.size : Nat) : Int), .int .i64 0]) := Lib.hid (by
      rw [hap, nextV, next_seal _ _ (by omega), hlen]; rfl)
    have HO1 : Hid (openR F.data.toList = (s.data.toList, 0)) := Lib.hid (by
      have := open_seal s.data.toList [] (by omega)
      rw [List.append_nil, if_pos rfl] at this
      rw [hFd, this])
    have HZ1 := Lib.hid (show F.size ≤ 9223372036854775807 by omega)
    have HZ2 := Lib.hid (show (F ++ r).size ≤ 9223372036854775807 by rw [ByteArray.size_append]; omega)
    have HS := Lib.hid h1
    have hb1 : ((8 + s.size : Nat) : Int) = (F.size : Int) := by omega
    have HB := Lib.hid hb1
    have hf2 : (F.size : Int) ≤ 65544 := by omega
    have hr2 : (r.size : Int) ≤ 1000 := by omega
    by_cases hz : r.size = 0
    · have HO2 : Hid (openR (F ++ r).data.toList = (s.data.toList, 0)) := Lib.hid (by
        rw [hap, open_seal _ _ (by omega), if_pos (List.eq_nil_of_length_eq_zero (by omega))])
      obtain ⟨hne, hne1, hne2⟩ := no_bytes hz
      clear hF hFd hfz hsl hlen hs hap hb1 h hz hrl
      go_enter Try.func6, Try.ntmps6
      go_wp2_with (first
        | (go_at_call 9; refine (seal_fits _ HS.out _).mono ?_; rintro e w1 ⟨he, hb1⟩; rw [HF.out] at he; subst he; have HB1 := Lib.hid hb1; clear hb1)
        | (go_at_call_of 13 (Value.string F); refine (open_is F HZ1.out _ _ HO1.out _).mono ?_; rintro e w2 ⟨he, rfl⟩; obtain rfl : e = .returned (.tuple #[.string s, .int .i64 0]) := he)
        | (go_at_call 13; refine (open_is _ HZ2.out _ _ HO2.out _).mono ?_; rintro e w2 ⟨he, rfl⟩; obtain rfl : e = .returned (.tuple #[.string s, .int .i64 0]) := he)
        | (go_at_call 11; refine (next_is _ HZ2.out _ _ _ HN.out _).mono ?_; rintro e w2 ⟨he, rfl⟩; rw [HB.out] at he; subst he)
        | (go_at_call 8; refine (wakes_any _).mono ?_; rintro e w5 ⟨rfl, hb5⟩))
      go_ret
      exact ⟨rfl, bstep HB1.out hb5⟩
    · have HO2 : Hid (openR (F ++ r).data.toList = ([], 11)) := Lib.hid (by
        rw [hap, open_seal _ _ (by omega), if_neg (fun e => hz (by rw [e] at hrl; simpa using hrl.symm))])
      obtain ⟨hne, hne2⟩ := some_bytes (s := r) (by omega)
      clear hF hFd hfz hsl hlen hs hap hb1 h hz hrl
      go_enter Try.func6, Try.ntmps6
      go_wp2_with (first
        | (go_at_call 9; refine (seal_fits _ HS.out _).mono ?_; rintro e w1 ⟨he, hb1⟩; rw [HF.out] at he; subst he; have HB1 := Lib.hid hb1; clear hb1)
        | (go_at_call_of 13 (Value.string F); refine (open_is F HZ1.out _ _ HO1.out _).mono ?_; rintro e w2 ⟨he, rfl⟩; obtain rfl : e = .returned (.tuple #[.string s, .int .i64 0]) := he)
        | (go_at_call 13; refine (open_is _ HZ2.out _ _ HO2.out _).mono ?_; rintro e w2 ⟨he, rfl⟩; obtain rfl : e = .returned (.tuple #[.string ⟨#[]⟩, .int .i64 11]) := he)
        | (go_at_call 11; refine (next_is _ HZ2.out _ _ _ HN.out _).mono ?_; rintro e w2 ⟨he, rfl⟩; rw [HB.out] at he; subst he)
        | (go_at_call 8; refine (wakes_any _).mono ?_; rintro e w5 ⟨rfl, hb5⟩))
      go_ret
      exact ⟨rfl, bstep HB1.out hb5⟩
end Go.Proofs.Ytlmbllboemgcpaa.FrameW
