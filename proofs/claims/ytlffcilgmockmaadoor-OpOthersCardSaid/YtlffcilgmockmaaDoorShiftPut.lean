/- The walks of shift.Put and shift.Get. -/
import Derived.Test.YtlffcilgmockmaaDoorBase
import Derived.Test.YtlffcilgmockmaaDoorBytes
import Derived.Test.YtlffcilgmockmaaDoorShiftPlain
namespace Go.Proofs.YtlffcilgmockmaaDoor.ShiftW
open Go.RowKit
set_option maxRecDepth 100000

/-- the bytes of a number, as Put answers them -/
def putS (v : Nat) (size : Int) : ByteArray := if 0 ≤ size ∧ size ≤ 8 then ⟨(ShiftP.putN v size.toNat).toArray⟩ else ⟨#[]⟩
def putB (v n j : Nat) : UInt8 := UInt8.ofNat (v / 2 ^ (8 * (n - 1 - j)))
theorem putB_eq (v n k : Nat) : ((v : Int) / 2 ^ (8 * (n - 1 - k))) % 256 = ((putB v n k).toNat : Int) := by
  unfold putB
  rw [UInt8.toNat_ofNat', Int.natCast_emod, Int.natCast_ediv, Int.natCast_pow]; rfl
def putF (v n k j : Nat) : UInt8 := if j < k then putB v n j else 0
theorem putF_set (v n k : Nat) : (fun j => if j = k then putB v n k else putF v n k j) = putF v n (k + 1) := by
  funext j
  unfold putF
  by_cases h : j = k
  · subst h; simp
  · by_cases h2 : j < k
    · rw [if_neg h, if_pos h2, if_pos (by omega)]
    · rw [if_neg h, if_neg h2, if_neg (by omega)]
theorem putF_zero (v n j : Nat) : 0 = putF v n 0 j := by simp [putF]
theorem putF_all (v n : Nat) : bytesStr n (putF v n n) = putS v n ∨ 8 < n := by
  by_cases h : 8 < n
  · exact .inr h
  · refine .inl ?_
    rw [putS, if_pos ⟨by omega, by omega⟩, bytesStr, Int.toNat_natCast, ShiftP.putN]
    congr 2
    apply List.map_congr_left
    intro i hi
    simp [putF, putB, List.mem_range.1 hi]

set_option maxHeartbeats 400000 in
theorem put_in (v n : Nat) (hv : v < 2 ^ 64) (hn : n ≤ 8) (w : World) :
    Calls Tryd.prog 68 #[.int .u64 v, .int .i64 n] w fun e w' => e = .returned (.string (putS v n)) ∧ Below w.heap.size w w' := by
  obtain ⟨w1, hmk, hrow, hbel, hsz⟩ := make_bytes (P := Tryd.prog) w 69 5 Tryd.underlying69 (by kernel_rfl) n (by omega)
  have HROW := Lib.hid hrow
  have HBEL := Lib.hid hbel
  have HV := Lib.hid hv
  clear hrow hbel hv
  go_enter Tryd.func68, Tryd.ntmps68
  go_wp2_with fail
  go_loopw [17] (fun i wr => ∃ k : Nat, k ≤ n ∧ i = .int .i64 k ∧ BytesAt wr w.heap.size n (putF v n k) ∧ Below w.heap.size w wr) (fun i _ => n - (intOf i).toNat)
  case atStart => exact ⟨0, by omega, rfl, HROW.out.congr (fun j _ => putF_zero v n j), HBEL.out⟩
  case round =>
    obtain ⟨k, hk, rfl, hr, hb⟩ := hrel
    have HR := Lib.hid hr
    have HB := Lib.hid hb
    by_cases hlt : k < n
    · have hc1 := (hr k hlt).1
      have hf1 := (hr k hlt).2
      clear hr hb
      have hx := putB_eq v n k
      have HX := Lib.hid (putF_set v n k)
      go_wp2
      go_roundw
      case rel => exact ⟨k + 1, by omega, by go_num, by rw [← HX.out]; exact HR.out.set k hlt _, HB.out.setCell (Nat.le_refl _) _⟩
      case measure => simp [intOf]; omega
    · have hkn : k = n := by omega
      rw [hkn] at hr
      have hcv := conv_of_bytes (P := Tryd.prog) wr 69 9 5 w.heap.size n n _ Tryd.underlying69 Tryd.underlying5 Tryd.underlying9 hr
      have HF := Lib.hid (putF_all v n)
      clear hkn hr hb
      go_wp2
      go_ret
      refine ⟨?_, HB.out⟩
      rcases HF.out with h | h
      · rw [h]; rfl
      · omega

set_option maxHeartbeats 400000 in
theorem put_any (v : Nat) (hv : v < 2 ^ 64) (size : Int) (w : World) :
    Calls Tryd.prog 68 #[.int .u64 v, .int .i64 size] w fun e w' => e = .returned (.string (putS v size)) ∧ Below w.heap.size w w' := by
  by_cases h : 0 ≤ size ∧ size ≤ 8
  · obtain ⟨n, rfl⟩ := Int.eq_ofNat_of_zero_le h.1
    exact put_in v n hv (by omega) w
  · have HP := Lib.hid (show putS v size = ⟨#[]⟩ by rw [putS, if_neg h])
    clear hv
    rcases (by omega : size < 0 ∨ 8 < size) with h | h
    · go_enter Tryd.func68, Tryd.ntmps68
      go_wp2
      go_ret
      exact ⟨by rw [HP.out]; rfl, below_refl w⟩
    · have h0 : 0 ≤ size := by omega
      go_enter Tryd.func68, Tryd.ntmps68
      go_wp2
      go_ret
      exact ⟨by rw [HP.out]; rfl, below_refl w⟩

/-- the number that stands at a place -/
def getOK (s : ByteArray) (at_ size : Int) : Prop := 0 ≤ size ∧ size ≤ 8 ∧ 0 ≤ at_ ∧ at_ ≤ s.size ∧ size ≤ s.size - at_
instance (s : ByteArray) (at_ size : Int) : Decidable (getOK s at_ size) := by unfold getOK; infer_instance
def getV (s : ByteArray) (at_ n : Nat) : Nat := ShiftP.getN ((s.data.toList.drop at_).take n)

theorem getV_zero (s : ByteArray) (at_ : Nat) : getV s at_ 0 = 0 := by simp [getV, ShiftP.getN]
theorem getV_succ (s : ByteArray) (at_ k : Nat) (h : at_ + k < s.size) : getV s at_ (k + 1) = getV s at_ k * 256 + s[at_ + k].toNat := by
  unfold getV
  have h1 : k < (s.data.toList.drop at_).length := by simp; omega
  rw [List.take_succ_eq_append_getElem h1, ShiftP.getN_snoc]
  simp; rfl
theorem getV_lt (s : ByteArray) (at_ k : Nat) : getV s at_ k < 256 ^ k := by
  have h := ShiftP.getN_lt ((s.data.toList.drop at_).take k)
  exact Nat.lt_of_lt_of_le h (Nat.pow_le_pow_right (by omega) (by simp; omega))
theorem getV_lt7 (s : ByteArray) (at_ k : Nat) (h : k < 8) : getV s at_ k < 72057594037927936 :=
  Nat.lt_of_lt_of_le (getV_lt s at_ k) (show 256 ^ k ≤ 256 ^ 7 from Nat.pow_le_pow_right (by omega) (by omega))
theorem get_or (v c : Nat) (hv : v < 72057594037927936) (hc : c < 256) : bits BinOp.or IntKind.u64 (IntKind.u64.wrap ((v : Int) * 256)) (IntKind.u64.wrap (c : Int)) = ((v * 256 + c : Nat) : Int) := by
  rw [IntKind.wrap_u64, IntKind.wrap_u64, Int.emod_eq_of_lt (by omega) (by omega), Int.emod_eq_of_lt (by omega) (by omega), show (v : Int) * 256 = ((v * 256 : Nat) : Int) by simp,
    u64_or_nat _ _ (by omega) (by omega), nat_join 8 _ _ (by omega) (by omega)]
theorem get_add (v c : Nat) (hv : v < 72057594037927936) (hc : c < 256) : IntKind.u64.wrap (IntKind.u64.wrap ((v : Int) * 256) + IntKind.u64.wrap (c : Int)) = ((v * 256 + c : Nat) : Int) := by
  rw [IntKind.wrap_u64, IntKind.wrap_u64, IntKind.wrap_u64, Int.emod_eq_of_lt (a := (v : Int) * 256) (by omega) (by omega), Int.emod_eq_of_lt (a := (c : Int)) (by omega) (by omega), Int.emod_eq_of_lt (by omega) (by omega)]
  simp

set_option maxHeartbeats 400000 in
theorem get_in (s : ByteArray) (at_ n : Nat) (hs : s.size ≤ 9223372036854775807) (h1 : n ≤ 8) (h2 : at_ ≤ s.size) (h3 : n ≤ s.size - at_) (w : World) :
    Calls Tryd.prog 64 #[.string s, .int .i64 at_, .int .i64 n] w fun e w' => e = .returned (.tuple #[.int .u64 (getV s at_ n), .bool true]) ∧ w = w' := by
  have d1 : decide ((n : Int) < 0) = false := by simp
  have d2 : decide (8 < (n : Int)) = false := by simp; omega
  have d3 : decide ((at_ : Int) < 0) = false := by simp
  have d4 : decide ((s.size : Int) < (at_ : Int)) = false := by simp; omega
  have d4' : decide (s.size < at_) = false := by simp; omega
  have d5 : decide ((s.size : Int) - (at_ : Int) < (n : Int)) = false := by simp; omega
  go_enter Tryd.func64, Tryd.ntmps64
  go_wp2_with fail
  clear d1 d2 d3 d4 d4' d5
  go_loop [8, 35] (fun v i => ∃ k : Nat, k ≤ n ∧ i = .int .i64 k ∧ v = .int .u64 (getV s at_ k : Nat)) (fun _ i => n - (intOf i).toNat)
  case atStart => exact ⟨0, by omega, rfl, by rw [getV_zero]; rfl⟩
  case round =>
    obtain ⟨k, hk, rfl, rfl⟩ := hrel
    by_cases hlt : k < n
    · have hx : at_ + k < s.size := by omega
      have hs1 := getV_succ s at_ k hx
      have ho := get_or (getV s at_ k) s[at_ + k].toNat (getV_lt7 s at_ k (by omega)) (UInt8.toNat_lt _)
      rw [← hs1] at ho
      clear hs1
      go_wp2
      go_round
      case rel => exact ⟨k + 1, by omega, by go_num, rfl⟩
      case measure => simp [intOf]; omega
    · have hkn : k = n := by omega
      have HK := Lib.hid hkn
      clear hkn
      go_wp2
      go_ret2
      exact ⟨by rw [HK.out]; rfl, rfl⟩

set_option maxHeartbeats 400000 in
theorem rget_in (s : ByteArray) (at_ n : Nat) (hs : s.size ≤ 9223372036854775807) (h1 : n ≤ 8) (h2 : at_ ≤ s.size) (h3 : n ≤ s.size - at_) (w : World) :
    Calls Tryd.prog 66 #[.string s, .int .i64 at_, .int .i64 n] w fun e w' => e = .returned (.tuple #[.int .u64 (getV s at_ n), .bool true]) ∧ w = w' := by
  have d1 : decide ((n : Int) < 0) = false := by simp
  have d2 : decide (8 < (n : Int)) = false := by simp; omega
  have d3 : decide ((at_ : Int) < 0) = false := by simp
  have d4 : decide ((s.size : Int) < (at_ : Int)) = false := by simp; omega
  have d4' : decide (s.size < at_) = false := by simp; omega
  have d5 : decide ((s.size : Int) - (at_ : Int) < (n : Int)) = false := by simp; omega
  go_enter Tryd.func66, Tryd.ntmps66
  go_wp2_with fail
  clear d1 d2 d3 d4 d4' d5
  go_loop [8, 9] (fun v i => ∃ k : Nat, k ≤ n ∧ i = .int .i64 k ∧ v = .int .u64 (getV s at_ k : Nat)) (fun _ i => n - (intOf i).toNat)
  case atStart => exact ⟨0, by omega, rfl, by rw [getV_zero]; rfl⟩
  case round =>
    obtain ⟨k, hk, rfl, rfl⟩ := hrel
    by_cases hlt : k < n
    · have hx : at_ + k < s.size := by omega
      have hs1 := getV_succ s at_ k hx
      have ho := get_add (getV s at_ k) s[at_ + k].toNat (getV_lt7 s at_ k (by omega)) (UInt8.toNat_lt _)
      rw [← hs1] at ho
      clear hs1
      go_wp2
      go_round
      case rel => exact ⟨k + 1, by omega, by go_num, rfl⟩
      case measure => simp [intOf]; omega
    · have hkn : k = n := by omega
      have HK := Lib.hid hkn
      clear hkn
      go_wp2
      go_ret2
      exact ⟨by rw [HK.out]; rfl, rfl⟩

def getR (s : ByteArray) (at_ size : Int) : Value := if getOK s at_ size then .tuple #[.int .u64 (getV s at_.toNat size.toNat : Nat), .bool true] else .tuple #[.int .u64 0, .bool false]

set_option maxHeartbeats 400000 in
theorem get_any (s : ByteArray) (at_ size : Int) (hs : s.size ≤ 9223372036854775807) (w : World) :
    Calls Tryd.prog 64 #[.string s, .int .i64 at_, .int .i64 size] w fun e w' => e = .returned (getR s at_ size) ∧ w = w' := by
  by_cases h : getOK s at_ size
  · have HR := Lib.hid (show getR s at_ size = .tuple #[.int .u64 (getV s at_.toNat size.toNat : Nat), .bool true] by rw [getR, if_pos h])
    obtain ⟨a, b, c, d, e⟩ := h
    obtain ⟨n, rfl⟩ := Int.eq_ofNat_of_zero_le a
    obtain ⟨m, rfl⟩ := Int.eq_ofNat_of_zero_le c
    refine (get_in s m n hs (by omega) (by omega) (by omega) w).mono ?_
    rintro e w' ⟨rfl, rfl⟩
    exact ⟨by rw [HR.out]; rfl, rfl⟩
  · have HR := Lib.hid (show getR s at_ size = .tuple #[.int .u64 0, .bool false] by rw [getR, if_neg h])
    unfold getOK at h
    rcases (by omega : size < 0 ∨ (0 ≤ size ∧ 8 < size) ∨ ((0 ≤ size ∧ size ≤ 8) ∧ at_ < 0) ∨ ((0 ≤ size ∧ size ≤ 8) ∧ 0 ≤ at_ ∧ s.size < at_) ∨ ((0 ≤ size ∧ size ≤ 8) ∧ 0 ≤ at_ ∧ at_ ≤ s.size ∧ s.size - at_ < size)) with h1 | ⟨h1, h2⟩ | ⟨⟨h1, h2⟩, h3⟩ | ⟨⟨h1, h2⟩, h3, h4⟩ | ⟨⟨h1, h2⟩, h3, h4, h5⟩
    all_goals
      clear h
      go_enter Tryd.func64, Tryd.ntmps64
      go_wp2
      go_ret2
      exact ⟨by rw [HR.out]; rfl, rfl⟩

set_option maxHeartbeats 400000 in
theorem rget_any (s : ByteArray) (at_ size : Int) (hs : s.size ≤ 9223372036854775807) (w : World) :
    Calls Tryd.prog 66 #[.string s, .int .i64 at_, .int .i64 size] w fun e w' => e = .returned (getR s at_ size) ∧ w = w' := by
  by_cases h : getOK s at_ size
  · have HR := Lib.hid (show getR s at_ size = .tuple #[.int .u64 (getV s at_.toNat size.toNat : Nat), .bool true] by rw [getR, if_pos h])
    obtain ⟨a, b, c, d, e⟩ := h
    obtain ⟨n, rfl⟩ := Int.eq_ofNat_of_zero_le a
    obtain ⟨m, rfl⟩ := Int.eq_ofNat_of_zero_le c
    refine (rget_in s m n hs (by omega) (by omega) (by omega) w).mono ?_
    rintro e w' ⟨rfl, rfl⟩
    exact ⟨by rw [HR.out]; rfl, rfl⟩
  · have HR := Lib.hid (show getR s at_ size = .tuple #[.int .u64 0, .bool false] by rw [getR, if_neg h])
    unfold getOK at h
    rcases (by omega : size < 0 ∨ (0 ≤ size ∧ 8 < size) ∨ ((0 ≤ size ∧ size ≤ 8) ∧ at_ < 0) ∨ ((0 ≤ size ∧ size ≤ 8) ∧ 0 ≤ at_ ∧ s.size < at_) ∨ ((0 ≤ size ∧ size ≤ 8) ∧ 0 ≤ at_ ∧ at_ ≤ s.size ∧ s.size - at_ < size)) with h1 | ⟨h1, h2⟩ | ⟨⟨h1, h2⟩, h3⟩ | ⟨⟨h1, h2⟩, h3, h4⟩ | ⟨⟨h1, h2⟩, h3, h4, h5⟩
    all_goals
      clear h
      go_enter Tryd.func66, Tryd.ntmps66
      go_wp2
      go_ret2
      exact ⟨by rw [HR.out]; rfl, rfl⟩
end Go.Proofs.YtlffcilgmockmaaDoor.ShiftW
