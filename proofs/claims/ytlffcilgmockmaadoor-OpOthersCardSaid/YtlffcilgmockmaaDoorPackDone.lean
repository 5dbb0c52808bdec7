/- New, Num, Text and Done: contracts over the bytes that were packed. -/
import Derived.Test.YtlffcilgmockmaaDoorPackNum
namespace Go.Proofs.YtlffcilgmockmaaDoor.PackW
open Go.RowKit
set_option maxRecDepth 100000
def numL (l : List UInt8) (v n : Int) : List UInt8 := if May v n then l ++ ShiftP.putN v.toNat n.toNat else l
def numB (sp : Bool) (v n : Int) : Bool := if May v n then sp else true
def textL (l : List UInt8) (s : List UInt8) : List UInt8 := if s.length < 65536 then l ++ ShiftP.putN s.length 2 ++ s else l ++ s
def textB (sp : Bool) (s : List UInt8) : Bool := if s.length < 65536 then sp else true
/-- what Done answers -/
def doneS (l : List UInt8) (sp : Bool) : ByteArray := if sp = false ∧ l.length ≤ 65536 then ⟨l.toArray⟩ else ⟨#[]⟩
def doneE (l : List UInt8) (sp : Bool) : Int := if sp = true then 11 else if l.length ≤ 65536 then 0 else 2

set_option maxHeartbeats 400000 in
theorem num_any (B b : Nat) (l : List UInt8) (sp : Bool) (v n : Int) (hv : v < 9223372036854775808) (w : World) (hp : PkAt B b l sp w) (hlen : l.length + 8 ≤ 140737488355328) (hBw : B ≤ w.heap.size) :
    Calls Tryd.prog 21 #[.pointer (some ⟨b, 0, none⟩), .int .i64 v, .int .i64 n] w fun e w' => e = .returned (.tuple #[]) ∧ PkAt B b (numL l v n) (numB sp v n) w' ∧ Fr B b w w' := by
  have key : Calls Tryd.prog 43 #[.pointer (some ⟨b, 0, none⟩), .int .i64 v, .int .i64 n] w fun e w' => e = .returned (.tuple #[]) ∧ PkAt B b (numL l v n) (numB sp v n) w' ∧ Fr B b w w' := by
    by_cases h : May v n
    · rw [numL, numB, if_pos h, if_pos h]
      obtain ⟨hs, h0, h1⟩ := h
      obtain ⟨x, rfl⟩ := Int.eq_ofNat_of_zero_le h0
      obtain ⟨m, rfl⟩ := Int.eq_ofNat_of_zero_le (show 0 ≤ n by unfold Sized at hs; omega)
      have h2 : x < 2 ^ (8 * m) := by
        have e : ((2 : Int) ^ (8 * m)) = ((2 ^ (8 * m) : Nat) : Int) := by rw [Int.natCast_pow]; rfl
        rw [Int.toNat_natCast, e] at h1; omega
      exact putl_yes B b l sp x m hs h2 (by omega) w hp hlen hBw
    · rw [numL, numB, if_neg h, if_neg h]
      exact putl_no B b l sp v n h hv w hp
  have KEY := Lib.hid key
  clear key hv hp
  go_enter Tryd.func21, Tryd.ntmps21
  go_wp2_with (go_at_call 43; refine KEY.out.mono ?_; rintro e w1 ⟨rfl, hp1, hb1⟩)
  go_end0
  exact ⟨rfl, hp1, hb1⟩
set_option maxHeartbeats 400000 in
theorem text_any (B b : Nat) (l : List UInt8) (sp : Bool) (s : ByteArray) (w : World) (hp : PkAt B b l sp w) (hlen : l.length + s.size + 8 ≤ 140737488355328) (hBw : B ≤ w.heap.size) :
    Calls Tryd.prog 44 #[.pointer (some ⟨b, 0, none⟩), .string s] w fun e w' => e = .returned (.tuple #[]) ∧ PkAt B b (textL l s.data.toList) (textB sp s.data.toList) w' ∧ Fr B b w w' := by
  obtain ⟨l1, sp1, e1, e2, e3, key⟩ : ∃ l1 sp1, l1 ++ s.data.toList = textL l s.data.toList ∧ sp1 = textB sp s.data.toList ∧ l1.length ≤ l.length + 2 ∧
      Calls Tryd.prog 69 #[.pointer (some ⟨b, 0, none⟩), .int .i64 s.size, .int .i64 2] w fun e w' => e = .returned (.tuple #[]) ∧ PkAt B b l1 sp1 w' ∧ Fr B b w w' := by
    have hsz : s.data.toList.length = s.size := by simp
    by_cases h : s.size < 65536
    · refine ⟨l ++ ShiftP.putN s.size 2, sp, by rw [textL, hsz, if_pos h], by rw [textB, hsz, if_pos h], by simp [ShiftP.putN_length], ?_⟩
      exact puti_yes B b l sp s.size 2 (.inr (.inl rfl)) (by omega) (by omega) w hp (by omega) hBw
    · refine ⟨l, true, by rw [textL, hsz, if_neg h], by rw [textB, hsz, if_neg h], by omega, ?_⟩
      exact puti_no B b l sp s.size 2 (fun hm => h (by have := hm.2.2; simp at this; omega)) (by omega) w hp
  have KEY := Lib.hid key
  have E1 := Lib.hid e1
  have hB := hp.base
  subst e2
  clear key e1 hp
  go_enter Tryd.func44, Tryd.ntmps44
  go_wp2_with (first
    | (go_at_call 69; refine KEY.out.mono ?_; rintro e w1 ⟨rfl, hp1, hb1⟩)
    | (go_at_call 67; refine (write_any B b l1 _ s _ (by assumption) (by omega) (Nat.le_trans hBw hb1.size)).mono ?_; rintro e w2 ⟨rfl, hp2, hb2⟩))
  go_end0
  exact ⟨rfl, by rw [← E1.out]; exact hp2, hb1.trans hb2⟩
set_option maxHeartbeats 400000 in
theorem done_any (B b : Nat) (l : List UInt8) (sp : Bool) (w : World) (hp : PkAt B b l sp w) (hBw : B ≤ w.heap.size) :
    Calls Tryd.prog 23 #[.pointer (some ⟨b, 0, none⟩)] w fun e w' => e = .returned (.tuple #[.string (doneS l sp), .int .i64 (doneE l sp)]) ∧ Fr B b w w' := by
  have HP := Lib.hid hp
  have hc := hp.cell2
  clear hp
  cases sp with
  | true =>
    have H1 := Lib.hid (show doneS l true = ⟨#[]⟩ by simp [doneS])
    have H2 := Lib.hid (show doneE l true = 11 by simp [doneE])
    go_enter Tryd.func23, Tryd.ntmps23
    go_wp2
    go_ret2
    exact ⟨by rw [H1.out, H2.out]; rfl, Fr.refl _ _ _⟩
  | false =>
    by_cases hl : l.length ≤ 65536
    · have H1 := Lib.hid (show doneS l false = ⟨l.toArray⟩ by simp [doneS, hl])
      have H2 := Lib.hid (show doneE l false = 0 by simp [doneE, hl])
      go_enter Tryd.func23, Tryd.ntmps23
      go_wp2_with (first
        | (go_at_call 45; refine (len_any B b l _ _ HP.out).mono ?_; rintro e w1 ⟨rfl, rfl⟩)
        | (go_at_call 46; refine (string_any B b l _ _ HP.out hBw).mono ?_; rintro e w1 ⟨rfl, hb1⟩))
      go_ret2
      exact ⟨by rw [H1.out, H2.out]; rfl, hb1⟩
    · have H1 := Lib.hid (show doneS l false = ⟨#[]⟩ by simp [doneS, hl])
      have H2 := Lib.hid (show doneE l false = 2 by simp [doneE, hl])
      go_enter Tryd.func23, Tryd.ntmps23
      go_wp2_with (first
        | (go_at_call 45; refine (len_any B b l _ _ HP.out).mono ?_; rintro e w1 ⟨rfl, rfl⟩))
      go_ret2
      exact ⟨by rw [H1.out, H2.out]; rfl, Fr.refl _ _ _⟩
set_option maxHeartbeats 400000 in
theorem new_any (w : World) : Calls Tryd.prog 20 #[] w fun e w' => e = .returned (.pointer (some ⟨w.heap.size, 0, none⟩)) ∧ PkAt w.heap.size w.heap.size [] false w' ∧ Below w.heap.size w w' ∧ w'.heap.size = w.heap.size + 1 := by
  go_enter Tryd.func20, Tryd.ntmps20
  go_wp2
  go_ret
  refine ⟨rfl, ⟨Nat.le_refl _, _, _, .inl rfl, heap_alloc_new _ _, ⟨rfl, .inl ⟨rfl, rfl⟩⟩, by simp [Value.ownBlock]⟩, below_alloc w _, by simp⟩
end Go.Proofs.YtlffcilgmockmaaDoor.PackW
