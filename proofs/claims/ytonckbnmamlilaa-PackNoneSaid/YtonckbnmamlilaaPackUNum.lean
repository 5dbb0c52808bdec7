/- The program's Unpacker: Num and Text, over what is left. -/
import Derived.Test.YtonckbnmamlilaaPackTake
namespace Go.Proofs.Ytonckbnmamlilaa.PackW
open Go.RowKit
open ShiftW (getOK getV getR get_any)
/-- the program's Unpacker in block b: what is left is l, where it is not spoilt -/
def UIs (b : Nat) (l : List UInt8) (sp : Bool) (w : World) : Prop := ∃ s : ByteArray, UAt b s sp w ∧ s.size ≤ 140737488355328 ∧ (sp = false → s.data.toList = l)
/-- the number that Num answers -/
def unumV (l : List UInt8) (sp : Bool) (n : Int) : Option Nat := if sp = false ∧ Sized n ∧ n.toNat ≤ l.length ∧ ShiftP.getN (l.take n.toNat) < 9223372036854775808 then some (ShiftP.getN (l.take n.toNat)) else none
theorem UIs.keep {b : Nat} {l : List UInt8} {sp : Bool} {w w' : World} (h : UIs b l sp w) (k : Below w.heap.size w w') : UIs b l sp w' := by
  obtain ⟨s, h1, h2⟩ := h
  exact ⟨s, h1.keep k, h2⟩
theorem UIs.lt {b : Nat} {l : List UInt8} {sp : Bool} {w : World} (h : UIs b l sp w) : b < w.heap.size := h.choose_spec.1.lt
theorem getR_all (s : ByteArray) (n : Nat) (h : s.size = n) (hn : n ≤ 8) : getR s 0 n = .tuple #[.int .u64 (ShiftP.getN s.data.toList : Nat), .bool true] := by
  have hl : s.data.toList.length = n := by simpa using h
  rw [getR, if_pos ⟨by omega, by omega, by omega, by omega, by omega⟩, getV]
  have : List.take (Int.toNat (n : Int)) (List.drop (Int.toNat 0) s.data.toList) = s.data.toList := by
    simp only [Int.toNat_natCast, Int.toNat_zero, List.drop_zero]; exact List.take_of_length_le (by omega)
  rw [this]
set_option maxHeartbeats 400000 in
theorem unum_unsized (b : Nat) (s : ByteArray) (sp : Bool) (n : Int) (h : ¬ Sized n) (w : World) (hp : UAt b s sp w) :
    Calls Try.prog 21 #[.pointer (some ⟨b, 0, none⟩), .int .i64 n] w fun e w' => e = .returned (.int .i64 0) ∧ UAt b s true w' ∧ Only b w w' ∧ w'.heap.size = w.heap.size := by
  have HP := Lib.hid hp
  have HS := Lib.hid h
  clear hp h
  go_enter Try.func21, Try.ntmps21
  go_wp2_with (first
    | (go_at_call 38; refine (sized_no _ HS.out _).mono ?_; rintro e w1 ⟨rfl, rfl⟩)
    | (go_at_call 35; refine (spoil_any b _ _ _ HP.out).mono ?_; rintro e w1 ⟨rfl, hu, hb, hz⟩))
  go_ret
  exact ⟨rfl, hu, hb, hz⟩
set_option maxHeartbeats 400000 in
theorem unum_short (b : Nat) (s : ByteArray) (sp : Bool) (n : Nat) (hs : Sized n) (h : sp = true ∨ s.size < n) (w : World) (hp : UAt b s sp w) :
    Calls Try.prog 21 #[.pointer (some ⟨b, 0, none⟩), .int .i64 n] w fun e w' => e = .returned (.int .i64 0) ∧ UAt b s true w' ∧ Only b w w' ∧ w'.heap.size = w.heap.size := by
  have HP := Lib.hid hp
  have HS := Lib.hid hs
  have H := Lib.hid h
  have HG := Lib.hid (show getR ⟨#[]⟩ 0 0 = .tuple #[.int .u64 0, .bool true] from getR_all ⟨#[]⟩ 0 rfl (by omega))
  clear hp h hs
  go_enter Try.func21, Try.ntmps21
  go_wp2_with (first
    | (go_at_call 38; refine (sized_yes _ HS.out _).mono ?_; rintro e w1 ⟨rfl, rfl⟩)
    | (go_at_call 36; refine (take_no b _ _ _ H.out _ HP.out).mono ?_; rintro e w1 ⟨rfl, hu1, hb1, hz1⟩; have HU := Lib.hid hu1; clear hu1)
    | (go_at_call 39; refine (get_any _ _ _ (by decide) _).mono ?_; rintro e w1 ⟨he, rfl⟩; obtain rfl := he.trans (congrArg Ending.returned HG.out))
    | (go_at_call 35; refine (spoil_any b _ _ _ HU.out).mono ?_; rintro e w1 ⟨rfl, hu, hb, hz⟩))
  go_ret
  exact ⟨rfl, hu, hb1.trans hb, hz.trans hz1⟩
set_option maxHeartbeats 400000 in
theorem unum_yes (b : Nat) (s : ByteArray) (n : Nat) (hs : Sized n) (h : n ≤ s.size) (hv : ShiftP.getN (s.data.toList.take n) < 9223372036854775808) (w : World) (hp : UAt b s false w) :
    Calls Try.prog 21 #[.pointer (some ⟨b, 0, none⟩), .int .i64 n] w fun e w' => e = .returned (.int .i64 (ShiftP.getN (s.data.toList.take n) : Nat)) ∧ UAt b (s.extract n s.size) false w' ∧ Only b w w' ∧ w'.heap.size = w.heap.size := by
  have HP := Lib.hid hp
  have HS := Lib.hid hs
  have H := Lib.hid h
  have hsz : (s.extract 0 n).size = n := by simp; omega
  have hd : (s.extract 0 n).data.toList = s.data.toList.take n := by simp
  have hn8 : n ≤ 8 := by unfold Sized at hs; omega
  generalize hx : s.extract 0 n = x at *
  have HX := Lib.hid hx
  rw [← hd] at hv
  rw [← hd]
  have HG := Lib.hid (show getR x 0 n = .tuple #[.int .u64 (ShiftP.getN x.data.toList : Nat), .bool true] from getR_all x n hsz hn8)
  have HZ := Lib.hid hsz
  generalize hg : ShiftP.getN x.data.toList = g at *
  have hq : ((g : Int) / 9223372036854775808 != 0) = false := by
    have : ((g : Int) / 9223372036854775808) = ((g / 9223372036854775808 : Nat) : Int) := by rw [Int.natCast_ediv]; rfl
    rw [this, Nat.div_eq_of_lt hv]; rfl
  clear hp h hs hx hsz hd hg
  go_enter Try.func21, Try.ntmps21
  go_wp2_with (first
    | (go_at_call 38; refine (sized_yes _ HS.out _).mono ?_; rintro e w1 ⟨rfl, rfl⟩)
    | (go_at_call 36; refine (take_yes b _ _ H.out _ HP.out).mono ?_; rintro e w1 ⟨he, hu, hb, hz⟩; rw [HX.out] at he; subst he)
    | (go_at_call 39; refine (get_any _ _ _ (by have := HZ.out; omega) _).mono ?_; rintro e w1 ⟨he, rfl⟩; rw [HZ.out, HG.out] at he; subst he))
  go_wp2
  go_ret
  exact ⟨rfl, hu, hb, hz⟩
set_option maxHeartbeats 400000 in
theorem unum_big (b : Nat) (s : ByteArray) (n : Nat) (hs : Sized n) (h : n ≤ s.size) (hv : ¬ ShiftP.getN (s.data.toList.take n) < 9223372036854775808) (w : World) (hp : UAt b s false w) :
    Calls Try.prog 21 #[.pointer (some ⟨b, 0, none⟩), .int .i64 n] w fun e w' => e = .returned (.int .i64 0) ∧ (∃ t : ByteArray, t.size ≤ s.size ∧ UAt b t true w') ∧ Only b w w' ∧ w'.heap.size = w.heap.size := by
  have HP := Lib.hid hp
  have HS := Lib.hid hs
  have H := Lib.hid h
  have hsz : (s.extract 0 n).size = n := by simp; omega
  have hd : (s.extract 0 n).data.toList = s.data.toList.take n := by simp
  have hn8 : n ≤ 8 := by unfold Sized at hs; omega
  have hup : ShiftP.getN (s.data.toList.take n) < 18446744073709551616 := by
    have h1 := ShiftP.getN_lt (s.data.toList.take n)
    have h2 : (s.data.toList.take n).length ≤ 8 := by simp; omega
    have h3 : 256 ^ (s.data.toList.take n).length ≤ 256 ^ 8 := Nat.pow_le_pow_right (by omega) h2
    omega
  generalize hx : s.extract 0 n = x at *
  have HX := Lib.hid hx
  rw [← hd] at hv hup
  have HG := Lib.hid (show getR x 0 n = .tuple #[.int .u64 (ShiftP.getN x.data.toList : Nat), .bool true] from getR_all x n hsz hn8)
  have HZ := Lib.hid hsz
  generalize hg : ShiftP.getN x.data.toList = g at *
  have hq : ((g : Int) / 9223372036854775808 != 0) = true := by
    have : ((g : Int) / 9223372036854775808) = ((g / 9223372036854775808 : Nat) : Int) := by rw [Int.natCast_ediv]; rfl
    rw [this, bne_iff_ne]
    have := Nat.div_pos (a := g) (b := 9223372036854775808) (by omega) (by omega)
    omega
  clear hp h hs hx hsz hd hg
  go_enter Try.func21, Try.ntmps21
  go_wp2_with (first
    | (go_at_call 38; refine (sized_yes _ HS.out _).mono ?_; rintro e w1 ⟨rfl, rfl⟩)
    | (go_at_call 36; refine (take_yes b _ _ H.out _ HP.out).mono ?_; rintro e w1 ⟨he, hu1, hb1, hz1⟩; rw [HX.out] at he; subst he; have HU := Lib.hid hu1; clear hu1)
    | (go_at_call 39; refine (get_any _ _ _ (by have := HZ.out; omega) _).mono ?_; rintro e w1 ⟨he, rfl⟩; rw [HZ.out, HG.out] at he; subst he)
    | (go_at_call 35; refine (spoil_any b _ _ _ HU.out).mono ?_; rintro e w1 ⟨rfl, hu, hb, hz⟩))
  go_wp2
  go_ret
  exact ⟨rfl, ⟨_, by simp, hu⟩, hb1.trans hb, hz.trans hz1⟩
end Go.Proofs.Ytonckbnmamlilaa.PackW
