/- The walks of the Packer's methods. -/
import Derived.Test.YtlffcilgmockmaaDoorPackStr
import Derived.Test.YtlffcilgmockmaaDoorShiftPut
namespace Go.Proofs.YtlffcilgmockmaaDoor.PackW
open Go.RowKit
set_option maxRecDepth 100000
open ShiftW (putS put_any)
def Sized (n : Int) : Prop := n = 1 ∨ n = 2 ∨ n = 4 ∨ n = 8
instance (n : Int) : Decidable (Sized n) := by unfold Sized; infer_instance
set_option maxHeartbeats 400000 in
theorem sized_yes (n : Int) (h : Sized n) (w : World) : Calls Tryd.prog 61 #[.int .i64 n] w fun e w' => e = .returned (.bool true) ∧ w = w' := by
  rcases h with rfl | rfl | rfl | rfl
  all_goals
    go_enter Tryd.func61, Tryd.ntmps61
    go_wp2
    go_ret
    exact ⟨rfl, rfl⟩
set_option maxHeartbeats 400000 in
theorem sized_no (n : Int) (h : ¬ Sized n) (w : World) : Calls Tryd.prog 61 #[.int .i64 n] w fun e w' => e = .returned (.bool false) ∧ w = w' := by
  unfold Sized at h
  have h1 : (n == 1) = false := by rw [beq_eq_false_iff_ne]; omega
  have h2 : (n == 2) = false := by rw [beq_eq_false_iff_ne]; omega
  have h3 : (n == 4) = false := by rw [beq_eq_false_iff_ne]; omega
  have h4 : (n == 8) = false := by rw [beq_eq_false_iff_ne]; omega
  clear h
  go_enter Tryd.func61, Tryd.ntmps61
  go_wp2
  go_ret
  exact ⟨rfl, rfl⟩
/-- may a number be packed in so many bytes? -/
def May (v n : Int) : Prop := Sized n ∧ 0 ≤ v ∧ v < 2 ^ (8 * n.toNat)
instance (v n : Int) : Decidable (May v n) := by unfold May; infer_instance
theorem PkAt.spoil {B b : Nat} {l : List UInt8} {sp : Bool} {w : World} (h : PkAt B b l sp w) : PkAt B b l true (w.setCell ⟨b, 2, none⟩ (.bool true)) := by
  obtain ⟨hB, p, v, hp, hbk, hown, hne⟩ := h
  refine ⟨hB, p, v, hp, ?_, ownsRow_setCell_other hown (a := ⟨b, 2, none⟩) hne _, hne⟩
  rw [heap_setCell_same w b 2 _ _ _ hbk]; rfl
theorem PkAt.cell2 {B b : Nat} {l : List UInt8} {sp : Bool} {w : World} (h : PkAt B b l sp w) : w.cell? ⟨b, 2, none⟩ = some (.bool sp) := by
  obtain ⟨hB, p, v, hp, hbk, hown, hne⟩ := h
  rw [Lib.cell_of_heap hbk]; rfl
theorem PkAt.free {B b : Nat} {l : List UInt8} {sp : Bool} {w : World} (h : PkAt B b l sp w) (i : Nat) : w.frozen? ⟨b, i, none⟩ = false := by
  obtain ⟨hB, p, v, hp, hbk, hown, hne⟩ := h
  exact Lib.frozen_of_heap hbk i
theorem PkAt.lt {B b : Nat} {l : List UInt8} {sp : Bool} {w : World} (h : PkAt B b l sp w) : b < w.heap.size := by
  obtain ⟨hB, p, v, hp, hbk, hown, hne⟩ := h
  exact lt_of_block hbk
theorem PkAt.drew {B b : Nat} {l : List UInt8} {sp : Bool} {w : World} (h : PkAt B b l sp w) : PkAt B b l sp w.drew := by
  obtain ⟨hB, p, v, hp, hbk, hown, hne⟩ := h
  exact ⟨hB, p, v, hp, hbk, hown, hne⟩
theorem PkAt.drewN {B b : Nat} {l : List UInt8} {sp : Bool} {w : World} (h : PkAt B b l sp w) (n : Nat) : PkAt B b l sp (w.drewN n) := by
  obtain ⟨hB, p, v, hp, hbk, hown, hne⟩ := h
  exact ⟨hB, p, v, hp, hbk, hown, hne⟩
/-- a Packer is kept over a call that changes nothing that was there -/
theorem PkAt.keep {B b : Nat} {l : List UInt8} {sp : Bool} {w w' : World} (h : PkAt B b l sp w) (k : Below w.heap.size w w') : PkAt B b l sp w' := by
  obtain ⟨hB, p, v, hp, hbk, hown, hne⟩ := h
  exact ⟨hB, p, v, hp, (k.block b (lt_of_block hbk)).trans hbk, hown.kept (row := none) ⟨k.os, k.tape, k.output, k.size, fun i hi _ => k.block i hi⟩ (Classical.em _), hne⟩

set_option maxHeartbeats 400000 in
theorem puti_yes (B b : Nat) (l : List UInt8) (sp : Bool) (v n : Nat) (hs : Sized n) (h1 : v < 2 ^ (8 * n)) (hv : v < 9223372036854775808) (w : World) (hp : PkAt B b l sp w) (hlen : l.length + 8 ≤ 140737488355328) (hBw : B ≤ w.heap.size) :
    Calls Tryd.prog 69 #[.pointer (some ⟨b, 0, none⟩), .int .i64 v, .int .i64 n] w fun e w' => e = .returned (.tuple #[]) ∧ PkAt B b (l ++ ShiftP.putN v n) sp w' ∧ Fr B b w w' := by
  have hu : IntKind.u64.wrap (v : Int) = (v : Int) := by rw [IntKind.wrap_u64]; omega
  have hq : ((v : Int) / 2 ^ (8 * n) != 0) = false := by
    have e : ((v : Int) / 2 ^ (8 * n)) = ((v / 2 ^ (8 * n) : Nat) : Int) := by rw [Int.natCast_ediv, Int.natCast_pow]; rfl
    rw [e, Nat.div_eq_of_lt h1]; rfl
  have hn8 : n ≤ 8 := by unfold Sized at hs; omega
  have hS : putS v n = ⟨(ShiftP.putN v n).toArray⟩ := by
    rw [putS, if_pos ⟨by omega, by omega⟩]; rfl
  have hl8 : (putS v n).size ≤ 8 := by
    rw [hS]
    simp [ByteArray.size, ShiftP.putN_length]; exact hn8
  have hd : (putS v n).data.toList = ShiftP.putN v n := by rw [hS]
  generalize hSS : putS v n = S at *
  have HS := Lib.hid hSS
  have HD := Lib.hid hd
  have HSZ := Lib.hid hs
  have HP := Lib.hid hp
  have HV := Lib.hid (show v < 2 ^ 64 by omega)
  clear hS hd hSS hp h1 hs hv
  have key : ∀ W : World, Below w.heap.size w W → Calls Tryd.prog 67 #[.pointer (some ⟨b, 0, none⟩), .string S] W fun e w' => e = .returned (.tuple #[.int .i64 S.size, .nilIface]) ∧ PkAt B b (l ++ ShiftP.putN v n) sp w' ∧ Fr B b W w' := by
    intro W hW
    have := write_any B b l sp S W (HP.out.keep hW) (by omega) (Nat.le_trans hBw hW.size)
    rwa [HD.out] at this
  have KEY := Lib.hid key
  clear key
  go_enter Tryd.func69, Tryd.ntmps69
  go_wp2_with (go_at_call 61; refine (sized_yes _ HSZ.out _).mono ?_; rintro e w1 ⟨rfl, rfl⟩)
  all_goals
    go_region_with (first
      | (go_at_call 68; refine (put_any v HV.out _ _).mono ?_; rintro e w1 ⟨rfl, hb1⟩; rw [HS.out])
      | (go_at_call 67; refine (KEY.out _ (bstep (below_refl w).drew hb1)).mono ?_; rintro e w2 ⟨rfl, hp2, hb2⟩))
  all_goals go_wp2
  all_goals go_end0
  all_goals exact ⟨rfl, hp2, ((Fr.refl B b w).drew.step hb1 hBw).trans hb2⟩

set_option maxHeartbeats 400000 in
theorem putl_yes (B b : Nat) (l : List UInt8) (sp : Bool) (v n : Nat) (hs : Sized n) (h1 : v < 2 ^ (8 * n)) (hv : v < 9223372036854775808) (w : World) (hp : PkAt B b l sp w) (hlen : l.length + 8 ≤ 140737488355328) (hBw : B ≤ w.heap.size) :
    Calls Tryd.prog 43 #[.pointer (some ⟨b, 0, none⟩), .int .i64 v, .int .i64 n] w fun e w' => e = .returned (.tuple #[]) ∧ PkAt B b (l ++ ShiftP.putN v n) sp w' ∧ Fr B b w w' := by
  have hu : IntKind.u64.wrap (v : Int) = (v : Int) := by rw [IntKind.wrap_u64]; omega
  have hq : ((v : Int) / 2 ^ (8 * n) != 0) = false := by
    have e : ((v : Int) / 2 ^ (8 * n)) = ((v / 2 ^ (8 * n) : Nat) : Int) := by rw [Int.natCast_ediv, Int.natCast_pow]; rfl
    rw [e, Nat.div_eq_of_lt h1]; rfl
  have hn8 : n ≤ 8 := by unfold Sized at hs; omega
  have hS : putS v n = ⟨(ShiftP.putN v n).toArray⟩ := by
    rw [putS, if_pos ⟨by omega, by omega⟩]; rfl
  have hl8 : (putS v n).size ≤ 8 := by
    rw [hS]
    simp [ByteArray.size, ShiftP.putN_length]; exact hn8
  have hd : (putS v n).data.toList = ShiftP.putN v n := by rw [hS]
  generalize hSS : putS v n = S at *
  have HS := Lib.hid hSS
  have HD := Lib.hid hd
  have HSZ := Lib.hid hs
  have HP := Lib.hid hp
  have HV := Lib.hid (show v < 2 ^ 64 by omega)
  clear hS hd hSS hp h1 hs hv
  have key : ∀ W : World, Below w.heap.size w W → Calls Tryd.prog 67 #[.pointer (some ⟨b, 0, none⟩), .string S] W fun e w' => e = .returned (.tuple #[.int .i64 S.size, .nilIface]) ∧ PkAt B b (l ++ ShiftP.putN v n) sp w' ∧ Fr B b W w' := by
    intro W hW
    have := write_any B b l sp S W (HP.out.keep hW) (by omega) (Nat.le_trans hBw hW.size)
    rwa [HD.out] at this
  have KEY := Lib.hid key
  clear key
  go_enter Tryd.func43, Tryd.ntmps43
  go_wp2_with (go_at_call 61; refine (sized_yes _ HSZ.out _).mono ?_; rintro e w1 ⟨rfl, rfl⟩)
  all_goals
    go_region_with (first
      | (go_at_call 68; refine (put_any v HV.out _ _).mono ?_; rintro e w1 ⟨rfl, hb1⟩; rw [HS.out])
      | (go_at_call 67; refine (KEY.out _ (bstep (below_refl w).drew hb1)).mono ?_; rintro e w2 ⟨rfl, hp2, hb2⟩))
  all_goals go_wp2
  all_goals go_end0
  all_goals exact ⟨rfl, hp2, ((Fr.refl B b w).drew.step hb1 hBw).trans hb2⟩
end Go.Proofs.YtlffcilgmockmaaDoor.PackW
