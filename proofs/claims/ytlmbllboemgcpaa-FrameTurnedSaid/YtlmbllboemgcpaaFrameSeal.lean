/- frame.Seal, of the program and of the reference. -/
import Derived.Test.YtlmbllboemgcpaaShelf
import Derived.Test.YtlmbllboemgcpaaOpen
import Derived.Test.YtlmbllboemgcpaaShiftRPut
import Derived.Test.YtlmbllboemgcpaaCrcSum
import Derived.IntWalk
namespace Go.Proofs.Ytlmbllboemgcpaa.FrameW
open Go.RowKit
open ShiftW (putS put_any rput_any getR get_any rget_any)
open CrcW (u sum_any more_any)
set_option maxHeartbeats 400000 in
theorem joined3 (g : Nat) (x y z : ByteArray) (w : World) (hx : w.cell? ⟨g, 0, none⟩ = some (.string x)) (hy : w.cell? ⟨g, 1, none⟩ = some (.string y)) (hz : w.cell? ⟨g, 2, none⟩ = some (.string z)) (hl : x.size + y.size + z.size ≤ 140737488355328) :
    Calls Try.prog 19 #[.slice (some ⟨g, 0, none⟩) 3 3] w fun e w' => e = .returned (.string ⟨(x.data.toList ++ (y.data.toList ++ z.data.toList)).toArray⟩) ∧ Below w.heap.size w w' := by
  have hj : Lib.join (([x, y, z] : List ByteArray).map (·.data.toList)) (⟨#[]⟩ : ByteArray).data.toList = x.data.toList ++ (y.data.toList ++ z.data.toList) := by
    simp [Lib.join, List.intercalate, List.intersperse]
  have key := Try.strings_Join g 0 3 [x, y, z] ⟨#[]⟩ w (by
    intro j s hs
    match j, hs with
    | 0, hs => simp at hs; subst hs; exact hx
    | 1, hs => simp at hs; subst hs; exact hy
    | 2, hs => simp at hs; subst hs; exact hz
    | j + 3, hs => simp at hs) (World.block_lt_of_cell? _ _ hx) (by simp) (by simp) (by rw [hj]; simp; omega)
  rw [hj] at key
  have KEY := Lib.hid key
  clear key hj hx hy hz
  go_enter Try.func19, Try.ntmps19
  go_wp2_with (go_at_call 25; refine KEY.out.mono ?_; rintro e w1 ⟨rfl, hb⟩)
  go_ret
  exact ⟨rfl, hb⟩
set_option maxHeartbeats 400000 in
theorem seal_long (s : ByteArray) (h : 65536 < s.size) (w : World) :
    Calls Try.prog 9 #[.string s] w fun e w' => e = .returned (.tuple #[.string ⟨#[]⟩, .int .i64 2]) ∧ Below w.heap.size w w' := by
  have d : decide (65536 < (s.size : Int)) = true := decide_eq_true (by omega)
  clear h
  go_enter Try.func9, Try.ntmps9
  go_wp2
  go_ret2
  exact ⟨rfl, Below.refl _ _⟩
/-- a text's frame -/
def sealL (s : List UInt8) : List UInt8 := ShiftP.putN s.length 4 ++ (ShiftP.putN (CrcP.sum (ShiftP.putN s.length 4 ++ s)).toNat 4 ++ s)
theorem putS4 (v : Nat) : (putS v 4).data.toList = ShiftP.putN v 4 ∧ (putS v 4).size = 4 := by
  have h : putS v 4 = ⟨(ShiftP.putN v 4).toArray⟩ := by rw [putS, if_pos ⟨by omega, by omega⟩]; rfl
  rw [h]
  exact ⟨rfl, by simp [ByteArray.size, ShiftP.putN_length]⟩
set_option maxHeartbeats 800000 in
theorem seal_fits (s : ByteArray) (h : s.size ≤ 65536) (w : World) :
    Calls Try.prog 9 #[.string s] w fun e w' => e = .returned (.tuple #[.string ⟨(sealL s.data.toList).toArray⟩, .int .i64 0]) ∧ Below w.heap.size w w' := by
  have d : decide (65536 < (s.size : Int)) = false := decide_eq_false (by omega)
  have hu : IntKind.u64.wrap (s.size : Int) = (s.size : Int) := by rw [IntKind.wrap_u64]; omega
  have HV := Lib.hid (show s.size < 2 ^ 64 by omega)
  have hn := putS4 s.size
  generalize hN : putS s.size 4 = N at *
  have HN := Lib.hid hN
  have HX := Lib.hid (show CrcP.more (CrcP.sum N.data.toList) s.data.toList = CrcP.sum (ShiftP.putN s.size 4 ++ s.data.toList) by rw [hn.1, CrcP.sum, CrcP.sum, CrcP.more_append])
  generalize hx : CrcP.sum (ShiftP.putN s.size 4 ++ s.data.toList) = X at *
  obtain ⟨m, hm, hmlt⟩ : ∃ m : Nat, u X = (m : Int) ∧ m < 4294967296 := ⟨X.toNat, rfl, X.isLt⟩
  have hmX : m = X.toNat := by unfold u at hm; omega
  have hu2 : IntKind.u64.wrap (m : Int) = (m : Int) := by rw [IntKind.wrap_u64]; omega
  have HM := Lib.hid hm
  have HMV := Lib.hid (show m < 2 ^ 64 by omega)
  have hp := putS4 m
  have HR : Hid (N.data.toList ++ ((putS m 4).data.toList ++ s.data.toList) = sealL s.data.toList) := Lib.hid (by
    rw [hn.1, hp.1, sealL, hmX, ← hx]; simp)
  have hsz : Hid (N.size + (putS m 4).size + s.size ≤ 140737488355328) := Lib.hid (by rw [hn.2, hp.2]; omega)
  have hN9 : Hid (N.size ≤ 9223372036854775807) := Lib.hid (by rw [hn.2]; omega)
  generalize hP : putS m 4 = Q at *
  have HP := Lib.hid hP
  have HS := Lib.hid h
  clear hN hn hx hm hmX hp hP h
  go_enter Try.func9, Try.ntmps9
  go_wp2_with fail
  refine (put_any _ HV.out _ _).mono ?_; rintro e w1 ⟨rfl, hb1⟩
  rw [HN.out]
  go_wp2_with (first
    | (go_at_call 18; refine (sum_any _ _ hN9.out).mono ?_; rintro e w2 ⟨rfl, rfl⟩)
    | (go_at_call 17; refine (more_any _ _ _ (by have := HS.out; omega)).mono ?_; rintro e w3 ⟨rfl, rfl⟩; rw [HX.out, HM.out]))
  refine (put_any _ HMV.out _ _).mono ?_; rintro e w4 ⟨rfl, hb4⟩
  rw [HP.out]
  go_wp2_with fail
  have hb : (w4.alloc (Obj.cells #[Value.string N, Value.string Q, Value.string s] 9)).heap[w4.heap.size]? = some (.cells #[.string N, .string Q, .string s] 9 (0, 0)) := heap_alloc_new w4 _
  refine (joined3 w4.heap.size N Q s _ (by rw [Lib.cell_of_heap hb]; rfl) (by rw [Lib.cell_of_heap hb]; rfl) (by rw [Lib.cell_of_heap hb]; rfl) hsz.out).mono ?_
  rintro e w5 ⟨rfl, hb5⟩
  rw [HR.out]
  clear hb
  go_wp2
  go_ret2
  exact ⟨rfl, bstep (bstep (bstep hb1 hb4) (below_alloc w4 _)) hb5⟩
theorem seal_any (s : ByteArray) (w : World) :
    Calls Try.prog 9 #[.string s] w fun e w' => e = .returned (.tuple #[.string (if s.size ≤ 65536 then ⟨(sealL s.data.toList).toArray⟩ else ⟨#[]⟩), .int .i64 (if s.size ≤ 65536 then 0 else 2)]) ∧ Below w.heap.size w w' := by
  by_cases h : s.size ≤ 65536
  · rw [if_pos h, if_pos h]; exact seal_fits s h w
  · rw [if_neg h, if_neg h]; exact seal_long s (by omega) w
end Go.Proofs.Ytlmbllboemgcpaa.FrameW
