/- The reference's Unpacker. -/
import Derived.Test.YtonckbnmamlilaaPackUText
import Derived.IntWalk
namespace Go.Proofs.Ytonckbnmamlilaa.PackW
open Go.RowKit
open ShiftW (getOK getV getR rget_any)
/-- the reference's Unpacker in block b -/
def VAt (b : Nat) (s : ByteArray) (k : Nat) (bad : Bool) (w : World) : Prop := w.heap[b]? = some (.cells #[.string s, .int .i64 (k : Int), .bool bad] 72 (0, 0))
theorem VAt.cell0 {b : Nat} {s : ByteArray} {k : Nat} {bad : Bool} {w : World} (h : VAt b s k bad w) : w.cell? ⟨b, 0, none⟩ = some (.string s) := by rw [Lib.cell_of_heap h]; rfl
theorem VAt.cell1 {b : Nat} {s : ByteArray} {k : Nat} {bad : Bool} {w : World} (h : VAt b s k bad w) : w.cell? ⟨b, 1, none⟩ = some (.int .i64 (k : Int)) := by rw [Lib.cell_of_heap h]; rfl
theorem VAt.cell2 {b : Nat} {s : ByteArray} {k : Nat} {bad : Bool} {w : World} (h : VAt b s k bad w) : w.cell? ⟨b, 2, none⟩ = some (.bool bad) := by rw [Lib.cell_of_heap h]; rfl
theorem VAt.free {b : Nat} {s : ByteArray} {k : Nat} {bad : Bool} {w : World} (h : VAt b s k bad w) (i : Nat) : w.frozen? ⟨b, i, none⟩ = false := Lib.frozen_of_heap h i
theorem VAt.lt {b : Nat} {s : ByteArray} {k : Nat} {bad : Bool} {w : World} (h : VAt b s k bad w) : b < w.heap.size := lt_of_block h
theorem VAt.drewN {b : Nat} {s : ByteArray} {k : Nat} {bad : Bool} {w : World} (h : VAt b s k bad w) (n : Nat) : VAt b s k bad (w.drewN n) := h
theorem VAt.keep {b : Nat} {s : ByteArray} {k : Nat} {bad : Bool} {w w' : World} (h : VAt b s k bad w) (q : Below w.heap.size w w') : VAt b s k bad w' := (q.block b h.lt).trans h
theorem VAt.set1 {b : Nat} {s : ByteArray} {k : Nat} {bad : Bool} {w : World} (h : VAt b s k bad w) (j : Nat) : VAt b s j bad (w.setCell ⟨b, 1, none⟩ (.int .i64 (j : Int))) := by
  unfold VAt; rw [heap_setCell_same w b 1 _ _ _ h]; rfl
theorem VAt.set2 {b : Nat} {s : ByteArray} {k : Nat} {bad : Bool} {w : World} (h : VAt b s k bad w) : VAt b s k true (w.setCell ⟨b, 2, none⟩ (.bool true)) := by
  unfold VAt; rw [heap_setCell_same w b 2 _ _ _ h]; rfl
set_option maxHeartbeats 400000 in
theorem ropen_any (s : ByteArray) (w : World) : Calls Try.prog 18 #[.string s] w fun e w' => e = .returned (.pointer (some ⟨w.heap.size, 0, none⟩)) ∧ VAt w.heap.size s 0 false w' ∧ Below w.heap.size w w' ∧ w'.heap.size = w.heap.size + 1 := by
  go_enter Try.func18, Try.ntmps18
  go_wp2
  go_ret
  exact ⟨rfl, heap_alloc_new _ _, below_alloc w _, by simp⟩
theorem VAt.cells {b : Nat} {s : ByteArray} {k : Nat} {bad : Bool} {w : World} (h : VAt b s k bad w) (n : Nat) : (w.drewN n).cell? ⟨b, 0, none⟩ = some (.string s) ∧ (w.drewN n).cell? ⟨b, 1, none⟩ = some (.int .i64 (k : Int)) ∧ (w.drewN n).cell? ⟨b, 2, none⟩ = some (.bool bad) :=
  ⟨(h.drewN n).cell0, (h.drewN n).cell1, (h.drewN n).cell2⟩
set_option maxHeartbeats 400000 in
theorem vnum_no (b : Nat) (s : ByteArray) (k : Nat) (bad : Bool) (n : Int) (v : Nat) (ok : Bool) (hs : s.size ≤ 140737488355328) (hR : getR s k n = .tuple #[.int .u64 (v : Int), .bool ok])
    (h : bad = true ∨ bad = false ∧ ¬ Sized n ∨ bad = false ∧ Sized n ∧ ok = false ∨ bad = false ∧ Sized n ∧ ok = true ∧ 9223372036854775808 ≤ v) (w : World) (hp : VAt b s k bad w) :
    Calls Try.prog 22 #[.pointer (some ⟨b, 0, none⟩), .int .i64 n] w fun e w' => e = .returned (.int .i64 0) ∧ VAt b s k true w' ∧ Only b w w' ∧ w'.heap.size = w.heap.size := by
  have HP := Lib.hid hp
  have HR := Lib.hid hR
  have HS := Lib.hid hs
  have hc0 := hp.cell0
  have hc1 := hp.cell1
  have hc2 := hp.cell2
  have hf := hp.free 2
  clear hp hR hs
  rcases h with rfl | ⟨rfl, h⟩ | ⟨rfl, h, rfl⟩ | ⟨rfl, h, rfl, hv⟩
  · go_enter Try.func22, Try.ntmps22
    go_wp2
    go_quiet ((go_at_call 37; exact quiet_left ((rget_any s (k : Int) n (by have := HS.out; omega) _).mono (fun e w' he => ⟨he.1.trans (congrArg Ending.returned HR.out), he.2⟩))))
    go_wp2
    refine bodyPost_ret (v := .int .i64 0) (by simp [results, Try.results22, go_sem]) rfl ?_
    exact ⟨rfl, (HP.out.drewN _).set2, ((Only.refl b w).drewN _).setCell 2 _, by simp⟩
  · have H := Lib.hid h
    clear h
    go_enter Try.func22, Try.ntmps22
    go_wp2
    go_quiet ((go_at_call 37; exact quiet_left ((rget_any s (k : Int) n (by have := HS.out; omega) _).mono (fun e w' he => ⟨he.1.trans (congrArg Ending.returned HR.out), he.2⟩))))
    go_wp2_with (go_at_call 32; refine (size_no _ H.out _).mono ?_; rintro e w1 ⟨rfl, rfl⟩)
    refine bodyPost_ret (v := .int .i64 0) (by simp [results, Try.results22, go_sem]) rfl ?_
    exact ⟨rfl, (HP.out.drewN _).set2, ((Only.refl b w).drewN _).setCell 2 _, by simp⟩
  · have H := Lib.hid h
    clear h
    go_enter Try.func22, Try.ntmps22
    go_wp2
    go_quiet ((go_at_call 37; exact quiet_left ((rget_any s (k : Int) n (by have := HS.out; omega) _).mono (fun e w' he => ⟨he.1.trans (congrArg Ending.returned HR.out), he.2⟩))))
    go_wp2_with (go_at_call 32; refine (size_yes _ H.out _).mono ?_; rintro e w1 ⟨rfl, rfl⟩)
    refine bodyPost_ret (v := .int .i64 0) (by simp [results, Try.results22, go_sem]) rfl ?_
    exact ⟨rfl, (HP.out.drewN _).set2, ((Only.refl b w).drewN _).setCell 2 _, by simp⟩
  · have H := Lib.hid h
    have HV := Lib.hid (show decide ((9223372036854775808 : Int) ≤ (v : Int)) = true from decide_eq_true (by omega))
    clear h hv
    go_enter Try.func22, Try.ntmps22
    go_wp2
    go_quiet ((go_at_call 37; exact quiet_left ((rget_any s (k : Int) n (by have := HS.out; omega) _).mono (fun e w' he => ⟨he.1.trans (congrArg Ending.returned HR.out), he.2⟩))))
    have hd := HV.out
    go_wp2_with (go_at_call 32; refine (size_yes _ H.out _).mono ?_; rintro e w1 ⟨rfl, rfl⟩)
    refine bodyPost_ret (v := .int .i64 0) (by simp [results, Try.results22, go_sem]) rfl ?_
    exact ⟨rfl, (HP.out.drewN _).set2, ((Only.refl b w).drewN _).setCell 2 _, by simp⟩
set_option maxHeartbeats 400000 in
theorem vnum_yes (b : Nat) (s : ByteArray) (k n : Nat) (v : Nat) (hs : s.size ≤ 140737488355328) (hk : k ≤ s.size) (hR : getR s k n = .tuple #[.int .u64 (v : Int), .bool true])
    (h : Sized n) (hv : v < 9223372036854775808) (w : World) (hp : VAt b s k false w) :
    Calls Try.prog 22 #[.pointer (some ⟨b, 0, none⟩), .int .i64 n] w fun e w' => e = .returned (.int .i64 v) ∧ VAt b s (k + n) false w' ∧ Only b w w' ∧ w'.heap.size = w.heap.size := by
  have HP := Lib.hid hp
  have HR := Lib.hid hR
  have HS := Lib.hid hs
  have hc0 := hp.cell0
  have hc1 := hp.cell1
  have hc2 := hp.cell2
  have hf := hp.free 1
  have hkk : (k : Int) ≤ 140737488355328 := by omega
  have hn8 : (n : Int) ≤ 8 := by unfold Sized at h; omega
  have H := Lib.hid h
  have HV := Lib.hid (show decide ((9223372036854775808 : Int) ≤ (v : Int)) = false from decide_eq_false (by omega))
  have HW := Lib.hid (show IntKind.i64.wrap (v : Int) = (v : Int) from IntWalk.i64_in _ (by omega))
  clear hp hR hs hk h hv
  go_enter Try.func22, Try.ntmps22
  go_wp2
  go_quiet ((go_at_call 37; exact quiet_left ((rget_any s (k : Int) n (by have := HS.out; omega) _).mono (fun e w' he => ⟨he.1.trans (congrArg Ending.returned HR.out), he.2⟩))))
  have hd := HV.out
  have hw := HW.out
  go_wp2_with (go_at_call 32; refine (size_yes _ H.out _).mono ?_; rintro e w1 ⟨rfl, rfl⟩)
  refine bodyPost_ret (v := .int .i64 v) (by simp [results, Try.results22, go_sem]) rfl ?_
  exact ⟨rfl, by rw [← Int.natCast_add]; exact (HP.out.drewN _).set1 (k + n), ((Only.refl b w).drewN _).setCell 1 _, by simp⟩
theorem getR_in (s : ByteArray) (k : Nat) (n : Nat) (h : k + n ≤ s.size) (hn : n ≤ 8) : getR s k n = .tuple #[.int .u64 (ShiftP.getN ((s.data.toList.drop k).take n) : Nat), .bool true] := by
  rw [getR, if_pos ⟨by omega, by omega, by omega, by omega, by omega⟩, getV]; rfl
theorem getR_out (s : ByteArray) (k : Nat) (n : Int) (h : ¬ (0 ≤ n ∧ n ≤ 8 ∧ (k : Int) + n ≤ s.size)) : getR s k n = .tuple #[.int .u64 ((0 : Nat) : Int), .bool false] := by
  rw [getR, if_neg (by unfold getOK; omega)]; rfl
/-- the reference's Unpacker in block b: what is left is l, where it is not bad -/
def VIs (b : Nat) (l : List UInt8) (bad : Bool) (w : World) : Prop := ∃ (s : ByteArray) (k : Nat), VAt b s k bad w ∧ s.size ≤ 140737488355328 ∧ k ≤ s.size ∧ (bad = false → s.data.toList.drop k = l)
theorem VIs.keep {b : Nat} {l : List UInt8} {sp : Bool} {w w' : World} (h : VIs b l sp w) (q : Below w.heap.size w w') : VIs b l sp w' := by
  obtain ⟨s, k, h1, h2⟩ := h
  exact ⟨s, k, h1.keep q, h2⟩
theorem VIs.lt {b : Nat} {l : List UInt8} {sp : Bool} {w : World} (h : VIs b l sp w) : b < w.heap.size := by
  obtain ⟨s, k, h1, h2⟩ := h
  exact h1.lt
theorem vnum_any (b : Nat) (l : List UInt8) (bad : Bool) (n : Int) (w : World) (hp : VIs b l bad w) :
    Calls Try.prog 22 #[.pointer (some ⟨b, 0, none⟩), .int .i64 n] w fun e w' => e = .returned (.int .i64 (numA l bad n)) ∧ VIs b (l.drop n.toNat) (numG l bad n) w' ∧ Only b w w' ∧ w'.heap.size = w.heap.size := by
  obtain ⟨s, k, hu, hsz, hk, hl⟩ := hp
  have hlen : s.data.toList.length = s.size := by simp
  have fin : ∀ v ok, getR s k n = .tuple #[.int .u64 ((v : Nat) : Int), .bool ok] → (bad = true ∨ bad = false ∧ ¬ Sized n ∨ bad = false ∧ Sized n ∧ ok = false ∨ bad = false ∧ Sized n ∧ ok = true ∧ 9223372036854775808 ≤ v) → unumV l bad n = none →
      Calls Try.prog 22 #[.pointer (some ⟨b, 0, none⟩), .int .i64 n] w fun e w' => e = .returned (.int .i64 (numA l bad n)) ∧ VIs b (l.drop n.toNat) (numG l bad n) w' ∧ Only b w w' ∧ w'.heap.size = w.heap.size := by
    intro v ok h1 h2 h3
    refine (vnum_no b s k bad n v ok hsz h1 h2 w hu).mono ?_
    rintro e w' ⟨rfl, h4, h5, h6⟩
    exact ⟨by rw [numA, h3], ⟨s, k, by rw [numG, h3]; exact h4, hsz, hk, by rw [numG, h3]; intro h; cases h⟩, h5, h6⟩
  by_cases hin : 0 ≤ n ∧ n ≤ 8 ∧ (k : Int) + n ≤ s.size
  · obtain ⟨m, rfl⟩ := Int.eq_ofNat_of_zero_le hin.1
    have hR := getR_in s k m (by omega) (by omega)
    cases bad with
    | true => exact fin _ _ hR (.inl rfl) (by rw [unumV, if_neg]; rintro ⟨h, _⟩; cases h)
    | false =>
      obtain rfl := hl rfl
      by_cases hs : Sized m
      · by_cases hv : ShiftP.getN ((s.data.toList.drop k).take m) < 9223372036854775808
        · have hsome : unumV (s.data.toList.drop k) false m = some (ShiftP.getN ((s.data.toList.drop k).take m)) := by
            rw [unumV, if_pos ⟨rfl, hs, by rw [Int.toNat_natCast, List.length_drop]; omega, by rw [Int.toNat_natCast]; exact hv⟩, Int.toNat_natCast]
          refine (vnum_yes b s k m _ hsz hk hR hs hv w hu).mono ?_
          rintro e w' ⟨rfl, h4, h5, h6⟩
          exact ⟨by rw [numA, hsome], ⟨s, k + m, by rw [numG, hsome]; exact h4, hsz, by omega, fun _ => by rw [Int.toNat_natCast, List.drop_drop]⟩, h5, h6⟩
        · exact fin _ _ hR (.inr (.inr (.inr ⟨rfl, hs, rfl, by omega⟩))) (by rw [unumV, if_neg]; rintro ⟨_, _, _, h⟩; rw [Int.toNat_natCast] at h; exact hv h)
      · exact fin _ _ hR (.inr (.inl ⟨rfl, hs⟩)) (by rw [unumV, if_neg]; rintro ⟨_, h, _⟩; exact hs h)
  · have hR := getR_out s k n hin
    cases bad with
    | true => exact fin _ _ hR (.inl rfl) (by rw [unumV, if_neg]; rintro ⟨h, _⟩; cases h)
    | false =>
      obtain rfl := hl rfl
      by_cases hs : Sized n
      · refine fin _ _ hR (.inr (.inr (.inl ⟨rfl, hs, rfl⟩))) ?_
        rw [unumV, if_neg]
        rintro ⟨_, _, h, _⟩
        rw [List.length_drop] at h
        unfold Sized at hs
        omega
      · exact fin _ _ hR (.inr (.inl ⟨rfl, hs⟩)) (by rw [unumV, if_neg]; rintro ⟨_, h, _⟩; exact hs h)
end Go.Proofs.Ytonckbnmamlilaa.PackW
