/- Several texts in one, of what this seat needs. -/
import Derived.Test.YtlffcilgmockmaaDoorPackRText
import Derived.IntWalk
namespace Go.Proofs.YtlffcilgmockmaaDoor.PackW
open Go.RowKit
set_option maxRecDepth 100000
/-- a field of the law: its size, its number, its text -/
structure Fd where
  size : Int
  v : Int
  s : ByteArray
/-- the fields of a slice lie in the world's cells, below B -/
def FdAt (B : Nat) (oa : Option Addr) (n : Nat) (f : Nat → Fd) (w : World) : Prop :=
  ∀ i, i < n → ∃ a, oa = some a ∧ a.block < B ∧ w.cell? (a.add (i * 3)) = some (.int .i64 (f i).size) ∧ w.cell? ⟨(a.add (i * 3)).block, (a.add (i * 3)).off + 1, none⟩ = some (.int .i64 (f i).v) ∧ w.cell? ⟨(a.add (i * 3)).block, (a.add (i * 3)).off + 2, none⟩ = some (.string (f i).s)
/-- the sum of the texts' lengths -/
def sumF (f : Nat → Fd) : Nat → Nat
  | 0 => 0
  | n + 1 => sumF f n + (f n).s.size
theorem sumF_le (f : Nat → Fd) {k n : Nat} (h : k ≤ n) : sumF f k ≤ sumF f n := by
  induction n with
  | zero => obtain rfl : k = 0 := by omega
            exact Nat.le_refl _
  | succ n ih =>
    by_cases hk : k = n + 1
    · subst hk; exact Nat.le_refl _
    · have := ih (by omega)
      rw [sumF]; omega
def Fair (f : Nat → Fd) (n : Nat) : Prop := (∀ i, i < n → (f i).s.size ≤ 70000) ∧ sumF f n ≤ 300000 ∧ n ≤ 200
instance (f : Nat → Fd) (n : Nat) : Decidable (Fair f n) := by unfold Fair; infer_instance
end Go.Proofs.YtlffcilgmockmaaDoor.PackW

namespace Go.Proofs.YtlffcilgmockmaaDoor.PackW
open Go.RowKit
set_option maxRecDepth 100000
/-- the program's Unpacker in block b -/
def UAt (b : Nat) (s : ByteArray) (sp : Bool) (w : World) : Prop := w.heap[b]? = some (.cells #[.string s, .bool sp] 88 (0, 0))
theorem UAt.cell0 {b : Nat} {s : ByteArray} {bad : Bool} {w : World} (h : UAt b s bad w) : w.cell? ⟨b, 0, none⟩ = some (.string s) := by rw [Lib.cell_of_heap h]; rfl
theorem UAt.cell1 {b : Nat} {s : ByteArray} {bad : Bool} {w : World} (h : UAt b s bad w) : w.cell? ⟨b, 1, none⟩ = some (.bool bad) := by rw [Lib.cell_of_heap h]; rfl
theorem UAt.free {b : Nat} {s : ByteArray} {bad : Bool} {w : World} (h : UAt b s bad w) (i : Nat) : w.frozen? ⟨b, i, none⟩ = false := Lib.frozen_of_heap h i
theorem UAt.lt {b : Nat} {s : ByteArray} {bad : Bool} {w : World} (h : UAt b s bad w) : b < w.heap.size := lt_of_block h
theorem UAt.drew {b : Nat} {s : ByteArray} {bad : Bool} {w : World} (h : UAt b s bad w) : UAt b s bad w.drew := h
theorem UAt.keep {b : Nat} {s : ByteArray} {bad : Bool} {w w' : World} (h : UAt b s bad w) (k : Below w.heap.size w w') : UAt b s bad w' := (k.block b h.lt).trans h
theorem UAt.set0 {b : Nat} {s : ByteArray} {bad : Bool} {w : World} (h : UAt b s bad w) (t : ByteArray) : UAt b t bad (w.setCell ⟨b, 0, none⟩ (.string t)) := by
  unfold UAt; rw [heap_setCell_same w b 0 _ _ _ h]; rfl
theorem UAt.set1 {b : Nat} {s : ByteArray} {bad : Bool} {w : World} (h : UAt b s bad w) : UAt b s true (w.setCell ⟨b, 1, none⟩ (.bool true)) := by
  unfold UAt; rw [heap_setCell_same w b 1 _ _ _ h]; rfl
set_option maxHeartbeats 400000 in
theorem open_any (s : ByteArray) (w : World) : Calls Tryd.prog 34 #[.string s] w fun e w' => e = .returned (.pointer (some ⟨w.heap.size, 0, none⟩)) ∧ UAt w.heap.size s false w' ∧ Below w.heap.size w w' ∧ w'.heap.size = w.heap.size + 1 := by
  go_enter Tryd.func34, Tryd.ntmps34
  go_wp2
  go_ret
  exact ⟨rfl, heap_alloc_new _ _, below_alloc w _, by simp⟩
set_option maxHeartbeats 400000 in
theorem spoil_any (b : Nat) (s : ByteArray) (sp : Bool) (w : World) (hp : UAt b s sp w) :
    Calls Tryd.prog 62 #[.pointer (some ⟨b, 0, none⟩)] w fun e w' => e = .returned (.tuple #[]) ∧ UAt b s true w' ∧ Only b w w' ∧ w'.heap.size = w.heap.size := by
  have HP := Lib.hid hp
  have hc := hp.cell1
  have hf := hp.free 1
  clear hp
  go_enter Tryd.func62, Tryd.ntmps62
  go_wp2
  go_end0
  exact ⟨rfl, HP.out.set1, (Only.refl _ _).setCell 1 _, by simp⟩
end Go.Proofs.YtlffcilgmockmaaDoor.PackW

namespace Go.Proofs.YtlffcilgmockmaaDoor.PackW
open Go.RowKit
set_option maxRecDepth 100000
set_option maxHeartbeats 400000 in
theorem take_no (b : Nat) (s : ByteArray) (sp : Bool) (n : Nat) (h : sp = true ∨ s.size < n) (w : World) (hp : UAt b s sp w) :
    Calls Tryd.prog 63 #[.pointer (some ⟨b, 0, none⟩), .int .i64 n] w fun e w' => e = .returned (.tuple #[.string ⟨#[]⟩, .bool false]) ∧ UAt b s true w' ∧ Only b w w' ∧ w'.heap.size = w.heap.size := by
  have HP := Lib.hid hp
  have hc0 := hp.cell0
  have hc1 := hp.cell1
  clear hp
  cases sp with
  | true =>
    clear h
    go_enter Tryd.func63, Tryd.ntmps63
    go_wp2_with (go_at_call 62; refine (spoil_any b _ _ _ HP.out).mono ?_; rintro e w1 ⟨rfl, hu, hb, hz⟩)
    go_ret2
    exact ⟨rfl, hu, hb, hz⟩
  | false =>
    have hlt : decide (s.size < n) = true := decide_eq_true (by have := h.resolve_left (by decide); omega)
    clear h
    go_enter Tryd.func63, Tryd.ntmps63
    go_wp2_with (go_at_call 62; refine (spoil_any b _ _ _ HP.out).mono ?_; rintro e w1 ⟨rfl, hu, hb, hz⟩)
    go_ret2
    exact ⟨rfl, hu, hb, hz⟩
set_option maxHeartbeats 400000 in
theorem take_yes (b : Nat) (s : ByteArray) (n : Nat) (h : n ≤ s.size) (w : World) (hp : UAt b s false w) :
    Calls Tryd.prog 63 #[.pointer (some ⟨b, 0, none⟩), .int .i64 n] w fun e w' => e = .returned (.tuple #[.string (s.extract 0 n), .bool true]) ∧ UAt b (s.extract n s.size) false w' ∧ Only b w w' ∧ w'.heap.size = w.heap.size := by
  have HP := Lib.hid hp
  have hc0 := hp.cell0
  have hc1 := hp.cell1
  have hf0 := hp.free 0
  have hlt : decide (s.size < n) = false := decide_eq_false (by omega)
  clear hp
  go_enter Tryd.func63, Tryd.ntmps63
  go_wp2
  go_ret2
  exact ⟨rfl, HP.out.set0 _, (Only.refl _ _).setCell 0 _, by simp⟩
end Go.Proofs.YtlffcilgmockmaaDoor.PackW

namespace Go.Proofs.YtlffcilgmockmaaDoor.PackW
open Go.RowKit
set_option maxRecDepth 100000
open ShiftW (getOK getV getR get_any)
/-- the program's Unpacker in block b: what is left is l, where it is not spoilt -/
def UIs (b : Nat) (l : List UInt8) (sp : Bool) (w : World) : Prop := ∃ s : ByteArray, UAt b s sp w ∧ s.size ≤ 140737488355328 ∧ (sp = false → s.data.toList = l)
/-- the number that Num answers -/
def unumV (l : List UInt8) (sp : Bool) (n : Int) : Option Nat := if sp = false ∧ Sized n ∧ n.toNat ≤ l.length ∧ ShiftP.getN (l.take n.toNat) < 9223372036854775808 then some (ShiftP.getN (l.take n.toNat)) else none
theorem UIs.keep {b : Nat} {l : List UInt8} {sp : Bool} {w w' : World} (h : UIs b l sp w) (k : Below w.heap.size w w') : UIs b l sp w' := by
  obtain ⟨s, h1, h2⟩ := h
  exact ⟨s, h1.keep k, h2⟩
theorem UIs.lt {b : Nat} {l : List UInt8} {sp : Bool} {w : World} (h : UIs b l sp w) : b < w.heap.size := h.choose_spec.1.lt
theorem getR_all (s : ByteArray) (n : Nat) (h : s.size = n) (hn : n ≤ 8) : getR s 0 n = .tuple #[.int .u64 (ShiftP.getN s.data.toList : Nat), .bool true] := by
  have hl : s.data.toList.length = n := by simpa using h
  rw [getR, if_pos ⟨by omega, by omega, by omega, by omega, by omega⟩, getV]
  have : List.take (Int.toNat (n : Int)) (List.drop (Int.toNat 0) s.data.toList) = s.data.toList := by
    simp only [Int.toNat_natCast, Int.toNat_zero, List.drop_zero]; exact List.take_of_length_le (by omega)
  rw [this]
set_option maxHeartbeats 400000 in
theorem unum_unsized (b : Nat) (s : ByteArray) (sp : Bool) (n : Int) (h : ¬ Sized n) (w : World) (hp : UAt b s sp w) :
    Calls Tryd.prog 35 #[.pointer (some ⟨b, 0, none⟩), .int .i64 n] w fun e w' => e = .returned (.int .i64 0) ∧ UAt b s true w' ∧ Only b w w' ∧ w'.heap.size = w.heap.size := by
  have HP := Lib.hid hp
  have HS := Lib.hid h
  clear hp h
  go_enter Tryd.func35, Tryd.ntmps35
  go_wp2_with (first
    | (go_at_call 61; refine (sized_no _ HS.out _).mono ?_; rintro e w1 ⟨rfl, rfl⟩)
    | (go_at_call 62; refine (spoil_any b _ _ _ HP.out).mono ?_; rintro e w1 ⟨rfl, hu, hb, hz⟩))
  go_ret
  exact ⟨rfl, hu, hb, hz⟩
set_option maxHeartbeats 400000 in
theorem unum_short (b : Nat) (s : ByteArray) (sp : Bool) (n : Nat) (hs : Sized n) (h : sp = true ∨ s.size < n) (w : World) (hp : UAt b s sp w) :
    Calls Tryd.prog 35 #[.pointer (some ⟨b, 0, none⟩), .int .i64 n] w fun e w' => e = .returned (.int .i64 0) ∧ UAt b s true w' ∧ Only b w w' ∧ w'.heap.size = w.heap.size := by
  have HP := Lib.hid hp
  have HS := Lib.hid hs
  have H := Lib.hid h
  have HG := Lib.hid (show getR ⟨#[]⟩ 0 0 = .tuple #[.int .u64 0, .bool true] from getR_all ⟨#[]⟩ 0 rfl (by omega))
  clear hp h hs
  go_enter Tryd.func35, Tryd.ntmps35
  go_wp2_with (first
    | (go_at_call 61; refine (sized_yes _ HS.out _).mono ?_; rintro e w1 ⟨rfl, rfl⟩)
    | (go_at_call 63; refine (take_no b _ _ _ H.out _ HP.out).mono ?_; rintro e w1 ⟨rfl, hu1, hb1, hz1⟩; have HU := Lib.hid hu1; clear hu1)
    | (go_at_call 64; refine (get_any _ _ _ (by decide) _).mono ?_; rintro e w1 ⟨he, rfl⟩; obtain rfl := he.trans (congrArg Ending.returned HG.out))
    | (go_at_call 62; refine (spoil_any b _ _ _ HU.out).mono ?_; rintro e w1 ⟨rfl, hu, hb, hz⟩))
  go_ret
  exact ⟨rfl, hu, hb1.trans hb, hz.trans hz1⟩
set_option maxHeartbeats 400000 in
theorem unum_yes (b : Nat) (s : ByteArray) (n : Nat) (hs : Sized n) (h : n ≤ s.size) (hv : ShiftP.getN (s.data.toList.take n) < 9223372036854775808) (w : World) (hp : UAt b s false w) :
    Calls Tryd.prog 35 #[.pointer (some ⟨b, 0, none⟩), .int .i64 n] w fun e w' => e = .returned (.int .i64 (ShiftP.getN (s.data.toList.take n) : Nat)) ∧ UAt b (s.extract n s.size) false w' ∧ Only b w w' ∧ w'.heap.size = w.heap.size := by
  have HP := Lib.hid hp
  have HS := Lib.hid hs
  have H := Lib.hid h
  have hsz : (s.extract 0 n).size = n := by simp; omega
  have hd : (s.extract 0 n).data.toList = s.data.toList.take n := by simp
  have hn8 : n ≤ 8 := by unfold Sized at hs; omega
  generalize hx : s.extract 0 n = x at *
  have HX := Lib.hid hx
  rw [← hd] at hv
  rw [← hd]
  have HG := Lib.hid (show getR x 0 n = .tuple #[.int .u64 (ShiftP.getN x.data.toList : Nat), .bool true] from getR_all x n hsz hn8)
  have HZ := Lib.hid hsz
  generalize hg : ShiftP.getN x.data.toList = g at *
  have hq : ((g : Int) / 9223372036854775808 != 0) = false := by
    have : ((g : Int) / 9223372036854775808) = ((g / 9223372036854775808 : Nat) : Int) := by rw [Int.natCast_ediv]; rfl
    rw [this, Nat.div_eq_of_lt hv]; rfl
  clear hp h hs hx hsz hd hg
  go_enter Tryd.func35, Tryd.ntmps35
  go_wp2_with (first
    | (go_at_call 61; refine (sized_yes _ HS.out _).mono ?_; rintro e w1 ⟨rfl, rfl⟩)
    | (go_at_call 63; refine (take_yes b _ _ H.out _ HP.out).mono ?_; rintro e w1 ⟨he, hu, hb, hz⟩; rw [HX.out] at he; subst he)
    | (go_at_call 64; refine (get_any _ _ _ (by have := HZ.out; omega) _).mono ?_; rintro e w1 ⟨he, rfl⟩; rw [HZ.out, HG.out] at he; subst he))
  go_wp2
  go_ret
  exact ⟨rfl, hu, hb, hz⟩
set_option maxHeartbeats 400000 in
theorem unum_big (b : Nat) (s : ByteArray) (n : Nat) (hs : Sized n) (h : n ≤ s.size) (hv : ¬ ShiftP.getN (s.data.toList.take n) < 9223372036854775808) (w : World) (hp : UAt b s false w) :
    Calls Tryd.prog 35 #[.pointer (some ⟨b, 0, none⟩), .int .i64 n] w fun e w' => e = .returned (.int .i64 0) ∧ (∃ t : ByteArray, t.size ≤ s.size ∧ UAt b t true w') ∧ Only b w w' ∧ w'.heap.size = w.heap.size := by
  have HP := Lib.hid hp
  have HS := Lib.hid hs
  have H := Lib.hid h
  have hsz : (s.extract 0 n).size = n := by simp; omega
  have hd : (s.extract 0 n).data.toList = s.data.toList.take n := by simp
  have hn8 : n ≤ 8 := by unfold Sized at hs; omega
  have hup : ShiftP.getN (s.data.toList.take n) < 18446744073709551616 := by
    have h1 := ShiftP.getN_lt (s.data.toList.take n)
    have h2 : (s.data.toList.take n).length ≤ 8 := by simp; omega
    have h3 : 256 ^ (s.data.toList.take n).length ≤ 256 ^ 8 := Nat.pow_le_pow_right (by omega) h2
    omega
  generalize hx : s.extract 0 n = x at *
  have HX := Lib.hid hx
  rw [← hd] at hv hup
  have HG := Lib.hid (show getR x 0 n = .tuple #[.int .u64 (ShiftP.getN x.data.toList : Nat), .bool true] from getR_all x n hsz hn8)
  have HZ := Lib.hid hsz
  generalize hg : ShiftP.getN x.data.toList = g at *
  have hq : ((g : Int) / 9223372036854775808 != 0) = true := by
    have : ((g : Int) / 9223372036854775808) = ((g / 9223372036854775808 : Nat) : Int) := by rw [Int.natCast_ediv]; rfl
    rw [this, bne_iff_ne]
    have := Nat.div_pos (a := g) (b := 9223372036854775808) (by omega) (by omega)
    omega
  clear hp h hs hx hsz hd hg
  go_enter Tryd.func35, Tryd.ntmps35
  go_wp2_with (first
    | (go_at_call 61; refine (sized_yes _ HS.out _).mono ?_; rintro e w1 ⟨rfl, rfl⟩)
    | (go_at_call 63; refine (take_yes b _ _ H.out _ HP.out).mono ?_; rintro e w1 ⟨he, hu1, hb1, hz1⟩; rw [HX.out] at he; subst he; have HU := Lib.hid hu1; clear hu1)
    | (go_at_call 64; refine (get_any _ _ _ (by have := HZ.out; omega) _).mono ?_; rintro e w1 ⟨he, rfl⟩; rw [HZ.out, HG.out] at he; subst he)
    | (go_at_call 62; refine (spoil_any b _ _ _ HU.out).mono ?_; rintro e w1 ⟨rfl, hu, hb, hz⟩))
  go_wp2
  go_ret
  exact ⟨rfl, ⟨_, by simp, hu⟩, hb1.trans hb, hz.trans hz1⟩
end Go.Proofs.YtlffcilgmockmaaDoor.PackW

namespace Go.Proofs.YtlffcilgmockmaaDoor.PackW
open Go.RowKit
set_option maxRecDepth 100000
open ShiftW (getOK getV getR get_any)
def numA (l : List UInt8) (sp : Bool) (n : Int) : Int := match unumV l sp n with | some v => (v : Int) | none => 0
def numG (l : List UInt8) (sp : Bool) (n : Int) : Bool := (unumV l sp n).isNone
theorem unum_any (b : Nat) (l : List UInt8) (sp : Bool) (n : Int) (w : World) (hp : UIs b l sp w) :
    Calls Tryd.prog 35 #[.pointer (some ⟨b, 0, none⟩), .int .i64 n] w fun e w' => e = .returned (.int .i64 (numA l sp n)) ∧ UIs b (l.drop n.toNat) (numG l sp n) w' ∧ Only b w w' ∧ w'.heap.size = w.heap.size := by
  obtain ⟨s, hu, hsz, hl⟩ := hp
  have hlen : s.data.toList.length = s.size := by simp
  by_cases hs : Sized n
  · obtain ⟨m, rfl⟩ := Int.eq_ofNat_of_zero_le (show 0 ≤ n by unfold Sized at hs; omega)
    by_cases hc : sp = true ∨ s.size < m
    · have hnone : unumV l sp m = none := by
        rw [unumV, if_neg]
        rintro ⟨h1, h2, h3, h4⟩
        rcases hc with hc | hc
        · rw [h1] at hc; cases hc
        · rw [← hl h1, Int.toNat_natCast] at h3; omega
      refine (unum_short b s sp m hs hc w hu).mono ?_
      rintro e w' ⟨rfl, h1, h2, h3⟩
      exact ⟨by rw [numA, hnone], ⟨s, by rw [numG, hnone]; exact h1, hsz, by rw [numG, hnone]; intro h; cases h⟩, h2, h3⟩
    · obtain rfl : sp = false := by cases sp <;> simp_all
      have hm : m ≤ s.size := Nat.le_of_not_lt fun h => hc (.inr h)
      obtain rfl := hl rfl
      by_cases hv : ShiftP.getN (s.data.toList.take m) < 9223372036854775808
      · have hsome : unumV s.data.toList false m = some (ShiftP.getN (s.data.toList.take m)) := by
          rw [unumV, if_pos ⟨rfl, hs, by rw [Int.toNat_natCast]; omega, by rw [Int.toNat_natCast]; exact hv⟩, Int.toNat_natCast]
        refine (unum_yes b s m hs hm hv w hu).mono ?_
        rintro e w' ⟨rfl, h1, h2, h3⟩
        refine ⟨by rw [numA, hsome], ⟨_, by rw [numG, hsome]; exact h1, by simp; omega, fun _ => ?_⟩, h2, h3⟩
        rw [Int.toNat_natCast, ByteArray.data_extract, Array.toList_extract, List.extract_eq_take_drop, List.take_of_length_le (by simp)]
      · have hnone : unumV s.data.toList false m = none := by
          rw [unumV, if_neg]
          rintro ⟨h1, h2, h3, h4⟩
          rw [Int.toNat_natCast] at h4; exact hv h4
        refine (unum_big b s m hs hm hv w hu).mono ?_
        rintro e w' ⟨rfl, ⟨t, ht, h1⟩, h2, h3⟩
        exact ⟨by rw [numA, hnone], ⟨t, by rw [numG, hnone]; exact h1, by omega, by rw [numG, hnone]; intro h; cases h⟩, h2, h3⟩
  · have hnone : unumV l sp n = none := by
      rw [unumV, if_neg]
      rintro ⟨h1, h2, h3, h4⟩
      exact hs h2
    refine (unum_unsized b s sp n hs w hu).mono ?_
    rintro e w' ⟨rfl, h1, h2, h3⟩
    exact ⟨by rw [numA, hnone], ⟨s, by rw [numG, hnone]; exact h1, hsz, by rw [numG, hnone]; intro h; cases h⟩, h2, h3⟩
/-- the text that Text answers -/
def utextV (l : List UInt8) (sp : Bool) (most : Int) : Option (List UInt8) :=
  if sp = false ∧ 2 ≤ l.length ∧ (ShiftP.getN (l.take 2) : Int) ≤ most ∧ ShiftP.getN (l.take 2) ≤ l.length - 2 then some ((l.drop 2).take (ShiftP.getN (l.take 2))) else none
def textA (l : List UInt8) (sp : Bool) (most : Int) : ByteArray := match utextV l sp most with | some t => ⟨t.toArray⟩ | none => ⟨#[]⟩
def textG (l : List UInt8) (sp : Bool) (most : Int) : Bool := (utextV l sp most).isNone
theorem takeI_yes (b : Nat) (l : List UInt8) (n : Nat) (h : n ≤ l.length) (w : World) (hp : UIs b l false w) :
    Calls Tryd.prog 63 #[.pointer (some ⟨b, 0, none⟩), .int .i64 n] w fun e w' => e = .returned (.tuple #[.string ⟨(l.take n).toArray⟩, .bool true]) ∧
      UIs b (l.drop n) false w' ∧ Only b w w' ∧ w'.heap.size = w.heap.size := by
  obtain ⟨s, hu, hsz, hl⟩ := hp
  have hlen : s.data.toList.length = s.size := by simp
  obtain rfl := hl rfl
  refine (take_yes b s n (by omega) w hu).mono ?_
  rintro e w' ⟨rfl, h1, h2, h3⟩
  refine ⟨?_, ⟨_, h1, by simp; omega, fun _ => ?_⟩, h2, h3⟩
  · have : s.extract 0 n = ⟨(s.data.toList.take n).toArray⟩ := by
      apply ByteArray.ext
      rw [ByteArray.data_extract]
      apply Array.toList_inj.1
      rw [Array.toList_extract, List.extract_eq_take_drop]
      simp
    rw [this]
  · rw [ByteArray.data_extract, Array.toList_extract, List.extract_eq_take_drop, List.take_of_length_le (by simp)]
theorem takeI_no (b : Nat) (l : List UInt8) (sp : Bool) (n : Nat) (h : sp = true ∨ l.length < n) (w : World) (hp : UIs b l sp w) :
    Calls Tryd.prog 63 #[.pointer (some ⟨b, 0, none⟩), .int .i64 n] w fun e w' => e = .returned (.tuple #[.string ⟨#[]⟩, .bool false]) ∧
      UIs b [] true w' ∧ Only b w w' ∧ w'.heap.size = w.heap.size := by
  obtain ⟨s, hu, hsz, hl⟩ := hp
  have hlen : s.data.toList.length = s.size := by simp
  refine (take_no b s sp n ?_ w hu).mono ?_
  · rcases h with h | h
    · exact .inl h
    · cases sp with
      | true => exact .inl rfl
      | false => right; obtain rfl := hl rfl; omega
  · rintro e w' ⟨rfl, h1, h2, h3⟩
    exact ⟨rfl, ⟨s, h1, hsz, by intro h; cases h⟩, h2, h3⟩
theorem ispoil_any (b : Nat) (l : List UInt8) (sp : Bool) (w : World) (hp : UIs b l sp w) :
    Calls Tryd.prog 62 #[.pointer (some ⟨b, 0, none⟩)] w fun e w' => e = .returned (.tuple #[]) ∧ UIs b l true w' ∧ Only b w w' ∧ w'.heap.size = w.heap.size := by
  obtain ⟨s, hu, hsz, hl⟩ := hp
  refine (spoil_any b s sp w hu).mono ?_
  rintro e w' ⟨rfl, h1, h2, h3⟩
  exact ⟨rfl, ⟨s, h1, hsz, by intro h; cases h⟩, h2, h3⟩
set_option maxHeartbeats 400000 in
theorem utext_any (b : Nat) (l : List UInt8) (sp : Bool) (most : Int) (w : World) (hp : UIs b l sp w) :
    Calls Tryd.prog 65 #[.pointer (some ⟨b, 0, none⟩), .int .i64 most] w fun e w' => e = .returned (.string (textA l sp most)) ∧ (∃ l', UIs b l' (textG l sp most) w' ∧ (textG l sp most = false → l' = (l.drop 2).drop (ShiftP.getN (l.take 2)))) ∧ Only b w w' ∧ w'.heap.size = w.heap.size := by
  have HP := Lib.hid hp
  clear hp
  have h2 : unumV l sp 2 = if sp = false ∧ 2 ≤ l.length then some (ShiftP.getN (l.take 2)) else none := by
    have hb : ShiftP.getN (l.take 2) < 65536 := by
      have h1 := ShiftP.getN_lt (l.take 2)
      have h2 : (l.take 2).length ≤ 2 := by simp; omega
      have h3 : 256 ^ (l.take 2).length ≤ 256 ^ 2 := Nat.pow_le_pow_right (by omega) h2
      omega
    by_cases hc : sp = false ∧ 2 ≤ l.length
    · rw [unumV, if_pos ⟨hc.1, .inr (.inl rfl), hc.2, by simpa using (by omega : ShiftP.getN (l.take 2) < 9223372036854775808)⟩, if_pos hc]; rfl
    · rw [unumV, if_neg (fun h => hc ⟨h.1, h.2.2.1⟩), if_neg hc]
  by_cases hc : sp = false ∧ 2 ≤ l.length
  · obtain ⟨rfl, hlen⟩ := hc
    rw [if_pos ⟨rfl, hlen⟩] at h2
    have hA : numA l false 2 = (ShiftP.getN (l.take 2) : Nat) := by rw [numA, h2]
    have hG : numG l false 2 = false := by rw [numG, h2]; rfl
    generalize hv : ShiftP.getN (l.take 2) = v at *
    have hdl : (l.drop 2).length = l.length - 2 := by simp
    have hvb : v < 65536 := by
      have h1 := ShiftP.getN_lt (l.take 2)
      have h2 : (l.take 2).length ≤ 2 := by simp; omega
      have h3 : 256 ^ (l.take 2).length ≤ 256 ^ 2 := Nat.pow_le_pow_right (by omega) h2
      omega
    have HA := Lib.hid hA
    have HG := Lib.hid hG
    by_cases hm : (v : Int) ≤ most
    · by_cases hq : v ≤ (l.drop 2).length
      · have HR : Hid (textA l false most = ⟨((l.drop 2).take v).toArray⟩ ∧ textG l false most = false) := by
          apply Lib.hid
          have : utextV l false most = some ((l.drop 2).take v) := by rw [utextV, hv, if_pos ⟨rfl, hlen, hm, by omega⟩]
          rw [textA, textG, this]; exact ⟨rfl, rfl⟩
        have HQ := Lib.hid hq
        clear h2 hA hG hdl hlen hv hq
        go_enter Tryd.func65, Tryd.ntmps65
        go_wp2_with (first
          | (go_at_call 35; refine (unum_any b _ _ _ _ HP.out).mono ?_; rintro e w1 ⟨he, hu, hb1, hz1⟩; rw [HA.out] at he; subst he; rw [HG.out] at hu; have HU := Lib.hid hu; clear hu)
          | (go_at_call 63; refine (takeI_yes b _ _ HQ.out _ HU.out).mono ?_; rintro e w2 ⟨rfl, hu2, hb2, hz2⟩))
        go_ret
        refine ⟨?_, ⟨_, ?_, fun _ => rfl⟩, hb1.trans hb2, hz2.trans hz1⟩
        · rw [HR.out.1]; rfl
        · rw [HR.out.2]; exact hu2
      · have HR : Hid (textA l false most = ⟨#[]⟩ ∧ textG l false most = true) := by
          apply Lib.hid
          have : utextV l false most = none := by rw [utextV, hv, if_neg (fun h => hq (by omega))]
          rw [textA, textG, this]; exact ⟨rfl, rfl⟩
        have HQ : Hid (false = true ∨ (l.drop 2).length < v) := Lib.hid (.inr (by omega))
        clear h2 hA hG hdl hlen hv hq
        go_enter Tryd.func65, Tryd.ntmps65
        go_wp2_with (first
          | (go_at_call 35; refine (unum_any b _ _ _ _ HP.out).mono ?_; rintro e w1 ⟨he, hu, hb1, hz1⟩; rw [HA.out] at he; subst he; rw [HG.out] at hu; have HU := Lib.hid hu; clear hu)
          | (go_at_call 63; refine (takeI_no b _ _ _ HQ.out _ HU.out).mono ?_; rintro e w2 ⟨rfl, hu2, hb2, hz2⟩))
        go_ret
        refine ⟨?_, ⟨[], ?_, ?_⟩, hb1.trans hb2, hz2.trans hz1⟩
        · rw [HR.out.1]; rfl
        · rw [HR.out.2]; exact hu2
        · rw [HR.out.2]; intro h; cases h
    · have hm' : decide (most < (v : Int)) = true := decide_eq_true (by omega)
      have HR : Hid (textA l false most = ⟨#[]⟩ ∧ textG l false most = true) := by
        apply Lib.hid
        have : utextV l false most = none := by rw [utextV, hv, if_neg (fun h => hm (by omega))]
        rw [textA, textG, this]; exact ⟨rfl, rfl⟩
      clear h2 hA hG hdl hlen hv hm
      go_enter Tryd.func65, Tryd.ntmps65
      go_wp2_with (first
        | (go_at_call 35; refine (unum_any b _ _ _ _ HP.out).mono ?_; rintro e w1 ⟨he, hu, hb1, hz1⟩; rw [HA.out] at he; subst he; rw [HG.out] at hu; have HU := Lib.hid hu; clear hu)
        | (go_at_call 62; refine (ispoil_any b _ _ _ HU.out).mono ?_; rintro e w2 ⟨rfl, hu2, hb2, hz2⟩; have HV := Lib.hid hu2; clear hu2)
        | (go_at_call 63; refine (takeI_no b _ _ _ (.inl rfl) _ HV.out).mono ?_; rintro e w3 ⟨rfl, hu3, hb3, hz3⟩))
      go_ret
      refine ⟨?_, ⟨[], ?_, ?_⟩, (hb1.trans hb2).trans hb3, hz3.trans (hz2.trans hz1)⟩
      · rw [HR.out.1]; rfl
      · rw [HR.out.2]; exact hu3
      · rw [HR.out.2]; intro h; cases h
  · rw [if_neg hc] at h2
    have HA : Hid (numA l sp 2 = ((0 : Nat) : Int)) := Lib.hid (by rw [numA, h2]; rfl)
    have HG : Hid (numG l sp 2 = true) := Lib.hid (by rw [numG, h2]; rfl)
    have HR : Hid (textA l sp most = ⟨#[]⟩ ∧ textG l sp most = true) := by
      apply Lib.hid
      have : utextV l sp most = none := by rw [utextV, if_neg (fun h => hc ⟨h.1, h.2.1⟩)]
      rw [textA, textG, this]; exact ⟨rfl, rfl⟩
    clear h2 hc
    by_cases hm : most < 0
    all_goals
      go_enter Tryd.func65, Tryd.ntmps65
      go_wp2_with (first
        | (go_at_call 35; refine (unum_any b _ _ _ _ HP.out).mono ?_; rintro e w1 ⟨he, hu, hb1, hz1⟩; rw [HA.out] at he; subst he; rw [HG.out] at hu; have HU := Lib.hid hu; clear hu)
        | (go_at_call 62; refine (ispoil_any b _ _ _ HU.out).mono ?_; rintro e w2 ⟨rfl, hu2, hb2, hz2⟩; have HV := Lib.hid hu2; clear hu2)
        | (go_at_call 63; refine (takeI_no b _ _ 0 (.inl rfl) _ HV.out).mono ?_; rintro e w3 ⟨rfl, hu3, hb3, hz3⟩)
        | (go_at_call 63; refine (takeI_no b _ _ 0 (.inl rfl) _ HU.out).mono ?_; rintro e w3 ⟨rfl, hu3, hb3, hz3⟩))
      go_ret
    · refine ⟨?_, ⟨[], ?_, ?_⟩, (hb1.trans hb2).trans hb3, hz3.trans (hz2.trans hz1)⟩
      · rw [HR.out.1]; rfl
      · rw [HR.out.2]; exact hu3
      · rw [HR.out.2]; intro h; cases h
    · refine ⟨?_, ⟨[], ?_, ?_⟩, hb1.trans hb3, hz3.trans hz1⟩
      · rw [HR.out.1]; rfl
      · rw [HR.out.2]; exact hu3
      · rw [HR.out.2]; intro h; cases h
def leftA (l : List UInt8) (sp : Bool) : Int := if sp = true then 0 else (l.length : Int)
def endA (l : List UInt8) (sp : Bool) : Int := if sp = true ∨ l ≠ [] then 11 else 0
set_option maxHeartbeats 400000 in
theorem uend_any (b : Nat) (l : List UInt8) (sp : Bool) (w : World) (hp : UIs b l sp w) :
    Calls Tryd.prog 37 #[.pointer (some ⟨b, 0, none⟩)] w fun e w' => e = .returned (.int .i64 (endA l sp)) ∧ w = w' := by
  obtain ⟨s, hu, hsz, hl⟩ := hp
  have c0 := hu.cell0
  have c1 := hu.cell1
  have hlen : s.data.toList.length = s.size := by simp
  cases sp with
  | true =>
    have H := Lib.hid (show endA l true = 11 by simp [endA])
    clear hu hl hlen
    go_enter Tryd.func37, Tryd.ntmps37
    go_wp2
    go_ret
    exact ⟨ret_int H.out.symm, rfl⟩
  | false =>
    obtain rfl := hl rfl
    by_cases h0 : s.size = 0
    · have H := Lib.hid (show endA s.data.toList false = 0 by rw [endA, if_neg]; simp only [reduceCtorEq, false_or, Decidable.not_not]; exact List.eq_nil_of_length_eq_zero (by omega))
      have hd : decide (0 < s.size) = false := decide_eq_false (by omega)
      clear hu hl hlen h0
      go_enter Tryd.func37, Tryd.ntmps37
      go_wp2
      go_ret
      exact ⟨ret_int H.out.symm, rfl⟩
    · have H := Lib.hid (show endA s.data.toList false = 11 by rw [endA, if_pos]; right; intro h; rw [h] at hlen; simp at hlen; omega)
      have hd : decide (0 < s.size) = true := decide_eq_true (by omega)
      clear hu hl hlen h0
      go_enter Tryd.func37, Tryd.ntmps37
      go_wp2
      go_ret
      exact ⟨ret_int H.out.symm, rfl⟩
end Go.Proofs.YtlffcilgmockmaaDoor.PackW

namespace Go.Proofs.YtlffcilgmockmaaDoor.PackW
open Go.RowKit
set_option maxRecDepth 100000
open ShiftW (getOK getV getR rget_any)
/-- the reference's Unpacker in block b -/
def VAt (b : Nat) (s : ByteArray) (k : Nat) (bad : Bool) (w : World) : Prop := w.heap[b]? = some (.cells #[.string s, .int .i64 (k : Int), .bool bad] 94 (0, 0))
theorem VAt.cell0 {b : Nat} {s : ByteArray} {k : Nat} {bad : Bool} {w : World} (h : VAt b s k bad w) : w.cell? ⟨b, 0, none⟩ = some (.string s) := by rw [Lib.cell_of_heap h]; rfl
theorem VAt.cell1 {b : Nat} {s : ByteArray} {k : Nat} {bad : Bool} {w : World} (h : VAt b s k bad w) : w.cell? ⟨b, 1, none⟩ = some (.int .i64 (k : Int)) := by rw [Lib.cell_of_heap h]; rfl
theorem VAt.cell2 {b : Nat} {s : ByteArray} {k : Nat} {bad : Bool} {w : World} (h : VAt b s k bad w) : w.cell? ⟨b, 2, none⟩ = some (.bool bad) := by rw [Lib.cell_of_heap h]; rfl
theorem VAt.free {b : Nat} {s : ByteArray} {k : Nat} {bad : Bool} {w : World} (h : VAt b s k bad w) (i : Nat) : w.frozen? ⟨b, i, none⟩ = false := Lib.frozen_of_heap h i
theorem VAt.lt {b : Nat} {s : ByteArray} {k : Nat} {bad : Bool} {w : World} (h : VAt b s k bad w) : b < w.heap.size := lt_of_block h
theorem VAt.drewN {b : Nat} {s : ByteArray} {k : Nat} {bad : Bool} {w : World} (h : VAt b s k bad w) (n : Nat) : VAt b s k bad (w.drewN n) := h
theorem VAt.keep {b : Nat} {s : ByteArray} {k : Nat} {bad : Bool} {w w' : World} (h : VAt b s k bad w) (q : Below w.heap.size w w') : VAt b s k bad w' := (q.block b h.lt).trans h
theorem VAt.set1 {b : Nat} {s : ByteArray} {k : Nat} {bad : Bool} {w : World} (h : VAt b s k bad w) (j : Nat) : VAt b s j bad (w.setCell ⟨b, 1, none⟩ (.int .i64 (j : Int))) := by
  unfold VAt; rw [heap_setCell_same w b 1 _ _ _ h]; rfl
theorem VAt.set2 {b : Nat} {s : ByteArray} {k : Nat} {bad : Bool} {w : World} (h : VAt b s k bad w) : VAt b s k true (w.setCell ⟨b, 2, none⟩ (.bool true)) := by
  unfold VAt; rw [heap_setCell_same w b 2 _ _ _ h]; rfl
set_option maxHeartbeats 400000 in
theorem ropen_any (s : ByteArray) (w : World) : Calls Tryd.prog 38 #[.string s] w fun e w' => e = .returned (.pointer (some ⟨w.heap.size, 0, none⟩)) ∧ VAt w.heap.size s 0 false w' ∧ Below w.heap.size w w' ∧ w'.heap.size = w.heap.size + 1 := by
  go_enter Tryd.func38, Tryd.ntmps38
  go_wp2
  go_ret
  exact ⟨rfl, heap_alloc_new _ _, below_alloc w _, by simp⟩
theorem VAt.cells {b : Nat} {s : ByteArray} {k : Nat} {bad : Bool} {w : World} (h : VAt b s k bad w) (n : Nat) : (w.drewN n).cell? ⟨b, 0, none⟩ = some (.string s) ∧ (w.drewN n).cell? ⟨b, 1, none⟩ = some (.int .i64 (k : Int)) ∧ (w.drewN n).cell? ⟨b, 2, none⟩ = some (.bool bad) :=
  ⟨(h.drewN n).cell0, (h.drewN n).cell1, (h.drewN n).cell2⟩
set_option maxHeartbeats 400000 in
theorem vnum_no (b : Nat) (s : ByteArray) (k : Nat) (bad : Bool) (n : Int) (v : Nat) (ok : Bool) (hs : s.size ≤ 140737488355328) (hR : getR s k n = .tuple #[.int .u64 (v : Int), .bool ok])
    (h : bad = true ∨ bad = false ∧ ¬ Sized n ∨ bad = false ∧ Sized n ∧ ok = false ∨ bad = false ∧ Sized n ∧ ok = true ∧ 9223372036854775808 ≤ v) (w : World) (hp : VAt b s k bad w) :
    Calls Tryd.prog 39 #[.pointer (some ⟨b, 0, none⟩), .int .i64 n] w fun e w' => e = .returned (.int .i64 0) ∧ VAt b s k true w' ∧ Only b w w' ∧ w'.heap.size = w.heap.size := by
  have HP := Lib.hid hp
  have HR := Lib.hid hR
  have HS := Lib.hid hs
  have hc0 := hp.cell0
  have hc1 := hp.cell1
  have hc2 := hp.cell2
  have hf := hp.free 2
  clear hp hR hs
  rcases h with rfl | ⟨rfl, h⟩ | ⟨rfl, h, rfl⟩ | ⟨rfl, h, rfl, hv⟩
  · go_enter Tryd.func39, Tryd.ntmps39
    go_wp2
    go_quiet ((go_at_call 66; exact quiet_left ((rget_any s (k : Int) n (by have := HS.out; omega) _).mono (fun e w' he => ⟨he.1.trans (congrArg Ending.returned HR.out), he.2⟩))))
    go_wp2
    refine bodyPost_ret (v := .int .i64 0) (by simp [results, Tryd.results39, go_sem]) rfl ?_
    exact ⟨rfl, (HP.out.drewN _).set2, ((Only.refl b w).drewN _).setCell 2 _, by simp⟩
  · have H := Lib.hid h
    clear h
    go_enter Tryd.func39, Tryd.ntmps39
    go_wp2
    go_quiet ((go_at_call 66; exact quiet_left ((rget_any s (k : Int) n (by have := HS.out; omega) _).mono (fun e w' he => ⟨he.1.trans (congrArg Ending.returned HR.out), he.2⟩))))
    go_wp2_with (go_at_call 47; refine (size_no _ H.out _).mono ?_; rintro e w1 ⟨rfl, rfl⟩)
    refine bodyPost_ret (v := .int .i64 0) (by simp [results, Tryd.results39, go_sem]) rfl ?_
    exact ⟨rfl, (HP.out.drewN _).set2, ((Only.refl b w).drewN _).setCell 2 _, by simp⟩
  · have H := Lib.hid h
    clear h
    go_enter Tryd.func39, Tryd.ntmps39
    go_wp2
    go_quiet ((go_at_call 66; exact quiet_left ((rget_any s (k : Int) n (by have := HS.out; omega) _).mono (fun e w' he => ⟨he.1.trans (congrArg Ending.returned HR.out), he.2⟩))))
    go_wp2_with (go_at_call 47; refine (size_yes _ H.out _).mono ?_; rintro e w1 ⟨rfl, rfl⟩)
    refine bodyPost_ret (v := .int .i64 0) (by simp [results, Tryd.results39, go_sem]) rfl ?_
    exact ⟨rfl, (HP.out.drewN _).set2, ((Only.refl b w).drewN _).setCell 2 _, by simp⟩
  · have H := Lib.hid h
    have HV := Lib.hid (show decide ((9223372036854775808 : Int) ≤ (v : Int)) = true from decide_eq_true (by omega))
    clear h hv
    go_enter Tryd.func39, Tryd.ntmps39
    go_wp2
    go_quiet ((go_at_call 66; exact quiet_left ((rget_any s (k : Int) n (by have := HS.out; omega) _).mono (fun e w' he => ⟨he.1.trans (congrArg Ending.returned HR.out), he.2⟩))))
    have hd := HV.out
    go_wp2_with (go_at_call 47; refine (size_yes _ H.out _).mono ?_; rintro e w1 ⟨rfl, rfl⟩)
    refine bodyPost_ret (v := .int .i64 0) (by simp [results, Tryd.results39, go_sem]) rfl ?_
    exact ⟨rfl, (HP.out.drewN _).set2, ((Only.refl b w).drewN _).setCell 2 _, by simp⟩
set_option maxHeartbeats 400000 in
theorem vnum_yes (b : Nat) (s : ByteArray) (k n : Nat) (v : Nat) (hs : s.size ≤ 140737488355328) (hk : k ≤ s.size) (hR : getR s k n = .tuple #[.int .u64 (v : Int), .bool true])
    (h : Sized n) (hv : v < 9223372036854775808) (w : World) (hp : VAt b s k false w) :
    Calls Tryd.prog 39 #[.pointer (some ⟨b, 0, none⟩), .int .i64 n] w fun e w' => e = .returned (.int .i64 v) ∧ VAt b s (k + n) false w' ∧ Only b w w' ∧ w'.heap.size = w.heap.size := by
  have HP := Lib.hid hp
  have HR := Lib.hid hR
  have HS := Lib.hid hs
  have hc0 := hp.cell0
  have hc1 := hp.cell1
  have hc2 := hp.cell2
  have hf := hp.free 1
  have hkk : (k : Int) ≤ 140737488355328 := by omega
  have hn8 : (n : Int) ≤ 8 := by unfold Sized at h; omega
  have H := Lib.hid h
  have HV := Lib.hid (show decide ((9223372036854775808 : Int) ≤ (v : Int)) = false from decide_eq_false (by omega))
  have HW := Lib.hid (show IntKind.i64.wrap (v : Int) = (v : Int) from IntWalk.i64_in _ (by omega))
  clear hp hR hs hk h hv
  go_enter Tryd.func39, Tryd.ntmps39
  go_wp2
  go_quiet ((go_at_call 66; exact quiet_left ((rget_any s (k : Int) n (by have := HS.out; omega) _).mono (fun e w' he => ⟨he.1.trans (congrArg Ending.returned HR.out), he.2⟩))))
  have hd := HV.out
  have hw := HW.out
  go_wp2_with (go_at_call 47; refine (size_yes _ H.out _).mono ?_; rintro e w1 ⟨rfl, rfl⟩)
  refine bodyPost_ret (v := .int .i64 v) (by simp [results, Tryd.results39, go_sem]) rfl ?_
  exact ⟨rfl, by rw [← Int.natCast_add]; exact (HP.out.drewN _).set1 (k + n), ((Only.refl b w).drewN _).setCell 1 _, by simp⟩
theorem getR_in (s : ByteArray) (k : Nat) (n : Nat) (h : k + n ≤ s.size) (hn : n ≤ 8) : getR s k n = .tuple #[.int .u64 (ShiftP.getN ((s.data.toList.drop k).take n) : Nat), .bool true] := by
  rw [getR, if_pos ⟨by omega, by omega, by omega, by omega, by omega⟩, getV]; rfl
theorem getR_out (s : ByteArray) (k : Nat) (n : Int) (h : ¬ (0 ≤ n ∧ n ≤ 8 ∧ (k : Int) + n ≤ s.size)) : getR s k n = .tuple #[.int .u64 ((0 : Nat) : Int), .bool false] := by
  rw [getR, if_neg (by unfold getOK; omega)]; rfl
/-- the reference's Unpacker in block b: what is left is l, where it is not bad -/
def VIs (b : Nat) (l : List UInt8) (bad : Bool) (w : World) : Prop := ∃ (s : ByteArray) (k : Nat), VAt b s k bad w ∧ s.size ≤ 140737488355328 ∧ k ≤ s.size ∧ (bad = false → s.data.toList.drop k = l)
theorem VIs.keep {b : Nat} {l : List UInt8} {sp : Bool} {w w' : World} (h : VIs b l sp w) (q : Below w.heap.size w w') : VIs b l sp w' := by
  obtain ⟨s, k, h1, h2⟩ := h
  exact ⟨s, k, h1.keep q, h2⟩
theorem VIs.lt {b : Nat} {l : List UInt8} {sp : Bool} {w : World} (h : VIs b l sp w) : b < w.heap.size := by
  obtain ⟨s, k, h1, h2⟩ := h
  exact h1.lt
theorem vnum_any (b : Nat) (l : List UInt8) (bad : Bool) (n : Int) (w : World) (hp : VIs b l bad w) :
    Calls Tryd.prog 39 #[.pointer (some ⟨b, 0, none⟩), .int .i64 n] w fun e w' => e = .returned (.int .i64 (numA l bad n)) ∧ VIs b (l.drop n.toNat) (numG l bad n) w' ∧ Only b w w' ∧ w'.heap.size = w.heap.size := by
  obtain ⟨s, k, hu, hsz, hk, hl⟩ := hp
  have hlen : s.data.toList.length = s.size := by simp
  have fin : ∀ v ok, getR s k n = .tuple #[.int .u64 ((v : Nat) : Int), .bool ok] → (bad = true ∨ bad = false ∧ ¬ Sized n ∨ bad = false ∧ Sized n ∧ ok = false ∨ bad = false ∧ Sized n ∧ ok = true ∧ 9223372036854775808 ≤ v) → unumV l bad n = none →
      Calls Tryd.prog 39 #[.pointer (some ⟨b, 0, none⟩), .int .i64 n] w fun e w' => e = .returned (.int .i64 (numA l bad n)) ∧ VIs b (l.drop n.toNat) (numG l bad n) w' ∧ Only b w w' ∧ w'.heap.size = w.heap.size := by
    intro v ok h1 h2 h3
    refine (vnum_no b s k bad n v ok hsz h1 h2 w hu).mono ?_
    rintro e w' ⟨rfl, h4, h5, h6⟩
    exact ⟨by rw [numA, h3], ⟨s, k, by rw [numG, h3]; exact h4, hsz, hk, by rw [numG, h3]; intro h; cases h⟩, h5, h6⟩
  by_cases hin : 0 ≤ n ∧ n ≤ 8 ∧ (k : Int) + n ≤ s.size
  · obtain ⟨m, rfl⟩ := Int.eq_ofNat_of_zero_le hin.1
    have hR := getR_in s k m (by omega) (by omega)
    cases bad with
    | true => exact fin _ _ hR (.inl rfl) (by rw [unumV, if_neg]; rintro ⟨h, _⟩; cases h)
    | false =>
      obtain rfl := hl rfl
      by_cases hs : Sized m
      · by_cases hv : ShiftP.getN ((s.data.toList.drop k).take m) < 9223372036854775808
        · have hsome : unumV (s.data.toList.drop k) false m = some (ShiftP.getN ((s.data.toList.drop k).take m)) := by
            rw [unumV, if_pos ⟨rfl, hs, by rw [Int.toNat_natCast, List.length_drop]; omega, by rw [Int.toNat_natCast]; exact hv⟩, Int.toNat_natCast]
          refine (vnum_yes b s k m _ hsz hk hR hs hv w hu).mono ?_
          rintro e w' ⟨rfl, h4, h5, h6⟩
          exact ⟨by rw [numA, hsome], ⟨s, k + m, by rw [numG, hsome]; exact h4, hsz, by omega, fun _ => by rw [Int.toNat_natCast, List.drop_drop]⟩, h5, h6⟩
        · exact fin _ _ hR (.inr (.inr (.inr ⟨rfl, hs, rfl, by omega⟩))) (by rw [unumV, if_neg]; rintro ⟨_, _, _, h⟩; rw [Int.toNat_natCast] at h; exact hv h)
      · exact fin _ _ hR (.inr (.inl ⟨rfl, hs⟩)) (by rw [unumV, if_neg]; rintro ⟨_, h, _⟩; exact hs h)
  · have hR := getR_out s k n hin
    cases bad with
    | true => exact fin _ _ hR (.inl rfl) (by rw [unumV, if_neg]; rintro ⟨h, _⟩; cases h)
    | false =>
      obtain rfl := hl rfl
      by_cases hs : Sized n
      · refine fin _ _ hR (.inr (.inr (.inl ⟨rfl, hs, rfl⟩))) ?_
        rw [unumV, if_neg]
        rintro ⟨_, _, h, _⟩
        rw [List.length_drop] at h
        unfold Sized at hs
        omega
      · exact fin _ _ hR (.inr (.inl ⟨rfl, hs⟩)) (by rw [unumV, if_neg]; rintro ⟨_, h, _⟩; exact hs h)
end Go.Proofs.YtlffcilgmockmaaDoor.PackW

namespace Go.Proofs.YtlffcilgmockmaaDoor.PackW
open Go.RowKit
set_option maxRecDepth 100000
open ShiftW (getOK getV getR rget_any)
set_option maxHeartbeats 400000 in
theorem vtext_no (b : Nat) (s : ByteArray) (k : Nat) (bad : Bool) (most : Int) (v : Nat) (ok : Bool) (hs : s.size ≤ 140737488355328) (hk : k ≤ s.size) (hv : v < 65536) (hR : getR s k 2 = .tuple #[.int .u64 (v : Int), .bool ok])
    (h : bad = true ∨ bad = false ∧ ok = false ∨ bad = false ∧ ok = true ∧ most < v ∨ bad = false ∧ ok = true ∧ (v : Int) ≤ most ∧ (s.size : Int) - k - 2 < v) (w : World) (hp : VAt b s k bad w) :
    Calls Tryd.prog 40 #[.pointer (some ⟨b, 0, none⟩), .int .i64 most] w fun e w' => e = .returned (.string ⟨#[]⟩) ∧ VAt b s k true w' ∧ Only b w w' ∧ w'.heap.size = w.heap.size := by
  have HP := Lib.hid hp
  have HR := Lib.hid hR
  have HS := Lib.hid hs
  have hc0 := hp.cell0
  have hc1 := hp.cell1
  have hc2 := hp.cell2
  have hf := hp.free 2
  have hk1 : (k : Int) ≤ 140737488355328 := by omega
  have hs1 : (s.size : Int) ≤ 140737488355328 := by omega
  have hv1 : (v : Int) < 65536 := by omega
  have hk2 : (k : Int) ≤ s.size := by omega
  clear hp hR hs hk hv
  have HW1 := Lib.hid (show IntKind.i64.wrap (v : Int) = (v : Int) from IntWalk.i64_in _ (by omega))
  have HW2 := Lib.hid (show IntKind.i64.wrap ((s.size : Int) - (k : Int)) = (s.size : Int) - (k : Int) from IntWalk.i64_in _ (by omega))
  have HW3 := Lib.hid (show IntKind.i64.wrap ((s.size : Int) - (k : Int) - 2) = (s.size : Int) - (k : Int) - 2 from IntWalk.i64_in _ (by omega))
  have key : (bad = true ∨ bad = false ∧ ok = false ∨ bad = false ∧ ok = true ∧ decide (most < (v : Int)) = true ∨ bad = false ∧ ok = true ∧ decide (most < (v : Int)) = false ∧ decide ((s.size : Int) - k - 2 < v) = true) := by
    rcases h with h | h | ⟨h1, h2, h3⟩ | ⟨h1, h2, h3, h4⟩
    · exact .inl h
    · exact .inr (.inl h)
    · exact .inr (.inr (.inl ⟨h1, h2, decide_eq_true h3⟩))
    · exact .inr (.inr (.inr ⟨h1, h2, decide_eq_false (by omega), decide_eq_true h4⟩))
  clear h
  rcases key with rfl | ⟨rfl, rfl⟩ | ⟨rfl, rfl, h⟩ | ⟨rfl, rfl, h, h'⟩
  all_goals
    go_enter Tryd.func40, Tryd.ntmps40
    go_wp2
    go_quiet ((go_at_call 66; exact quiet_left ((rget_any s (k : Int) 2 (by have := HS.out; omega) _).mono (fun e w' he => ⟨he.1.trans (congrArg Ending.returned HR.out), he.2⟩))))
    go_wp2
    have hw1 := HW1.out
    have hw2 := HW2.out
    have hw3 := HW3.out
    go_quiet (fail)
    clear hw1 hw2 hw3
    go_wp2
    refine bodyPost_ret (v := .string ⟨#[]⟩) (by simp [results, Tryd.results40, go_sem]) rfl ?_
    exact ⟨rfl, (HP.out.drewN _).set2, ((Only.refl b w).drewN _).setCell 2 _, by simp⟩
set_option maxHeartbeats 400000 in
theorem vtext_yes (b : Nat) (s : ByteArray) (k : Nat) (most : Int) (v : Nat) (hs : s.size ≤ 140737488355328) (hk : k + 2 + v ≤ s.size) (hv : v < 65536) (hR : getR s k 2 = .tuple #[.int .u64 (v : Int), .bool true])
    (hm : (v : Int) ≤ most) (w : World) (hp : VAt b s k false w) :
    Calls Tryd.prog 40 #[.pointer (some ⟨b, 0, none⟩), .int .i64 most] w fun e w' => e = .returned (.string (s.extract (k + 2) (k + 2 + v))) ∧ VAt b s (k + 2 + v) false w' ∧ Only b w w' ∧ w'.heap.size = w.heap.size := by
  have HP := Lib.hid hp
  have HR := Lib.hid hR
  have HS := Lib.hid hs
  have hc0 := hp.cell0
  have hc1 := hp.cell1
  have hc2 := hp.cell2
  have hf := hp.free 1
  have hk1 : (k : Int) ≤ 140737488355328 := by omega
  have hs1 : (s.size : Int) ≤ 140737488355328 := by omega
  have hv1 : (v : Int) < 65536 := by omega
  have hk2 : (k : Int) + 2 + v ≤ s.size := by omega
  have HW1 := Lib.hid (show IntKind.i64.wrap (v : Int) = (v : Int) from IntWalk.i64_in _ (by omega))
  have HW2 := Lib.hid (show IntKind.i64.wrap ((s.size : Int) - (k : Int)) = (s.size : Int) - (k : Int) from IntWalk.i64_in _ (by omega))
  have HW3 := Lib.hid (show IntKind.i64.wrap ((s.size : Int) - (k : Int) - 2) = (s.size : Int) - (k : Int) - 2 from IntWalk.i64_in _ (by omega))
  have hd1 : decide (most < (v : Int)) = false := decide_eq_false (by omega)
  have hd2 : decide ((s.size : Int) - k - 2 < v) = false := decide_eq_false (by omega)
  have HK := Lib.hid hk
  have HSET := Lib.hid (fun (W : World) (h : VAt b s k false W) => h.set1 (k + 2 + v))
  clear hp hR hs hk hv hm
  go_enter Tryd.func40, Tryd.ntmps40
  go_wp2
  go_quiet ((go_at_call 66; exact quiet_left ((rget_any s (k : Int) 2 (by have := HS.out; omega) _).mono (fun e w' he => ⟨he.1.trans (congrArg Ending.returned HR.out), he.2⟩))))
  go_wp2
  have hw1 := HW1.out
  have hw2 := HW2.out
  have hw3 := HW3.out
  go_quiet (fail)
  clear hw2 hw3
  go_wp2
  have hk3 : (0 : Int) ≤ (k : Int) + 2 := by omega
  have hk4 : (k : Int) + 2 ≤ (k : Int) + 2 + v := by omega
  go_quiet (fail)
  go_wp2
  refine bodyPost_ret (v := .string (s.extract (k + 2) (k + 2 + v))) (by simp [results, Tryd.results40, go_sem]) rfl ?_
  refine ⟨rfl, VAt.drewN ?_ _, (((Only.refl b w).drewN _).setCell 1 _).drewN _, by simp⟩
  rw [show (k : Int) + 2 + (v : Int) = ((k + 2 + v : Nat) : Int) by omega]
  exact HSET.out _ (HP.out.drewN _)
theorem drop_take_getN (l : List UInt8) : ShiftP.getN (l.take 2) < 65536 := by
  have h1 := ShiftP.getN_lt (l.take 2)
  have h2 : (l.take 2).length ≤ 2 := by simp; omega
  have h3 : 256 ^ (l.take 2).length ≤ 256 ^ 2 := Nat.pow_le_pow_right (by omega) h2
  omega
theorem extract_list (s : ByteArray) (a v : Nat) : s.extract a (a + v) = ⟨((s.data.toList.drop a).take v).toArray⟩ := by
  apply ByteArray.ext
  rw [ByteArray.data_extract]
  apply Array.toList_inj.1
  rw [Array.toList_extract, List.extract_eq_take_drop]
  simp
theorem vtextI_any (b : Nat) (l : List UInt8) (bad : Bool) (most : Int) (w : World) (hp : VIs b l bad w) :
    Calls Tryd.prog 40 #[.pointer (some ⟨b, 0, none⟩), .int .i64 most] w fun e w' => e = .returned (.string (textA l bad most)) ∧ (∃ l', VIs b l' (textG l bad most) w' ∧ (textG l bad most = false → l' = (l.drop 2).drop (ShiftP.getN (l.take 2)))) ∧ Only b w w' ∧ w'.heap.size = w.heap.size := by
  obtain ⟨s, k, hu, hsz, hk, hl⟩ := hp
  have hlen : s.data.toList.length = s.size := by simp
  have fin : ∀ v ok, v < 65536 → getR s k 2 = .tuple #[.int .u64 ((v : Nat) : Int), .bool ok] → (bad = true ∨ bad = false ∧ ok = false ∨ bad = false ∧ ok = true ∧ most < v ∨ bad = false ∧ ok = true ∧ (v : Int) ≤ most ∧ (s.size : Int) - k - 2 < v) → utextV l bad most = none →
      Calls Tryd.prog 40 #[.pointer (some ⟨b, 0, none⟩), .int .i64 most] w fun e w' => e = .returned (.string (textA l bad most)) ∧ (∃ l', VIs b l' (textG l bad most) w' ∧ (textG l bad most = false → l' = (l.drop 2).drop (ShiftP.getN (l.take 2)))) ∧ Only b w w' ∧ w'.heap.size = w.heap.size := by
    intro v ok hv h1 h2 h3
    refine (vtext_no b s k bad most v ok hsz hk hv h1 h2 w hu).mono ?_
    rintro e w' ⟨rfl, h4, h5, h6⟩
    exact ⟨by rw [textA, h3], ⟨[], ⟨s, k, by rw [textG, h3]; exact h4, hsz, hk, by rw [textG, h3]; intro h; cases h⟩, by rw [textG, h3]; intro h; cases h⟩, h5, h6⟩
  by_cases hin : k + 2 ≤ s.size
  · have hR := getR_in s k 2 hin (by omega)
    have hv := drop_take_getN (s.data.toList.drop k)
    cases bad with
    | true => exact fin _ _ hv hR (.inl rfl) (by rw [utextV, if_neg]; rintro ⟨h, _⟩; cases h)
    | false =>
      obtain rfl := hl rfl
      by_cases hm : (ShiftP.getN ((s.data.toList.drop k).take 2) : Int) ≤ most
      · by_cases hq : k + 2 + ShiftP.getN ((s.data.toList.drop k).take 2) ≤ s.size
        · have hsome : utextV (s.data.toList.drop k) false most = some (((s.data.toList.drop k).drop 2).take (ShiftP.getN ((s.data.toList.drop k).take 2))) := by
            rw [utextV, if_pos ⟨rfl, by rw [List.length_drop]; omega, hm, by rw [List.length_drop]; omega⟩]
          refine (vtext_yes b s k most _ hsz hq hv hR hm w hu).mono ?_
          rintro e w' ⟨rfl, h4, h5, h6⟩
          refine ⟨?_, ⟨_, ⟨s, _, by rw [textG, hsome]; exact h4, hsz, hq, fun _ => rfl⟩, fun _ => ?_⟩, h5, h6⟩
          · rw [textA, hsome, extract_list, List.drop_drop]
          · rw [List.drop_drop, List.drop_drop]; congr 1; omega
        · exact fin _ _ hv hR (.inr (.inr (.inr ⟨rfl, rfl, hm, by omega⟩))) (by rw [utextV, if_neg]; rintro ⟨_, _, _, h⟩; rw [List.length_drop] at h; omega)
      · exact fin _ _ hv hR (.inr (.inr (.inl ⟨rfl, rfl, by omega⟩))) (by rw [utextV, if_neg]; rintro ⟨_, _, h, _⟩; exact hm h)
  · have hR := getR_out s k 2 (by omega)
    cases bad with
    | true => exact fin _ _ (by omega) hR (.inl rfl) (by rw [utextV, if_neg]; rintro ⟨h, _⟩; cases h)
    | false =>
      obtain rfl := hl rfl
      exact fin _ _ (by omega) hR (.inr (.inl ⟨rfl, rfl⟩)) (by rw [utextV, if_neg]; rintro ⟨_, h, _⟩; rw [List.length_drop] at h; omega)
set_option maxHeartbeats 400000 in
theorem vend_any (b : Nat) (l : List UInt8) (bad : Bool) (w : World) (hp : VIs b l bad w) :
    Calls Tryd.prog 41 #[.pointer (some ⟨b, 0, none⟩)] w fun e w' => e = .returned (.int .i64 (endA l bad)) ∧ ∃ m, w' = w.drewN m := by
  obtain ⟨s, k, hu, hsz, hk, hl⟩ := hp
  have c0 := hu.cell0
  have c1 := hu.cell1
  have c2 := hu.cell2
  have hlen : s.data.toList.length = s.size := by simp
  cases bad with
  | true =>
    have H := Lib.hid (show endA l true = 11 by simp [endA])
    clear hu hl hlen
    go_enter Tryd.func41, Tryd.ntmps41
    go_wp2
    go_quiet (fail)
    go_wp2
    go_ret
    exact ⟨ret_int H.out.symm, _, rfl⟩
  | false =>
    obtain rfl := hl rfl
    by_cases h0 : k = s.size
    · have H := Lib.hid (show endA (s.data.toList.drop k) false = 0 by rw [endA, if_neg]; simp only [reduceCtorEq, false_or, Decidable.not_not]; exact List.eq_nil_of_length_eq_zero (by rw [List.length_drop]; omega))
      have hd : ((k : Int) == (s.size : Int)) = true := by rw [beq_iff_eq]; omega
      have hd2 : ((k : Int) != (s.size : Int)) = false := by rw [bne_eq_false_iff_eq]; omega
      clear hu hl hlen h0
      go_enter Tryd.func41, Tryd.ntmps41
      go_wp2
      go_quiet (fail)
      go_wp2
      go_ret
      exact ⟨ret_int H.out.symm, _, rfl⟩
    · have H := Lib.hid (show endA (s.data.toList.drop k) false = 11 by rw [endA, if_pos]; right; intro h; have := congrArg List.length h; rw [List.length_drop] at this; simp at this; omega)
      have hd : ((k : Int) == (s.size : Int)) = false := by rw [beq_eq_false_iff_ne]; omega
      have hd2 : ((k : Int) != (s.size : Int)) = true := by rw [bne_iff_ne]; omega
      clear hu hl hlen h0
      go_enter Tryd.func41, Tryd.ntmps41
      go_wp2
      go_quiet (fail)
      go_wp2
      go_ret
      exact ⟨ret_int H.out.symm, _, rfl⟩
end Go.Proofs.YtlffcilgmockmaaDoor.PackW

namespace Go.Proofs.YtlffcilgmockmaaDoor.PackW
open Go.RowKit
set_option maxRecDepth 100000
theorem UIs.of {b : Nat} {s : ByteArray} {w : World} (h : UAt b s false w) (hs : s.size ≤ 140737488355328) : UIs b s.data.toList false w := ⟨s, h, hs, fun _ => rfl⟩
end Go.Proofs.YtlffcilgmockmaaDoor.PackW

namespace Go.Proofs.YtlffcilgmockmaaDoor.PackW
open Go.RowKit
set_option maxRecDepth 100000
open ShiftW (putS)
theorem PkAt.keepOnly {B b : Nat} {l : List UInt8} {sp : Bool} {w w' : World} {x : Nat} {c : Array Value} {t : TypeId} {m : Nat × Nat} (h : PkAt B b l sp w) (k : Only x w w') (hx : w.heap[x]? = some (.cells c t m)) (ht : t ≠ 5) (hne : b ≠ x) : PkAt B b l sp w' := by
  obtain ⟨hB, p, v, hp, hbk, hown, hnb⟩ := h
  refine ⟨hB, p, v, hp, k.heap hbk hne, k.keepRow hown ?_, hnb⟩
  rcases hown.2 with ⟨rfl, _⟩ | ⟨g, cap, cur, rfl, _, hg, _⟩
  · simp [Value.ownBlock]
  · intro h
    simp only [Value.ownBlock, Option.some.injEq] at h
    subst h
    rw [hg] at hx
    injection hx with h5
    injection h5 with _ h6 _
    exact ht h6.symm
/-- the reference's Packer in block b: what was packed is l, where it is not bad; N: no longer than this -/
def RIs (b : Nat) (l : List UInt8) (bad : Bool) (N : Nat) (w : World) : Prop := ∃ s : ByteArray, RAt b s bad w ∧ s.size ≤ N ∧ (bad = false → s.data.toList = l)
theorem RIs.keepFr {B x b : Nat} {l : List UInt8} {bad : Bool} {N : Nat} {w w' : World} (h : RIs b l bad N w) (k : Fr B x w w') (hne : b ≠ x) : RIs b l bad N w' := by
  obtain ⟨s, h1, h2⟩ := h
  exact ⟨s, k.far _ _ _ _ hne (by decide) h1, h2⟩
theorem RIs.keep {b : Nat} {l : List UInt8} {bad : Bool} {N : Nat} {w w' : World} (h : RIs b l bad N w) (k : Below w.heap.size w w') : RIs b l bad N w' := by
  obtain ⟨s, h1, h2⟩ := h
  exact ⟨s, h1.keep k, h2⟩
theorem RIs.heap {b : Nat} {l : List UInt8} {bad : Bool} {N : Nat} {w : World} (h : RIs b l bad N w) : ∃ c, w.heap[b]? = some (.cells c 78 (0, 0)) := by
  obtain ⟨s, h1, h2⟩ := h
  exact ⟨_, h1⟩
theorem PkAt.keepRef {B b x : Nat} {l l' : List UInt8} {sp bad : Bool} {N : Nat} {w w' : World} (h : PkAt B b l sp w) (hr : RIs x l' bad N w) (k : Only x w w') (hne : b ≠ x) : PkAt B b l sp w' := by
  obtain ⟨c, hx⟩ := hr.heap
  exact h.keepOnly k hx (by decide) hne
theorem rnum_is (b : Nat) (l : List UInt8) (bad : Bool) (N : Nat) (v n : Int) (hv : v < 9223372036854775808) (w : World) (hp : RIs b l bad N w) (hN : N + 8 ≤ 140737488355328) :
    Calls Tryd.prog 25 #[.pointer (some ⟨b, 0, none⟩), .int .i64 v, .int .i64 n] w fun e w' => e = .returned (.tuple #[]) ∧ RIs b (numL l v n) (numB bad v n) (N + 8) w' ∧ Only b w w' := by
  obtain ⟨s, h1, h2, h3⟩ := hp
  by_cases h : May v n
  · rw [numL, numB, if_pos h, if_pos h]
    obtain ⟨hs, h0, hlt⟩ := h
    obtain ⟨x, rfl⟩ := Int.eq_ofNat_of_zero_le h0
    obtain ⟨m, rfl⟩ := Int.eq_ofNat_of_zero_le (show 0 ≤ n by unfold Sized at hs; omega)
    have h5 : x < 2 ^ (8 * m) := by
      have e : ((2 : Int) ^ (8 * m)) = ((2 ^ (8 * m) : Nat) : Int) := by rw [Int.natCast_pow]; rfl
      rw [Int.toNat_natCast, e] at hlt; omega
    have hm : m ≤ 8 := by unfold Sized at hs; omega
    refine (rnum_yes b s bad x m (by unfold Sized at hs; omega) h5 (by omega) w h1 (by omega)).mono ?_
    rintro e w' ⟨rfl, h6, h7⟩
    refine ⟨rfl, ⟨_, h6, ?_, fun hb => ?_⟩, h7⟩
    · rw [ByteArray.size_append, (putS_bytes x m hm).2]; omega
    · rw [ByteArray.data_append, Array.toList_append, (putS_bytes x m hm).1, h3 hb]; simp
  · rw [numL, numB, if_neg h, if_neg h]
    refine (rnum_no b s bad v n h hv w h1).mono ?_
    rintro e w' ⟨rfl, h6, h7⟩
    exact ⟨rfl, ⟨s, h6, by omega, fun h => by cases h⟩, h7⟩
theorem rtext_is (b : Nat) (l : List UInt8) (bad : Bool) (N : Nat) (t : ByteArray) (w : World) (hp : RIs b l bad N w) (hN : N + 65537 ≤ 140737488355328) :
    Calls Tryd.prog 26 #[.pointer (some ⟨b, 0, none⟩), .string t] w fun e w' => e = .returned (.tuple #[]) ∧ RIs b (textL l t.data.toList) (textB bad t.data.toList) (N + (t.size + 2)) w' ∧ Only b w w' := by
  obtain ⟨s, h1, h2, h3⟩ := hp
  have hsz : t.data.toList.length = t.size := by simp
  have hp2 : (putS t.size 2).data.toList = ShiftP.putN t.size 2 ∧ (putS t.size 2).size = 2 := putS_bytes t.size 2 (by omega)
  by_cases h : t.size < 65536
  · rw [textL, textB, hsz, if_pos h, if_pos h]
    refine (rtext_yes b s bad t (by omega) w h1 (by omega)).mono ?_
    rintro e w' ⟨rfl, h6, h7⟩
    refine ⟨rfl, ⟨_, h6, ?_, fun hb => ?_⟩, h7⟩
    · rw [ByteArray.size_append, ByteArray.size_append, hp2.2]; omega
    · rw [ByteArray.data_append, Array.toList_append, ByteArray.data_append, Array.toList_append, hp2.1, h3 hb, List.append_assoc]
  · rw [textL, textB, hsz, if_neg h, if_neg h]
    refine (rtext_no b s bad t (by omega) w h1).mono ?_
    rintro e w' ⟨rfl, h6, h7⟩
    exact ⟨rfl, ⟨s, h6, by omega, fun h => by cases h⟩, h7⟩
theorem rdone_is (b : Nat) (l : List UInt8) (bad : Bool) (N : Nat) (w : World) (hp : RIs b l bad N w) (hN : N ≤ 140737488355328) :
    Calls Tryd.prog 27 #[.pointer (some ⟨b, 0, none⟩)] w fun e w' => e = .returned (.tuple #[.string (doneS l bad), .int .i64 (doneE l bad)]) ∧ w = w' := by
  obtain ⟨s, h1, h2, h3⟩ := hp
  refine (rdone_any b s bad w h1 (by omega)).mono ?_
  rintro e w' ⟨rfl, rfl⟩
  refine ⟨?_, rfl⟩
  cases bad with
  | true => simp [doneS, doneE]
  | false => rw [h3 rfl]
/-- the fields packed: the bytes, and whether it is spoilt -/
def pkL (f : Nat → Fd) : Nat → List UInt8
  | 0 => []
  | k + 1 => if (f k).size = 0 then textL (pkL f k) (f k).s.data.toList else numL (pkL f k) (f k).v (f k).size
def pkB (f : Nat → Fd) : Nat → Bool
  | 0 => false
  | k + 1 => if (f k).size = 0 then textB (pkB f k) (f k).s.data.toList else numB (pkB f k) (f k).v (f k).size
theorem pkL_le (f : Nat → Fd) : ∀ k, (pkL f k).length ≤ sumF f k + 8 * k
  | 0 => by simp [pkL]
  | k + 1 => by
    have ih := pkL_le f k
    have hsz : (f k).s.data.toList.length = (f k).s.size := by simp
    unfold pkL sumF
    split
    · unfold textL
      split
      · simp only [List.length_append, ShiftP.putN_length, hsz]; omega
      · simp only [List.length_append, hsz]; omega
    · unfold numL
      split
      · rename_i h
        have : (f k).size.toNat ≤ 8 := by have := h.1; unfold Sized at this; omega
        simp only [List.length_append, ShiftP.putN_length]; omega
      · omega
theorem FdAt.below {B : Nat} {oa : Option Addr} {n : Nat} {f : Nat → Fd} {w w' : World} (h : FdAt B oa n f w) (hb : Below B w w') : FdAt B oa n f w' := by
  intro i hi
  obtain ⟨a, h1, h2, h3, h4, h5⟩ := h i hi
  have hbk : ∀ j, (a.add j).block < B := fun j => by unfold Addr.add; split <;> exact h2
  exact ⟨a, h1, h2, (hb.cell (hbk _)).trans h3, (hb.cell (p := ⟨_, _, none⟩) (hbk (i * 3))).trans h4, (hb.cell (p := ⟨_, _, none⟩) (hbk (i * 3))).trans h5⟩
end Go.Proofs.YtlffcilgmockmaaDoor.PackW

namespace Go.Proofs.YtlffcilgmockmaaDoor.PackW
open Go.RowKit
set_option maxRecDepth 100000
/-- both Packers, over the same fields -/
structure Two (w : World) (b1 b2 : Nat) (l : List UInt8) (sp : Bool) (N : Nat) (wr : World) : Prop where
  pk : PkAt w.heap.size b1 l sp wr
  rf : RIs b2 l sp N wr
  low : Below w.heap.size w wr
  ne : b1 ≠ b2
  le : w.heap.size ≤ b2
  len : l.length ≤ N
  far : N ≤ 400000
/-- behind the program's step -/
structure Mid (w : World) (b1 b2 : Nat) (l l' : List UInt8) (sp sp' : Bool) (N : Nat) (wr : World) : Prop where
  pk : PkAt w.heap.size b1 l' sp' wr
  rf : RIs b2 l sp N wr
  low : Below w.heap.size w wr
  ne : b1 ≠ b2
  le : w.heap.size ≤ b2
  far : N ≤ 400000
theorem Two.drew {w wr : World} {b1 b2 : Nat} {l : List UInt8} {sp : Bool} {N : Nat} (h : Two w b1 b2 l sp N wr) : Two w b1 b2 l sp N wr.drew := by
  obtain ⟨h1, h2, h3, h4, h5, h6, h7⟩ := h
  exact ⟨h1.drew, h2.keep (below_refl wr).drew, h3.drew, h4, h5, h6, h7⟩
theorem Mid.drew {w wr : World} {b1 b2 : Nat} {l l' : List UInt8} {sp sp' : Bool} {N : Nat} (h : Mid w b1 b2 l l' sp sp' N wr) : Mid w b1 b2 l l' sp sp' N wr.drew := by
  obtain ⟨h1, h2, h3, h4, h5, h7⟩ := h
  exact ⟨h1.drew, h2.keep (below_refl wr).drew, h3.drew, h4, h5, h7⟩
theorem two_num1 {w wr : World} {b1 b2 : Nat} {l : List UInt8} {sp : Bool} {N : Nat} (h : Two w b1 b2 l sp N wr) (v n : Int) (hv : v < 9223372036854775808) :
    Calls Tryd.prog 21 #[.pointer (some ⟨b1, 0, none⟩), .int .i64 v, .int .i64 n] wr fun e w' => e = .returned (.tuple #[]) ∧ Mid w b1 b2 l (numL l v n) sp (numB sp v n) N w' := by
  refine (num_any _ _ _ _ v n hv _ h.pk (by have := h.len; have := h.far; omega) h.low.size).mono ?_
  rintro e w' ⟨rfl, h1, h2⟩
  exact ⟨rfl, h1, h.rf.keepFr h2 h.ne.symm, h.low.trans h2.below, h.ne, h.le, h.far⟩
theorem two_num2 {w wr : World} {b1 b2 : Nat} {l : List UInt8} {sp : Bool} {N : Nat} (v n : Int) (h : Mid w b1 b2 l (numL l v n) sp (numB sp v n) N wr) (hv : v < 9223372036854775808) (hN : N + 8 ≤ 400000) (hl : (numL l v n).length ≤ N + 8) :
    Calls Tryd.prog 25 #[.pointer (some ⟨b2, 0, none⟩), .int .i64 v, .int .i64 n] wr fun e w' => e = .returned (.tuple #[]) ∧ Two w b1 b2 (numL l v n) (numB sp v n) (N + 8) w' := by
  refine (rnum_is _ _ _ _ v n hv _ h.rf (by omega)).mono ?_
  rintro e w' ⟨rfl, h1, h2⟩
  exact ⟨rfl, h.pk.keepRef h.rf h2 h.ne, h1, h.low.trans (h2.below h.le h.low.size), h.ne, h.le, hl, hN⟩
theorem two_text1 {w wr : World} {b1 b2 : Nat} {l : List UInt8} {sp : Bool} {N : Nat} (h : Two w b1 b2 l sp N wr) (s : ByteArray) (hs : s.size ≤ 70000) :
    Calls Tryd.prog 44 #[.pointer (some ⟨b1, 0, none⟩), .string s] wr fun e w' => e = .returned (.tuple #[]) ∧ Mid w b1 b2 l (textL l s.data.toList) sp (textB sp s.data.toList) N w' := by
  refine (text_any _ _ _ _ s _ h.pk (by have := h.len; have := h.far; omega) h.low.size).mono ?_
  rintro e w' ⟨rfl, h1, h2⟩
  exact ⟨rfl, h1, h.rf.keepFr h2 h.ne.symm, h.low.trans h2.below, h.ne, h.le, h.far⟩
theorem two_text2 {w wr : World} {b1 b2 : Nat} {l : List UInt8} {sp : Bool} {N : Nat} (s : ByteArray) (h : Mid w b1 b2 l (textL l s.data.toList) sp (textB sp s.data.toList) N wr) (hN : N + (s.size + 8) ≤ 400000) (hl : (textL l s.data.toList).length ≤ N + (s.size + 8)) :
    Calls Tryd.prog 26 #[.pointer (some ⟨b2, 0, none⟩), .string s] wr fun e w' => e = .returned (.tuple #[]) ∧ Two w b1 b2 (textL l s.data.toList) (textB sp s.data.toList) (N + (s.size + 8)) w' := by
  refine (rtext_is _ _ _ _ s _ h.rf (by have := h.far; omega)).mono ?_
  rintro e w' ⟨rfl, ⟨x, h1, h3, h4⟩, h2⟩
  exact ⟨rfl, h.pk.keepRef h.rf h2 h.ne, ⟨x, h1, by omega, h4⟩, h.low.trans (h2.below h.le h.low.size), h.ne, h.le, hl, hN⟩
theorem num_len (l : List UInt8) (v n : Int) (N : Nat) (h : l.length ≤ N) : (numL l v n).length ≤ N + 8 := by
  unfold numL
  split
  · rename_i h
    have : n.toNat ≤ 8 := by have := h.1; unfold Sized at this; omega
    simp only [List.length_append, ShiftP.putN_length]; omega
  · omega
theorem text_len (l : List UInt8) (s : ByteArray) (N : Nat) (h : l.length ≤ N) : (textL l s.data.toList).length ≤ N + (s.size + 8) := by
  have hsz : s.data.toList.length = s.size := by simp
  unfold textL
  split
  · simp only [List.length_append, ShiftP.putN_length, hsz]; omega
  · simp only [List.length_append, hsz]; omega
/-- at the head of a round -/
def Head (w : World) (b1 b2 : Nat) (f : Nat → Fd) (k : Nat) (wr : World) : Prop := Two w b1 b2 (pkL f k) (pkB f k) (sumF f k + 8 * k) wr
theorem head_num {w wr : World} {b1 b2 : Nat} {f : Nat → Fd} {k : Nat} (h0 : (f k).size ≠ 0) (h : Two w b1 b2 (numL (pkL f k) (f k).v (f k).size) (numB (pkB f k) (f k).v (f k).size) (sumF f k + 8 * k + 8) wr) (hs : sumF f (k + 1) + 8 * (k + 1) ≤ 400000) : Head w b1 b2 f (k + 1) wr := by
  unfold Head
  rw [pkL, pkB, if_neg h0, if_neg h0]
  have hle : sumF f k + 8 * k + 8 ≤ sumF f (k + 1) + 8 * (k + 1) := by rw [sumF]; omega
  obtain ⟨h1, ⟨x, h2, h3, h4⟩, h5, h6, h7, h8, h9⟩ := h
  exact ⟨h1, ⟨x, h2, by omega, h4⟩, h5, h6, h7, by omega, hs⟩
theorem head_text {w wr : World} {b1 b2 : Nat} {f : Nat → Fd} {k : Nat} (h0 : (f k).size = 0) (h : Two w b1 b2 (textL (pkL f k) (f k).s.data.toList) (textB (pkB f k) (f k).s.data.toList) (sumF f k + 8 * k + ((f k).s.size + 8)) wr) : Head w b1 b2 f (k + 1) wr := by
  unfold Head
  rw [pkL, pkB, if_pos h0, if_pos h0]
  have hle : sumF f k + 8 * k + ((f k).s.size + 8) = sumF f (k + 1) + 8 * (k + 1) := by rw [sumF]; omega
  rw [← hle]; exact h
end Go.Proofs.YtlffcilgmockmaaDoor.PackW

namespace Go.Proofs.YtlffcilgmockmaaDoor.PackW
open Go.RowKit
set_option maxRecDepth 100000
theorem UIs.any {b : Nat} {l : List UInt8} {w : World} (h : UIs b l true w) (l' : List UInt8) : UIs b l' true w := by
  obtain ⟨s, h1, h2, _⟩ := h
  exact ⟨s, h1, h2, fun h => by cases h⟩
theorem VIs.any {b : Nat} {l : List UInt8} {w : World} (h : VIs b l true w) (l' : List UInt8) : VIs b l' true w := by
  obtain ⟨s, k, h1, h2, h3, _⟩ := h
  exact ⟨s, k, h1, h2, h3, fun h => by cases h⟩
theorem UIs.keepOnly {b x : Nat} {l : List UInt8} {sp : Bool} {w w' : World} (h : UIs b l sp w) (k : Only x w w') (hne : b ≠ x) : UIs b l sp w' := by
  obtain ⟨s, h1, h2⟩ := h
  exact ⟨s, k.heap h1 hne, h2⟩
theorem VIs.keepOnly {b x : Nat} {l : List UInt8} {sp : Bool} {w w' : World} (h : VIs b l sp w) (k : Only x w w') (hne : b ≠ x) : VIs b l sp w' := by
  obtain ⟨s, j, h1, h2⟩ := h
  exact ⟨s, j, k.heap h1 hne, h2⟩
/-- what is left behind a text -/
def textR (l : List UInt8) : List UInt8 := (l.drop 2).drop (ShiftP.getN (l.take 2))
theorem utext_is (b : Nat) (l : List UInt8) (sp : Bool) (most : Int) (w : World) (hp : UIs b l sp w) :
    Calls Tryd.prog 65 #[.pointer (some ⟨b, 0, none⟩), .int .i64 most] w fun e w' => e = .returned (.string (textA l sp most)) ∧ UIs b (textR l) (textG l sp most) w' ∧ Only b w w' := by
  refine (utext_any b l sp most w hp).mono ?_
  rintro e w' ⟨rfl, ⟨l', h1, h2⟩, h3, h4⟩
  refine ⟨rfl, ?_, h3⟩
  cases hg : textG l sp most with
  | true => rw [hg] at h1; exact h1.any _
  | false => rw [hg] at h1 h2; rw [textR, ← h2 rfl]; exact h1
theorem vtext_is (b : Nat) (l : List UInt8) (sp : Bool) (most : Int) (w : World) (hp : VIs b l sp w) :
    Calls Tryd.prog 40 #[.pointer (some ⟨b, 0, none⟩), .int .i64 most] w fun e w' => e = .returned (.string (textA l sp most)) ∧ VIs b (textR l) (textG l sp most) w' ∧ Only b w w' := by
  refine (vtextI_any b l sp most w hp).mono ?_
  rintro e w' ⟨rfl, ⟨l', h1, h2⟩, h3, h4⟩
  refine ⟨rfl, ?_, h3⟩
  cases hg : textG l sp most with
  | true => rw [hg] at h1; exact h1.any _
  | false => rw [hg] at h1 h2; rw [textR, ← h2 rfl]; exact h1
/-- both Unpackers, ahead of what may differ -/
structure TwoU (w : World) (b1 b2 : Nat) (l1 l2 : List UInt8) (s1 s2 : Bool) (wr : World) : Prop where
  u : UIs b1 l1 s1 wr
  v : VIs b2 l2 s2 wr
  low : Below w.heap.size w wr
  ne : b1 ≠ b2
  le1 : w.heap.size ≤ b1
  le2 : w.heap.size ≤ b2
theorem TwoU.drewN {w wr : World} {b1 b2 : Nat} {l1 l2 : List UInt8} {s1 s2 : Bool} (h : TwoU w b1 b2 l1 l2 s1 s2 wr) (n : Nat) : TwoU w b1 b2 l1 l2 s1 s2 (wr.drewN n) :=
  ⟨h.u.keep (below_drawn wr n), h.v.keep (below_drawn wr n), below_drewN h.low n, h.ne, h.le1, h.le2⟩
theorem TwoU.drew {w wr : World} {b1 b2 : Nat} {l1 l2 : List UInt8} {s1 s2 : Bool} (h : TwoU w b1 b2 l1 l2 s1 s2 wr) : TwoU w b1 b2 l1 l2 s1 s2 wr.drew :=
  ⟨h.u.keep (below_refl wr).drew, h.v.keep (below_refl wr).drew, h.low.drew, h.ne, h.le1, h.le2⟩
theorem TwoU.stepU {w wr w' : World} {b1 b2 : Nat} {l1 l2 l' : List UInt8} {s1 s2 s' : Bool} (h : TwoU w b1 b2 l1 l2 s1 s2 wr) (hu : UIs b1 l' s' w') (k : Only b1 wr w') : TwoU w b1 b2 l' l2 s' s2 w' :=
  ⟨hu, h.v.keepOnly k h.ne.symm, h.low.trans (k.below h.le1 h.low.size), h.ne, h.le1, h.le2⟩
theorem TwoU.stepV {w wr w' : World} {b1 b2 : Nat} {l1 l2 l' : List UInt8} {s1 s2 s' : Bool} (h : TwoU w b1 b2 l1 l2 s1 s2 wr) (hv : VIs b2 l' s' w') (k : Only b2 wr w') : TwoU w b1 b2 l1 l' s1 s' w' :=
  ⟨h.u.keepOnly k h.ne, hv, h.low.trans (k.below h.le2 h.low.size), h.ne, h.le1, h.le2⟩
theorem tu_text1 {w wr : World} {b1 b2 : Nat} {l : List UInt8} {sp : Bool} (most : Int) (h : TwoU w b1 b2 l l sp sp wr) :
    Calls Tryd.prog 65 #[.pointer (some ⟨b1, 0, none⟩), .int .i64 most] wr fun e w' => e = .returned (.string (textA l sp most)) ∧ TwoU w b1 b2 (textR l) l (textG l sp most) sp w' :=
  (utext_is b1 l sp most wr h.u).mono fun _ _ ⟨h1, h2, h3⟩ => ⟨h1, h.stepU h2 h3⟩
theorem tu_text2 {w wr : World} {b1 b2 : Nat} {l : List UInt8} {sp : Bool} (most : Int) (h : TwoU w b1 b2 (textR l) l (textG l sp most) sp wr) :
    Calls Tryd.prog 40 #[.pointer (some ⟨b2, 0, none⟩), .int .i64 most] wr fun e w' => e = .returned (.string (textA l sp most)) ∧ TwoU w b1 b2 (textR l) (textR l) (textG l sp most) (textG l sp most) w' :=
  (vtext_is b2 l sp most wr h.v).mono fun _ _ ⟨h1, h2, h3⟩ => ⟨h1, h.stepV h2 h3⟩
theorem tu_num1 {w wr : World} {b1 b2 : Nat} {l : List UInt8} {sp : Bool} (n : Int) (h : TwoU w b1 b2 l l sp sp wr) :
    Calls Tryd.prog 35 #[.pointer (some ⟨b1, 0, none⟩), .int .i64 n] wr fun e w' => e = .returned (.int .i64 (numA l sp n)) ∧ TwoU w b1 b2 (l.drop n.toNat) l (numG l sp n) sp w' :=
  (unum_any b1 l sp n wr h.u).mono fun _ _ ⟨h1, h2, h3, _⟩ => ⟨h1, h.stepU h2 h3⟩
theorem tu_num2 {w wr : World} {b1 b2 : Nat} {l : List UInt8} {sp : Bool} (n : Int) (h : TwoU w b1 b2 (l.drop n.toNat) l (numG l sp n) sp wr) :
    Calls Tryd.prog 39 #[.pointer (some ⟨b2, 0, none⟩), .int .i64 n] wr fun e w' => e = .returned (.int .i64 (numA l sp n)) ∧ TwoU w b1 b2 (l.drop n.toNat) (l.drop n.toNat) (numG l sp n) (numG l sp n) w' :=
  (vnum_any b2 l sp n wr h.v).mono fun _ _ ⟨h1, h2, h3, _⟩ => ⟨h1, h.stepV h2 h3⟩
/-- a slice of ints -/
def IsAt (B : Nat) (oa : Option Addr) (n : Nat) (f : Nat → Int) (w : World) : Prop :=
  ∀ i, i < n → ∃ a, oa = some a ∧ a.block < B ∧ w.cell? (a.add i) = some (.int .i64 (f i))
theorem IsAt.below {B : Nat} {oa : Option Addr} {n : Nat} {f : Nat → Int} {w w' : World} (h : IsAt B oa n f w) (hb : Below B w w') : IsAt B oa n f w' := by
  intro i hi
  obtain ⟨a, h1, h2, h3⟩ := h i hi
  exact ⟨a, h1, h2, (hb.cell (by unfold Addr.add; split <;> exact h2)).trans h3⟩
def Stay (w : World) (b1 b2 : Nat) (wr : World) : Prop := ∃ l sp, TwoU w b1 b2 l l sp sp wr
end Go.Proofs.YtlffcilgmockmaaDoor.PackW
