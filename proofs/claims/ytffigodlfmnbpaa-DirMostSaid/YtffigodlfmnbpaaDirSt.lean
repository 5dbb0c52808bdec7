/- Names in memory: what they are; New, Find, Count, Drop, Add. -/
import Derived.Test.YtffigodlfmnbpaaDirMap
import Derived.Test.YtffigodlfmnbpaaHeld
import Derived.Test.YtffigodlfmnbpaaAppend
import Derived.Test.YtffigodlfmnbpaaRowAt
import Derived.Test.YtffigodlfmnbpaaPathName
namespace Go.Proofs.Ytffigodlfmnbpaa.DirW
open Go.RowKit DirP
open PathW (nameB)
structure DGood (L : List En) : Prop where
  rises : Rises L
  fits : ∀ a ∈ L, nameB a.s.data.toList = true ∧ 1 ≤ a.d ∧ a.d ≤ 2147483647 ∧ 1 ≤ a.i ∧ a.i ≤ 2147483647
  few : ∀ d, cnt L d ≤ 64
theorem dgood_nil : DGood [] := ⟨List.Pairwise.nil, by simp, fun d => by simp [cnt]⟩
/-- names in block nb, their maps in blocks b and c -/
structure DIs (w : World) (nb b c : Nat) (L : List En) : Prop where
  head : w.heap[nb]? = some (.cells #[.map (some b), .map (some c)] 58 (0, 0))
  map : ∃ n, DeIs w b n (lk L)
  cnts : ∃ n g, CoIs w c n g ∧ ∀ d, (g d).getD 0 = cnt L d
  good : DGood L
  bc : b ≠ c
theorem DIs.lt {w : World} {nb b c : Nat} {L : List En} (h : DIs w nb b c L) : nb < w.heap.size ∧ b < w.heap.size ∧ c < w.heap.size := by
  obtain ⟨n, hm⟩ := h.map
  obtain ⟨n', g, hc, _⟩ := h.cnts
  exact ⟨lt_of_block h.head, MapIs.lt hm, MapIs.lt hc⟩
theorem DIs.ne {w : World} {nb b c : Nat} {L : List En} (h : DIs w nb b c L) : nb ≠ b ∧ nb ≠ c := by
  obtain ⟨n, es, cl, hm, _⟩ := h.map
  obtain ⟨n', g, ⟨es', cl', hc, _⟩, _⟩ := h.cnts
  refine ⟨?_, ?_⟩
  · rintro rfl; rw [h.head] at hm; cases hm
  · rintro rfl; rw [h.head] at hc; cases hc
theorem DIs.grow {w w' : World} {nb b c : Nat} {L : List En} (h : DIs w nb b c L) (k : Below w.heap.size w w') : DIs w' nb b c L :=
  ⟨(k.block nb h.lt.1).trans h.head, by obtain ⟨n, hm⟩ := h.map; exact ⟨n, MapIs.keep hm k⟩, by obtain ⟨n, g, hm, hg⟩ := h.cnts; exact ⟨n, g, MapIs.keep hm k, hg⟩, h.good, h.bc⟩
theorem DIs.only {w w' : World} {nb b c x : Nat} {L : List En} (h : DIs w nb b c L) (k : Only x w w') (h1 : nb ≠ x) (h2 : b ≠ x) (h3 : c ≠ x) : DIs w' nb b c L :=
  ⟨Only.heap k h.head h1, by obtain ⟨n, hm⟩ := h.map; exact ⟨n, MapIs.only hm k h2⟩, by obtain ⟨n, g, hm, hg⟩ := h.cnts; exact ⟨n, g, MapIs.only hm k h3, hg⟩, h.good, h.bc⟩
theorem DIs.m0 {w : World} {nb b c : Nat} {L : List En} (h : DIs w nb b c L) : w.cell? ⟨nb, 0, none⟩ = some (.map (some b)) ∧ w.cell? ⟨nb, 1, none⟩ = some (.map (some c)) :=
  ⟨(new_cells h.head 0 (by simp)).1, (new_cells h.head 1 (by simp)).1⟩
/-- two blocks have turned, and what is new -/
structure Only2 (b c : Nat) (w w' : World) : Prop where
  os : w'.os = w.os
  tape : w'.tape = w.tape
  output : w'.output = w.output
  size : w.heap.size ≤ w'.heap.size
  block : ∀ k, k < w.heap.size → k ≠ b → k ≠ c → w'.heap[k]? = w.heap[k]?
theorem Only2.refl (b c : Nat) (w : World) : Only2 b c w w := ⟨rfl, rfl, rfl, Nat.le_refl _, fun _ _ _ _ => rfl⟩
theorem Only2.left {b c : Nat} {w w' : World} (h : Only b w w') : Only2 b c w w' := ⟨h.os, h.tape, h.output, h.size, fun k hk h1 _ => h.block k hk (fun e => h1 (by injection e))⟩
theorem Only2.right {b c : Nat} {w w' : World} (h : Only c w w') : Only2 b c w w' := ⟨h.os, h.tape, h.output, h.size, fun k hk _ h1 => h.block k hk (fun e => h1 (by injection e))⟩
theorem Only2.trans {b c : Nat} {w x y : World} (h : Only2 b c w x) (k : Only2 b c x y) : Only2 b c w y :=
  ⟨k.os.trans h.os, k.tape.trans h.tape, k.output.trans h.output, Nat.le_trans h.size k.size, fun i hi h1 h2 => (k.block i (Nat.lt_of_lt_of_le hi h.size) h1 h2).trans (h.block i hi h1 h2)⟩
theorem Only2.heap {b c x : Nat} {w w' : World} {o : Obj} (h : Only2 b c w w') (hx : w.heap[x]? = some o) (h1 : x ≠ b) (h2 : x ≠ c) : w'.heap[x]? = some o := (h.block x (lt_of_block hx) h1 h2).trans hx
theorem Only2.below {b c B : Nat} {w w' : World} (h : Only2 b c w w') (hb : B ≤ b) (hc : B ≤ c) (hw : B ≤ w.heap.size) : Below B w w' :=
  ⟨h.os, h.tape, h.output, h.size, fun k hk => h.block k (Nat.lt_of_lt_of_le hk hw) (by omega) (by omega)⟩
set_option maxHeartbeats 400000 in
theorem new_any (w : World) : Calls Try.prog 7 #[] w fun e w' => e = .returned (.pointer (some ⟨w.heap.size + 2, 0, none⟩)) ∧ DIs w' (w.heap.size + 2) w.heap.size (w.heap.size + 1) [] ∧ Below w.heap.size w w' := by
  have hmm := @run_makeMap Try.prog
  have H0 : Hid (DeIs (w.alloc (.map #[] 0)) w.heap.size 0 (fun _ => none)) := Lib.hid (MapIs.made w)
  have H1 : Hid (CoIs ((w.alloc (.map #[] 0)).alloc (.map #[] 0)) (w.heap.size + 1) 0 (fun _ => none)) := Lib.hid (by
    have := MapIs.made (mk := inV) (ok := inOk) (mv := inV) (w.alloc (.map #[] 0))
    rw [show (w.alloc (.map #[] 0)).heap.size = w.heap.size + 1 by simp] at this
    exact this)
  go_enter Try.func7, Try.ntmps7
  go_wp2
  go_ret
  refine ⟨rfl, ⟨?_, ⟨0, MapIs.congr (MapIs.keep (MapIs.keep H0.out (below_alloc _ _)) (below_alloc _ _)) (by funext x; simp [lk, Sl.look])⟩, ⟨0, _, MapIs.keep H1.out (below_alloc _ _), fun d => rfl⟩, dgood_nil, by omega⟩, bstep (bstep (below_alloc w _) (below_alloc _ _)) (below_alloc _ _)⟩
  have := heap_alloc_new ((w.alloc (.map #[] 0)).alloc (.map #[] 0)) (.cells #[.map (some w.heap.size), .map (some (w.heap.size + 1))] 58)
  rw [show ((w.alloc (.map #[] 0)).alloc (.map #[] 0)).heap.size = w.heap.size + 2 by simp] at this
  exact this
def fiI (L : List En) (d : Int) (s : ByteArray) : Int := (lk L (d, s)).getD 0
def fiB (L : List En) (d : Int) (s : ByteArray) : Bool := (lk L (d, s)).isSome
set_option maxHeartbeats 400000 in
theorem find_any (nb b c : Nat) (L : List En) (d : Int) (s : ByteArray) (hok : deOk (d, s)) (w : World) (h : DIs w nb b c L) :
    Calls Try.prog 12 #[.pointer (some ⟨nb, 0, none⟩), .int .i64 d, .string s] w fun e w' => e = .returned (.tuple #[.int .i64 (fiI L d s), .bool (fiB L d s)]) ∧ w = w' := by
  obtain ⟨N, hm⟩ := h.map
  have HM := Lib.hid hm
  have HK := Lib.hid hok
  obtain ⟨h0, _⟩ := h.m0
  clear h hm hok
  cases hl : lk L (d, s) with
  | none =>
    have HG := Lib.hid hl
    have HE : Hid (fiI L d s = 0 ∧ fiB L d s = false) := Lib.hid (by unfold fiI fiB; rw [hl]; exact ⟨rfl, rfl⟩)
    clear hl
    go_enter Try.func12, Try.ntmps12
    go_wp2_with (at_lookup; go_loud (refine wpList_map_look_none _ rfl _ _ 55 3 true rfl deMK Try.underlying55 _ (inZero _) b N _ HM.out (by rfl) (d, s) HK.out (by rfl) HG.out ?_; unfold inV; simp only [if_true]))
    go_ret2
    exact ⟨by rw [HE.out.1, HE.out.2]; rfl, rfl⟩
  | some i =>
    have HG := Lib.hid hl
    have HE : Hid (fiI L d s = i ∧ fiB L d s = true) := Lib.hid (by unfold fiI fiB; rw [hl]; exact ⟨rfl, rfl⟩)
    clear hl
    go_enter Try.func12, Try.ntmps12
    go_wp2_with (at_lookup; go_loud (refine wpList_map_look_some _ rfl _ _ 55 3 true rfl deMK Try.underlying55 _ (inZero _) b N _ HM.out (by rfl) (d, s) HK.out (by rfl) i HG.out (.int .i64 i) rfl ?_; simp only [if_true]))
    go_ret2
    exact ⟨by rw [HE.out.1, HE.out.2]; rfl, rfl⟩
theorem co_get {g : Int → Option Int} {L : List En} (h : ∀ d, (g d).getD 0 = cnt L d) (d : Int) : ((g d).map inV).getD (inV 0) = .int .i64 (cnt L d : Nat) := by
  rw [← h d]
  cases g d <;> rfl
set_option maxHeartbeats 400000 in
theorem count_any (nb b c : Nat) (L : List En) (d : Int) (hok : inOk d) (w : World) (h : DIs w nb b c L) :
    Calls Try.prog 13 #[.pointer (some ⟨nb, 0, none⟩), .int .i64 d] w fun e w' => e = .returned (.int .i64 (cnt L d : Nat)) ∧ w = w' := by
  obtain ⟨N, g, hm, hg⟩ := h.cnts
  have HM := Lib.hid hm
  have HK := Lib.hid hok
  have HC := Lib.hid (co_get hg d)
  obtain ⟨_, h1⟩ := h.m0
  clear h hm hok hg
  go_enter Try.func13, Try.ntmps13
  go_wp2_with (at_lookup; go_loud (refine wpList_map_look _ rfl _ _ 56 3 false rfl inMK Try.underlying56 _ (inZero _) c N _ HM.out (by rfl) d HK.out (by rfl) ?_; simp only [Bool.false_eq_true, if_false]; rw [HC.out]))
  go_ret
  exact ⟨rfl, rfl⟩
end Go.Proofs.Ytffigodlfmnbpaa.DirW
