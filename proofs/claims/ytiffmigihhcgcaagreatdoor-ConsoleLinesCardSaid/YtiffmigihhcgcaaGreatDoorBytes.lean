/- Rows of bytes of the call's own: what a string turned into bytes, and bytes turned into a string, are. -/
import Derived.Test.YtiffmigihhcgcaaGreatDoorBase
import Derived.Lib.ConvBytes
import Derived.Laws.BytesArg
namespace Go.Proofs.YtiffmigihhcgcaaGreatDoor
open Go.RowKit
/-- block g holds, from its beginning on, n bytes that may be written -/
def BytesAt (w : World) (g n : Nat) (f : Nat → UInt8) : Prop :=
  ∀ j, j < n → w.cell? ⟨g, j, none⟩ = some (.int .u8 ((f j).toNat : Int)) ∧ w.frozen? ⟨g, j, none⟩ = false
theorem BytesAt.congr {w : World} {g n : Nat} {f f' : Nat → UInt8} (h : BytesAt w g n f) (e : ∀ j, j < n → f j = f' j) : BytesAt w g n f' := by
  intro j hj; rw [← e j hj]; exact h j hj
theorem BytesAt.below {w w' : World} {g n B : Nat} {f : Nat → UInt8} (h : BytesAt w g n f) (hb : Below B w w') (hg : g < B) : BytesAt w' g n f := by
  intro j hj
  rw [hb.cell (p := ⟨g, j, none⟩) hg, hb.frozen (p := ⟨g, j, none⟩) hg]
  exact h j hj
theorem BytesAt.drewN {w : World} {g n : Nat} {f : Nat → UInt8} (h : BytesAt w g n f) (k : Nat) : BytesAt (w.drewN k) g n f := h
theorem BytesAt.drew {w : World} {g n : Nat} {f : Nat → UInt8} (h : BytesAt w g n f) : BytesAt w.drew g n f := h
theorem BytesAt.set {w : World} {g n : Nat} {f : Nat → UInt8} (h : BytesAt w g n f) (i : Nat) (hi : i < n) (v : UInt8) :
    BytesAt (w.setCell ⟨g, i, none⟩ (.int .u8 (v.toNat : Int))) g n (fun j => if j = i then v else f j) := by
  intro j hj
  refine ⟨?_, ?_⟩
  · by_cases e : j = i
    · subst e
      rw [World.cell?_setCell_same _ _ _ (h j hj).1]; simp
    · rw [World.cell?_setCell_other _ _ _ _ (fun he => e (by injection he with _ h2; exact h2.symm))]
      simp only [if_neg e]; exact (h j hj).1
  · rw [World.frozen?_setCell]; exact (h j hj).2
theorem BytesAt.other {w : World} {g n : Nat} {f : Nat → UInt8} (h : BytesAt w g n f) {a : Addr} (ha : g ≠ a.block) (v : Value) : BytesAt (w.setCell a v) g n f := by
  intro j hj
  rw [World.cell?_setCell_other _ _ _ _ (fun he => ha (by rw [he])), World.frozen?_setCell]; exact h j hj

theorem conv_to_bytes {P : Program} (w : World) (src dst e : TypeId) (s : ByteArray) (hs : P.underlying src = some .string) (hd : P.underlying dst = some (.slice e)) (he : P.underlying e = some (.int .u8)) :
    ∃ cap w1, (convert src dst (.string s)).run P w = .ok (.slice (some ⟨w.heap.size, 0, none⟩) s.size cap) w1 ∧ BytesAt w1 w.heap.size s.size (fun j => s.data.toList.getD j 0) ∧ Below w.heap.size w w1 ∧ w.heap.size < w1.heap.size ∧ s.size ≤ cap := by
  refine ⟨_, _, run_bytes_of_string w src dst e s hs hd he, ?_, ?_, ?_, grownCap_ge _ _ _ _⟩
  · intro j hj
    refine ⟨?_, ?_⟩
    · have h := World.cell?_alloc_mark w.drew (bytesRow s (grownCap w s.size 0 e)) e ((bytesRow s (grownCap w s.size 0 e)).size, (bytesRow s (grownCap w s.size 0 e)).size + 1) j
      rw [show w.drew.heap.size = w.heap.size from rfl] at h
      rw [h, bytesRow_at _ _ _ hj]
      simp [List.getD, hj]
    · have h := World.frozen?_alloc_mark w.drew (bytesRow s (grownCap w s.size 0 e)) e (bytesRow s (grownCap w s.size 0 e)).size ((bytesRow s (grownCap w s.size 0 e)).size + 1) j
      rw [show w.drew.heap.size = w.heap.size from rfl] at h
      rw [h]
      have : s.size ≤ (bytesRow s (grownCap w s.size 0 e)).size := by simp [bytesRow]
      simp; omega
  · exact (Below.refl _ _).drew.alloc (Nat.le_refl _) _
  · simp
theorem BytesAt.of_row {w : World} {g n : Nat} {t : TypeId} {f : Nat → UInt8} (h : w.rowIs g t n (fun j => .int .u8 ((f j).toNat : Int))) : BytesAt w g n f :=
  fun j hj => ⟨h.cell hj, h.frozen j⟩
theorem make_bytes {P : Program} (w : World) (t e : TypeId) (ht : P.underlying t = some (.slice e)) (hinfo : (P.info? e).map (fun i => (i.zero, i.size, i.bytes)) = some (some (.int .u8 0), 1, 1)) (n : Nat) (hn : n ≤ 281474976710656) :
    ∃ w1, (Instr.makeSlice t (.int .i64 (n : Int)) (.int .i64 (n : Int))).run P w = .ok (.slice (some ⟨w.heap.size, 0, none⟩) n n) w1 ∧ BytesAt w1 w.heap.size n (fun _ => 0) ∧ Below w.heap.size w w1 ∧ w.heap.size < w1.heap.size := by
  refine ⟨_, run_make_row' t e _ 1 ht hinfo rfl .i64 .i64 n (by omega) (by omega) w, ?_, (Below.refl _ _).alloc (Nat.le_refl _) _, by simp⟩
  exact BytesAt.of_row (t := e) (World.rowIs_made w _ n e)
/-- the string of n bytes -/
def bytesStr (n : Nat) (f : Nat → UInt8) : ByteArray := ⟨((List.range n).map f).toArray⟩
theorem bytesStr_size (n : Nat) (f : Nat → UInt8) : (bytesStr n f).size = n := by simp [bytesStr, ByteArray.size]
theorem bytesStr_data (n : Nat) (f : Nat → UInt8) : (bytesStr n f).data.toList = (List.range n).map f := rfl
theorem conv_of_bytes {P : Program} (w : World) (src dst e : TypeId) (g n cap : Nat) (f : Nat → UInt8) (hs : P.underlying src = some (.slice e)) (he : P.underlying e = some (.int .u8)) (hd : P.underlying dst = some .string)
    (h : BytesAt w g n f) : (convert src dst (.slice (some ⟨g, 0, none⟩) n cap)).run P w = .ok (.string (bytesStr n f)) w := by
  have := run_convert_bytes_back (P := P) w src dst e ⟨g, 0, none⟩ cap ((List.range n).map f) hs he hd (fun j hj => by
    simp at hj
    have := (h j hj).1
    rw [show (⟨g, 0, none⟩ : Addr).add j = ⟨g, j, none⟩ by unfold Addr.add; split <;> simp_all]
    simpa using this)
  rw [List.length_map, List.length_range] at this
  exact this
end Go.Proofs.YtiffmigihhcgcaaGreatDoor
