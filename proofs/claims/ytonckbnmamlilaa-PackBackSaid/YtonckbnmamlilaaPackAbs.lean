/- Both Packers over the fields packed so far; what each leaves alone. -/
import Derived.Test.YtonckbnmamlilaaPackWakes
namespace Go.Proofs.Ytonckbnmamlilaa.PackW
open Go.RowKit
open ShiftW (putS)
theorem PkAt.keepOnly {B b : Nat} {l : List UInt8} {sp : Bool} {w w' : World} {x : Nat} {c : Array Value} {t : TypeId} {m : Nat × Nat} (h : PkAt B b l sp w) (k : Only x w w') (hx : w.heap[x]? = some (.cells c t m)) (ht : t ≠ 5) (hne : b ≠ x) : PkAt B b l sp w' := by
  obtain ⟨hB, p, v, hp, hbk, hown, hnb⟩ := h
  refine ⟨hB, p, v, hp, k.heap hbk hne, k.keepRow hown ?_, hnb⟩
  rcases hown.2 with ⟨rfl, _⟩ | ⟨g, cap, cur, rfl, _, hg, _⟩
  · simp [Value.ownBlock]
  · intro h
    simp only [Value.ownBlock, Option.some.injEq] at h
    subst h
    rw [hg] at hx
    injection hx with h5
    injection h5 with _ h6 _
    exact ht h6.symm
/-- the reference's Packer in block b: what was packed is l, where it is not bad; N: no longer than this -/
def RIs (b : Nat) (l : List UInt8) (bad : Bool) (N : Nat) (w : World) : Prop := ∃ s : ByteArray, RAt b s bad w ∧ s.size ≤ N ∧ (bad = false → s.data.toList = l)
theorem RIs.keepFr {B x b : Nat} {l : List UInt8} {bad : Bool} {N : Nat} {w w' : World} (h : RIs b l bad N w) (k : Fr B x w w') (hne : b ≠ x) : RIs b l bad N w' := by
  obtain ⟨s, h1, h2⟩ := h
  exact ⟨s, k.far _ _ _ _ hne (by decide) h1, h2⟩
theorem RIs.keep {b : Nat} {l : List UInt8} {bad : Bool} {N : Nat} {w w' : World} (h : RIs b l bad N w) (k : Below w.heap.size w w') : RIs b l bad N w' := by
  obtain ⟨s, h1, h2⟩ := h
  exact ⟨s, h1.keep k, h2⟩
theorem RIs.heap {b : Nat} {l : List UInt8} {bad : Bool} {N : Nat} {w : World} (h : RIs b l bad N w) : ∃ c, w.heap[b]? = some (.cells c 57 (0, 0)) := by
  obtain ⟨s, h1, h2⟩ := h
  exact ⟨_, h1⟩
theorem PkAt.keepRef {B b x : Nat} {l l' : List UInt8} {sp bad : Bool} {N : Nat} {w w' : World} (h : PkAt B b l sp w) (hr : RIs x l' bad N w) (k : Only x w w') (hne : b ≠ x) : PkAt B b l sp w' := by
  obtain ⟨c, hx⟩ := hr.heap
  exact h.keepOnly k hx (by decide) hne
theorem rnum_is (b : Nat) (l : List UInt8) (bad : Bool) (N : Nat) (v n : Int) (hv : v < 9223372036854775808) (w : World) (hp : RIs b l bad N w) (hN : N + 8 ≤ 140737488355328) :
    Calls Try.prog 14 #[.pointer (some ⟨b, 0, none⟩), .int .i64 v, .int .i64 n] w fun e w' => e = .returned (.tuple #[]) ∧ RIs b (numL l v n) (numB bad v n) (N + 8) w' ∧ Only b w w' := by
  obtain ⟨s, h1, h2, h3⟩ := hp
  by_cases h : May v n
  · rw [numL, numB, if_pos h, if_pos h]
    obtain ⟨hs, h0, hlt⟩ := h
    obtain ⟨x, rfl⟩ := Int.eq_ofNat_of_zero_le h0
    obtain ⟨m, rfl⟩ := Int.eq_ofNat_of_zero_le (show 0 ≤ n by unfold Sized at hs; omega)
    have h5 : x < 2 ^ (8 * m) := by
      have e : ((2 : Int) ^ (8 * m)) = ((2 ^ (8 * m) : Nat) : Int) := by rw [Int.natCast_pow]; rfl
      rw [Int.toNat_natCast, e] at hlt; omega
    have hm : m ≤ 8 := by unfold Sized at hs; omega
    refine (rnum_yes b s bad x m (by unfold Sized at hs; omega) h5 (by omega) w h1 (by omega)).mono ?_
    rintro e w' ⟨rfl, h6, h7⟩
    refine ⟨rfl, ⟨_, h6, ?_, fun hb => ?_⟩, h7⟩
    · rw [ByteArray.size_append, (putS_bytes x m hm).2]; omega
    · rw [ByteArray.data_append, Array.toList_append, (putS_bytes x m hm).1, h3 hb]; simp
  · rw [numL, numB, if_neg h, if_neg h]
    refine (rnum_no b s bad v n h hv w h1).mono ?_
    rintro e w' ⟨rfl, h6, h7⟩
    exact ⟨rfl, ⟨s, h6, by omega, fun h => by cases h⟩, h7⟩
theorem rtext_is (b : Nat) (l : List UInt8) (bad : Bool) (N : Nat) (t : ByteArray) (w : World) (hp : RIs b l bad N w) (hN : N + 65537 ≤ 140737488355328) :
    Calls Try.prog 12 #[.pointer (some ⟨b, 0, none⟩), .string t] w fun e w' => e = .returned (.tuple #[]) ∧ RIs b (textL l t.data.toList) (textB bad t.data.toList) (N + (t.size + 2)) w' ∧ Only b w w' := by
  obtain ⟨s, h1, h2, h3⟩ := hp
  have hsz : t.data.toList.length = t.size := by simp
  have hp2 : (putS t.size 2).data.toList = ShiftP.putN t.size 2 ∧ (putS t.size 2).size = 2 := putS_bytes t.size 2 (by omega)
  by_cases h : t.size < 65536
  · rw [textL, textB, hsz, if_pos h, if_pos h]
    refine (rtext_yes b s bad t (by omega) w h1 (by omega)).mono ?_
    rintro e w' ⟨rfl, h6, h7⟩
    refine ⟨rfl, ⟨_, h6, ?_, fun hb => ?_⟩, h7⟩
    · rw [ByteArray.size_append, ByteArray.size_append, hp2.2]; omega
    · rw [ByteArray.data_append, Array.toList_append, ByteArray.data_append, Array.toList_append, hp2.1, h3 hb, List.append_assoc]
  · rw [textL, textB, hsz, if_neg h, if_neg h]
    refine (rtext_no b s bad t (by omega) w h1).mono ?_
    rintro e w' ⟨rfl, h6, h7⟩
    exact ⟨rfl, ⟨s, h6, by omega, fun h => by cases h⟩, h7⟩
theorem rdone_is (b : Nat) (l : List UInt8) (bad : Bool) (N : Nat) (w : World) (hp : RIs b l bad N w) (hN : N ≤ 140737488355328) :
    Calls Try.prog 16 #[.pointer (some ⟨b, 0, none⟩)] w fun e w' => e = .returned (.tuple #[.string (doneS l bad), .int .i64 (doneE l bad)]) ∧ w = w' := by
  obtain ⟨s, h1, h2, h3⟩ := hp
  refine (rdone_any b s bad w h1 (by omega)).mono ?_
  rintro e w' ⟨rfl, rfl⟩
  refine ⟨?_, rfl⟩
  cases bad with
  | true => simp [doneS, doneE]
  | false => rw [h3 rfl]
/-- the fields packed: the bytes, and whether it is spoilt -/
def pkL (f : Nat → Fd) : Nat → List UInt8
  | 0 => []
  | k + 1 => if (f k).size = 0 then textL (pkL f k) (f k).s.data.toList else numL (pkL f k) (f k).v (f k).size
def pkB (f : Nat → Fd) : Nat → Bool
  | 0 => false
  | k + 1 => if (f k).size = 0 then textB (pkB f k) (f k).s.data.toList else numB (pkB f k) (f k).v (f k).size
theorem pkL_le (f : Nat → Fd) : ∀ k, (pkL f k).length ≤ sumF f k + 8 * k
  | 0 => by simp [pkL]
  | k + 1 => by
    have ih := pkL_le f k
    have hsz : (f k).s.data.toList.length = (f k).s.size := by simp
    unfold pkL sumF
    split
    · unfold textL
      split
      · simp only [List.length_append, ShiftP.putN_length, hsz]; omega
      · simp only [List.length_append, hsz]; omega
    · unfold numL
      split
      · rename_i h
        have : (f k).size.toNat ≤ 8 := by have := h.1; unfold Sized at this; omega
        simp only [List.length_append, ShiftP.putN_length]; omega
      · omega
theorem FdAt.below {B : Nat} {oa : Option Addr} {n : Nat} {f : Nat → Fd} {w w' : World} (h : FdAt B oa n f w) (hb : Below B w w') : FdAt B oa n f w' := by
  intro i hi
  obtain ⟨a, h1, h2, h3, h4, h5⟩ := h i hi
  have hbk : ∀ j, (a.add j).block < B := fun j => by unfold Addr.add; split <;> exact h2
  exact ⟨a, h1, h2, (hb.cell (hbk _)).trans h3, (hb.cell (p := ⟨_, _, none⟩) (hbk (i * 3))).trans h4, (hb.cell (p := ⟨_, _, none⟩) (hbk (i * 3))).trans h5⟩
end Go.Proofs.Ytonckbnmamlilaa.PackW
