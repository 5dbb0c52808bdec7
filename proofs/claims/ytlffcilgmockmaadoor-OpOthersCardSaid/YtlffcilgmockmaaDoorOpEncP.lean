/- A record's text, as fields one behind the other; plain laws on it. -/
import Derived.Test.YtlffcilgmockmaaDoorOpForms
import Derived.Test.YtlffcilgmockmaaDoorOpPack
namespace Go.Proofs.YtlffcilgmockmaaDoor.OpW
set_option maxRecDepth 100000
set_option linter.unusedSimpArgs false
open Go.RowKit OpP PackW
def pkl : List UInt8 → List PackW.Fd → List UInt8
  | l, [] => l
  | l, x :: r => pkl (if x.size = 0 then textL l x.s.data.toList else numL l x.v x.size) r
def pkb : Bool → List PackW.Fd → Bool
  | b, [] => b
  | b, x :: r => pkb (if x.size = 0 then textB b x.s.data.toList else numB b x.v x.size) r
theorem pkl_app (xs ys : List PackW.Fd) : ∀ l, pkl l (xs ++ ys) = pkl (pkl l xs) ys := by
  induction xs with
  | nil => intro l; rfl
  | cons x xs ih => intro l; rw [List.cons_append, pkl, ih, pkl]
theorem pkb_app (xs ys : List PackW.Fd) : ∀ b, pkb b (xs ++ ys) = pkb (pkb b xs) ys := by
  induction xs with
  | nil => intro l; rfl
  | cons x xs ih => intro l; rw [List.cons_append, pkb, ih, pkb]
def fdN (v n : Int) : PackW.Fd := ⟨n, v, ⟨#[]⟩⟩
def fdT (s : ByteArray) : PackW.Fd := ⟨0, 0, s⟩
theorem pkl_num (l : List UInt8) (v n : Int) (hn : n ≠ 0) : pkl l [fdN v n] = numL l v n := by rw [pkl, pkl, fdN]; exact if_neg hn
theorem pkl_text (l : List UInt8) (s : ByteArray) : pkl l [fdT s] = textL l s.data.toList := by rw [pkl, pkl, fdT]; exact if_pos rfl
theorem pkb_num (b : Bool) (v n : Int) (hn : n ≠ 0) : pkb b [fdN v n] = numB b v n := by rw [pkb, pkb, fdN]; exact if_neg hn
theorem pkb_text (b : Bool) (s : ByteArray) : pkb b [fdT s] = textB b s.data.toList := by rw [pkb, pkb, fdT]; exact if_pos rfl
def fdSz (xs : List PackW.Fd) : Nat := (xs.map fun x => x.s.size + 8).sum
theorem fdSz_app (xs ys : List PackW.Fd) : fdSz (xs ++ ys) = fdSz xs + fdSz ys := by simp [fdSz]
theorem num_len' (l : List UInt8) (v n : Int) : (numL l v n).length ≤ l.length + 8 := by
  unfold numL
  split
  · rename_i h
    have : n.toNat ≤ 8 := by have := h.1; unfold Sized at this; omega
    simp only [List.length_append, ShiftP.putN_length]; omega
  · omega
theorem text_len' (l : List UInt8) (s : ByteArray) : (textL l s.data.toList).length ≤ l.length + (s.size + 8) := by
  have hsz : s.data.toList.length = s.size := by simp
  unfold textL
  split
  · simp only [List.length_append, ShiftP.putN_length, hsz]; omega
  · simp only [List.length_append, hsz]; omega
theorem pkl_len (xs : List PackW.Fd) : ∀ l : List UInt8, (pkl l xs).length ≤ l.length + fdSz xs := by
  induction xs with
  | nil => intro l; simp [pkl, fdSz]
  | cons x xs ih =>
    intro l
    rw [pkl]
    have h1 := ih (if x.size = 0 then textL l x.s.data.toList else numL l x.v x.size)
    have h2 : fdSz (x :: xs) = x.s.size + 8 + fdSz xs := by simp [fdSz]
    rw [h2]
    split at h1
    · rename_i hz
      rw [if_pos hz]
      have := text_len' l x.s
      omega
    · rename_i hz
      rw [if_neg hz]
      have := num_len' l x.v x.size
      omega
def mvF (x : Mv) : List PackW.Fd := [fdN x.a 2, fdN x.f 2, fdN x.n 2, fdN x.t 2]
def fdsF (c : UInt8) (r : Rec) : List PackW.Fd :=
  if c = 112 then [fdT r.p] else if c = 116 then [fdT r.t] else if c = 115 then [fdN r.sz 4] else if c = 104 then [fdN r.h 4] else if c = 111 then [fdN r.o 4]
  else if c = 100 then [fdT r.d] else if c = 107 then [fdN r.tk 8] else if c = 105 then [fdN r.i 4] else if c = 109 then fdN r.m.length 1 :: r.m.flatMap mvF else []
def heads (r : Rec) : List PackW.Fd := [fdN r.k 1, fdN r.cl 1, fdN r.sq 4]
def fds (r : Rec) : List PackW.Fd := heads r ++ (fieldsOf r.k).data.toList.flatMap fun c => fdsF c r
/-- all numbers are an int64's -/
structure Wf (r : Rec) : Prop where
  k : r.k < 9223372036854775808
  cl : r.cl < 9223372036854775808
  sq : r.sq < 9223372036854775808
  sz : r.sz < 9223372036854775808
  h : r.h < 9223372036854775808
  o : r.o < 9223372036854775808
  tk : r.tk < 9223372036854775808
  i : r.i < 9223372036854775808
  m : ∀ x ∈ r.m, x.a < 9223372036854775808 ∧ x.f < 9223372036854775808 ∧ x.n < 9223372036854775808 ∧ x.t < 9223372036854775808
theorem good_parts {r : Rec} (h : goodB r = true) : headB r = true ∧ formB r = true ∧ r = only r := by
  unfold goodB at h
  simp only [Bool.and_eq_true] at h
  exact ⟨h.1.1, h.1.2, (sameB_iff _ _).1 h.2⟩
/-- a record that has a form: nothing is too great -/
theorem good_wf {r : Rec} (h : goodB r = true) : Wf r := by
  obtain ⟨h1, h2, h3⟩ := good_parts h
  have hk := formB_kind h2
  have hh : 0 ≤ r.cl ∧ r.cl ≤ 7 ∧ 1 ≤ r.sq ∧ r.sq ≤ 2147483647 := by simpa [headB] using h1
  have zsz := congrArg Rec.sz h3
  have zh := congrArg Rec.h h3
  have zo := congrArg Rec.o h3
  have ztk := congrArg Rec.tk h3
  have zi := congrArg Rec.i h3
  have zm := congrArg Rec.m h3
  clear h1 h3 h
  rcases kinds r.k hk with e | e | e | e | e | e | e | e | e | e | e | e | e | e
  · rw [form_one (r := r) (by simp [e])] at h2
    rw [only_is1 r e] at zsz zh zo ztk zi zm
    (try simp only [Bool.and_eq_true, decide_eq_true_eq] at h2)
    dsimp only at zsz zh zo ztk zi zm
    exact ⟨by omega, by omega, by omega, by omega, by omega, by omega, by omega, by omega, fun x hx => by rw [zm] at hx; simp at hx⟩
  · rw [form_one (r := r) (by simp [e])] at h2
    rw [only_is2 r e] at zsz zh zo ztk zi zm
    (try simp only [Bool.and_eq_true, decide_eq_true_eq] at h2)
    dsimp only at zsz zh zo ztk zi zm
    exact ⟨by omega, by omega, by omega, by omega, by omega, by omega, by omega, by omega, fun x hx => by rw [zm] at hx; simp at hx⟩
  · rw [form_one (r := r) (by simp [e])] at h2
    rw [only_is3 r e] at zsz zh zo ztk zi zm
    (try simp only [Bool.and_eq_true, decide_eq_true_eq] at h2)
    dsimp only at zsz zh zo ztk zi zm
    exact ⟨by omega, by omega, by omega, by omega, by omega, by omega, by omega, by omega, fun x hx => by rw [zm] at hx; simp at hx⟩
  · rw [form_both (r := r) (by simp [e])] at h2
    rw [only_is4 r e] at zsz zh zo ztk zi zm
    (try simp only [Bool.and_eq_true, decide_eq_true_eq] at h2)
    dsimp only at zsz zh zo ztk zi zm
    exact ⟨by omega, by omega, by omega, by omega, by omega, by omega, by omega, by omega, fun x hx => by rw [zm] at hx; simp at hx⟩
  · rw [form_one (r := r) (by simp [e])] at h2
    rw [only_is5 r e] at zsz zh zo ztk zi zm
    (try simp only [Bool.and_eq_true, decide_eq_true_eq] at h2)
    dsimp only at zsz zh zo ztk zi zm
    exact ⟨by omega, by omega, by omega, by omega, by omega, by omega, by omega, by omega, fun x hx => by rw [zm] at hx; simp at hx⟩
  · rw [form_both (r := r) (by simp [e])] at h2
    rw [only_is6 r e] at zsz zh zo ztk zi zm
    (try simp only [Bool.and_eq_true, decide_eq_true_eq] at h2)
    dsimp only at zsz zh zo ztk zi zm
    exact ⟨by omega, by omega, by omega, by omega, by omega, by omega, by omega, by omega, fun x hx => by rw [zm] at hx; simp at hx⟩
  · rw [form_cut e] at h2
    rw [only_is7 r e] at zsz zh zo ztk zi zm
    (try simp only [Bool.and_eq_true, decide_eq_true_eq] at h2)
    dsimp only at zsz zh zo ztk zi zm
    exact ⟨by omega, by omega, by omega, by omega, by omega, by omega, by omega, by omega, fun x hx => by rw [zm] at hx; simp at hx⟩
  · rw [form_one (r := r) (by simp [e])] at h2
    rw [only_is8 r e] at zsz zh zo ztk zi zm
    (try simp only [Bool.and_eq_true, decide_eq_true_eq] at h2)
    dsimp only at zsz zh zo ztk zi zm
    exact ⟨by omega, by omega, by omega, by omega, by omega, by omega, by omega, by omega, fun x hx => by rw [zm] at hx; simp at hx⟩
  · rw [form_close e] at h2
    rw [only_is9 r e] at zsz zh zo ztk zi zm
    (try simp only [Bool.and_eq_true, decide_eq_true_eq] at h2)
    dsimp only at zsz zh zo ztk zi zm
    exact ⟨by omega, by omega, by omega, by omega, by omega, by omega, by omega, by omega, fun x hx => by rw [zm] at hx; simp at hx⟩
  · rw [form_write e] at h2
    rw [only_is10 r e] at zsz zh zo ztk zi zm
    (try simp only [Bool.and_eq_true, decide_eq_true_eq] at h2)
    dsimp only at zsz zh zo ztk zi zm
    exact ⟨by omega, by omega, by omega, by omega, by omega, by omega, by omega, by omega, fun x hx => by rw [zm] at hx; simp at hx⟩
  · rw [form_tick (r := r) (by simp [e])] at h2
    rw [only_is11 r e] at zsz zh zo ztk zi zm
    (try simp only [Bool.and_eq_true, decide_eq_true_eq] at h2)
    dsimp only at zsz zh zo ztk zi zm
    exact ⟨by omega, by omega, by omega, by omega, by omega, by omega, by omega, by omega, fun x hx => by rw [zm] at hx; simp at hx⟩
  · rw [form_tick (r := r) (by simp [e])] at h2
    rw [only_is12 r e] at zsz zh zo ztk zi zm
    (try simp only [Bool.and_eq_true, decide_eq_true_eq] at h2)
    dsimp only at zsz zh zo ztk zi zm
    exact ⟨by omega, by omega, by omega, by omega, by omega, by omega, by omega, by omega, fun x hx => by rw [zm] at hx; simp at hx⟩
  · rw [form_move e] at h2
    rw [only_is13 r e] at zsz zh zo ztk zi zm
    (try simp only [Bool.and_eq_true, decide_eq_true_eq] at h2)
    dsimp only at zsz zh zo ztk zi zm
    refine ⟨by omega, by omega, by omega, by omega, by omega, by omega, by omega, by omega, fun x hx => ?_⟩
    have hb := List.all_eq_true.1 h2.2 x hx
    have hm : 0 ≤ x.a ∧ x.a ≤ 16383 ∧ 0 ≤ x.f ∧ x.f ≤ 1024 ∧ 1 ≤ x.n ∧ x.n ≤ 1024 ∧ 0 ≤ x.t ∧ x.t ≤ (r.d.size : Int) - x.n := by simpa [mvB] using hb
    omega
  · rw [form_image e] at h2
    rw [only_is14 r e] at zsz zh zo ztk zi zm
    (try simp only [Bool.and_eq_true, decide_eq_true_eq] at h2)
    dsimp only at zsz zh zo ztk zi zm
    exact ⟨by omega, by omega, by omega, by omega, by omega, by omega, by omega, by omega, fun x hx => by rw [zm] at hx; simp at hx⟩
end Go.Proofs.YtlffcilgmockmaaDoor.OpW
