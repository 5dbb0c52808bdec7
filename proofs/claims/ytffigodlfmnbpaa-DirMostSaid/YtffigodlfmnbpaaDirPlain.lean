/- Entries of directories as a list, sorted by directory and name: plain laws. -/
import Derived.Test.YtffigodlfmnbpaaSl
import Derived.Lib.Strings
namespace Go.Proofs.Ytffigodlfmnbpaa.DirP
/-- an entry: directory, name, inode -/
structure En where
  d : Int
  s : ByteArray
  i : Int
deriving DecidableEq
instance : Inhabited En := ⟨⟨0, ByteArray.empty, 0⟩⟩
def En.key (a : En) : Int × ByteArray := (a.d, a.s)
def mkE (x : Int × ByteArray) (i : Int) : En := ⟨x.1, x.2, i⟩
theorem bl_irr : ∀ l : List UInt8, Op.bytesLess l l = false
  | [] => rfl
  | a :: l => by simp [Op.bytesLess, bl_irr l]
theorem bl_trans : ∀ x y z : List UInt8, Op.bytesLess x y = true → Op.bytesLess y z = true → Op.bytesLess x z = true
  | _, [], _, h, _ => by simp [Op.bytesLess] at h
  | _, _ :: _, [], _, h => by simp [Op.bytesLess] at h
  | [], _ :: _, _ :: _, _, _ => rfl
  | a :: x, b :: y, c :: z, h1, h2 => by
    simp only [Op.bytesLess, Bool.or_eq_true, decide_eq_true_eq, Bool.and_eq_true, beq_iff_eq, UInt8.lt_iff_toNat_lt] at *
    rcases h1 with h1 | ⟨rfl, h1⟩ <;> rcases h2 with h2 | ⟨rfl, h2⟩
    · exact .inl (by omega)
    · exact .inl h1
    · exact .inl h2
    · exact .inr ⟨rfl, bl_trans x y z h1 h2⟩
theorem bl_or : ∀ x y : List UInt8, Op.bytesLess x y = true ∨ x = y ∨ Op.bytesLess y x = true
  | [], [] => .inr (.inl rfl)
  | [], _ :: _ => .inl rfl
  | _ :: _, [] => .inr (.inr rfl)
  | a :: x, b :: y => by
    rcases bl_or x y with h | h | h
    · by_cases e : a = b
      · subst e; exact .inl (by simp [Op.bytesLess, h])
      · rcases Nat.lt_or_gt_of_ne (fun h => e (UInt8.toNat_inj.1 h)) with h1 | h1
        · exact .inl (by simp [Op.bytesLess, UInt8.lt_iff_toNat_lt, h1])
        · exact .inr (.inr (by simp [Op.bytesLess, UInt8.lt_iff_toNat_lt, h1]))
    · by_cases e : a = b
      · subst e; subst h; exact .inr (.inl rfl)
      · rcases Nat.lt_or_gt_of_ne (fun h => e (UInt8.toNat_inj.1 h)) with h1 | h1
        · exact .inl (by simp [Op.bytesLess, UInt8.lt_iff_toNat_lt, h1])
        · exact .inr (.inr (by simp [Op.bytesLess, UInt8.lt_iff_toNat_lt, h1]))
    · by_cases e : a = b
      · subst e; exact .inr (.inr (by simp [Op.bytesLess, h]))
      · rcases Nat.lt_or_gt_of_ne (fun h => e (UInt8.toNat_inj.1 h)) with h1 | h1
        · exact .inl (by simp [Op.bytesLess, UInt8.lt_iff_toNat_lt, h1])
        · exact .inr (.inr (by simp [Op.bytesLess, UInt8.lt_iff_toNat_lt, h1]))
/-- is a text ahead of another? -/
def lsB (s t : ByteArray) : Bool := Op.bytesLess s.toList t.toList
theorem str_eq {s t : ByteArray} (h : s.toList = t.toList) : s = t := by
  rw [Lib.toList_data, Lib.toList_data] at h
  cases s; cases t
  congr 1
  exact Array.toList_inj.1 h
theorem ls_irr (s : ByteArray) : lsB s s = false := bl_irr _
theorem ls_trans {s t u : ByteArray} (h : lsB s t = true) (k : lsB t u = true) : lsB s u = true := bl_trans _ _ _ h k
theorem ls_or (s t : ByteArray) : lsB s t = true ∨ s = t ∨ lsB t s = true := by
  rcases bl_or s.toList t.toList with h | h | h
  · exact .inl h
  · exact .inr (.inl (str_eq h))
  · exact .inr (.inr h)
theorem ls_asymm {s t : ByteArray} (h : lsB s t = true) : lsB t s = false := by
  cases k : lsB t s with
  | false => rfl
  | true => have := ls_trans h k; rw [ls_irr] at this; cases this
def kl (x y : Int × ByteArray) : Prop := x.1 < y.1 ∨ (x.1 = y.1 ∧ lsB x.2 y.2 = true)
instance (x y : Int × ByteArray) : Decidable (kl x y) := by unfold kl; infer_instance
theorem dLin : Sl.Lin kl where
  irr x := by unfold kl; rw [ls_irr]; simp
  trans x y z h k := by
    unfold kl at *
    rcases h with h | ⟨h, h'⟩ <;> rcases k with k | ⟨k, k'⟩
    · exact .inl (by omega)
    · exact .inl (by omega)
    · exact .inl (by omega)
    · exact .inr ⟨by omega, ls_trans h' k'⟩
  or x y := by
    unfold kl
    obtain ⟨a, s⟩ := x; obtain ⟨b, t⟩ := y
    simp only
    rcases Int.lt_trichotomy a b with h | h | h
    · exact .inl (.inl h)
    · subst h
      rcases ls_or s t with h | h | h
      · exact .inl (.inr ⟨rfl, h⟩)
      · subst h; exact .inr (.inl rfl)
      · exact .inr (.inr (.inr ⟨rfl, h⟩))
    · exact .inr (.inr (.inl h))
theorem dKV : Sl.KV En.key En.i mkE := ⟨fun _ _ => rfl, fun _ _ => rfl, fun _ => rfl⟩
abbrev Rises (L : List En) : Prop := Sl.Rises En.key kl L
def lk (L : List En) (x : Int × ByteArray) : Option Int := Sl.look En.key En.i L x
def ins (L : List En) (a : En) : List En := Sl.ins En.key kl L a
def del (L : List En) (x : Int × ByteArray) : List En := Sl.del En.key L x
def low (L : List En) (x : Int × ByteArray) : List En := Sl.low En.key kl L x
theorem lk_none (L : List En) (x : Int × ByteArray) : lk L x = none ↔ ∀ a ∈ L, a.key ≠ x := Sl.look_none x
theorem lk_iff {L : List En} (h : Rises L) (x : Int × ByteArray) (i : Int) : lk L x = some i ↔ (⟨x.1, x.2, i⟩ : En) ∈ L := Sl.look_iff dLin dKV h x i
theorem lk_ins {L : List En} (h : Rises L) {a : En} (hn : lk L a.key = none) : lk (ins L a) = fun z => if z = a.key then some a.i else lk L z := Sl.look_ins dLin dKV h ((lk_none L _).1 hn)
theorem lk_del {L : List En} (h : Rises L) (x : Int × ByteArray) : lk (del L x) = fun z => if z = x then none else lk L z := Sl.look_del dLin dKV h x
/-- how many a directory has -/
def cnt (L : List En) (d : Int) : Nat := L.countP fun a => decide (a.d = d)
theorem cnt_ins (L : List En) (a : En) (d : Int) : cnt (ins L a) d = cnt L d + if a.d = d then 1 else 0 := by
  have h : cnt (Sl.low En.key kl L a.key ++ Sl.high En.key kl L a.key) d = cnt L d := by rw [Sl.low_high]
  rw [← h]
  unfold ins Sl.ins cnt
  simp only [List.countP_append, List.countP_cons, decide_eq_true_eq]
  omega
theorem del_at {L : List En} (h : Rises L) {k : Nat} {a : En} (hk : L[k]? = some a) : del L a.key = L.take k ++ L.drop (k + 1) := Sl.del_place dLin h hk
theorem cnt_del {L : List En} (hL : Rises L) {x : Int × ByteArray} {i : Int} (h : lk L x = some i) (d : Int) : cnt (del L x) d + (if x.1 = d then 1 else 0) = cnt L d := by
  have hm := (lk_iff hL x i).1 h
  obtain ⟨k, hk, hx⟩ := List.getElem_of_mem hm
  have h1 := del_at hL (k := k) (a := ⟨x.1, x.2, i⟩) (by rw [List.getElem?_eq_getElem hk, hx])
  rw [show (⟨x.1, x.2, i⟩ : En).key = x from rfl] at h1
  have h2 : L = L.take k ++ (⟨x.1, x.2, i⟩ : En) :: L.drop (k + 1) := by
    rw [← hx, List.getElem_cons_drop, List.take_append_drop]
  have h3 : cnt L d = cnt (L.take k ++ (⟨x.1, x.2, i⟩ : En) :: L.drop (k + 1)) d := congrArg (fun l => cnt l d) h2
  rw [h1, h3]
  unfold cnt
  simp only [List.countP_append, List.countP_cons, decide_eq_true_eq]
  omega
theorem del_none {L : List En} {x : Int × ByteArray} (h : lk L x = none) : del L x = L := by
  unfold del Sl.del
  refine List.filter_eq_self.2 fun a ha => ?_
  have := (lk_none L x).1 h a ha
  simp [this]
theorem del_len (L : List En) (x : Int × ByteArray) : (del L x).length ≤ L.length := List.length_filter_le _ _
theorem ins_len (L : List En) (a : En) : (ins L a).length = L.length + 1 := Sl.ins_length L a
end Go.Proofs.Ytffigodlfmnbpaa.DirP
