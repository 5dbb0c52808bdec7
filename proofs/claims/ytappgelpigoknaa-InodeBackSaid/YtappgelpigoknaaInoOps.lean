/- What the table's functions do, plainly. -/
import Derived.Test.YtappgelpigoknaaInoPlain
import Derived.Test.YtappgelpigoknaaExtCutW
import Derived.Test.YtappgelpigoknaaExtPut
namespace Go.Proofs.Ytappgelpigoknaa.InoP
open ExtW (Pt endL One putE putL cutL cutS joinL overL fewE fewL endS)
/-- an inode set anew; it goes, if it may and nothing holds it -/
def keepL (L : List Ino) (x : Ino) (may : Bool) : List Ino := if may = true ∧ x.l + x.o = 0 then del L x.i else upd L x
def makeE (L : List Ino) (next kind : Int) : Int := if kind = 1 ∨ kind = 2 then if 64 ≤ L.length ∨ 2147483647 ≤ next then 67 else 0 else 1
def makeL (L : List Ino) (next kind : Int) : List Ino := if makeE L next kind = 0 then L ++ [⟨next, kind, 0, 0, 0, []⟩] else L
def makeN (L : List Ino) (next kind : Int) : Int := if makeE L next kind = 0 then next + 1 else next
def makeI (L : List Ino) (next kind : Int) : Int := if makeE L next kind = 0 then next else 0
def linkE (L : List Ino) (i by_ : Int) : Int :=
  match find L i with
  | none => 60
  | some x => if (by_ = 1 ∨ by_ = -1) ∧ i ≠ 1 then if x.l + by_ < 0 ∨ 8 < x.l + by_ then 66 else 0 else 1
def linkL (L : List Ino) (i by_ : Int) : List Ino :=
  match find L i with
  | none => L
  | some x => if linkE L i by_ = 0 then keepL L { x with l := x.l + by_ } (decide (by_ < 0)) else L
def openE (L : List Ino) (i by_ : Int) : Int :=
  match find L i with
  | none => 60
  | some x => if by_ = 1 ∨ by_ = -1 then if x.k = 1 then 63 else if x.o + by_ < 0 ∨ 128 < x.o + by_ then 3 else 0 else 1
def openL (L : List Ino) (i by_ : Int) : List Ino :=
  match find L i with
  | none => L
  | some x => if openE L i by_ = 0 then keepL L { x with o := x.o + by_ } (decide (by_ < 0)) else L
def spaceE (e : Int) : Int := if e = 3 then 67 else e
/-- a file's inode, or what is wrong -/
def fileE (L : List Ino) (i : Int) : Int := match find L i with | none => 60 | some x => if x.k = 1 then 63 else 0
def mayW (off n : Int) : Bool := decide (0 ≤ off ∧ 1 ≤ n ∧ n ≤ 1024 ∧ off ≤ 8192 - n)
def writeE (L : List Ino) (i off n a : Int) : Int :=
  match find L i with
  | none => 60
  | some x => if x.k = 1 then 63 else if mayW off n then spaceE (putE x.p ⟨off, n, a, 0⟩) else 67
def writeX (x : Ino) (off n a : Int) : Ino := { x with p := putL x.p ⟨off, n, a, 0⟩, s := max x.s (off + n) }
def writeL (L : List Ino) (i off n a : Int) : List Ino :=
  match find L i with
  | none => L
  | some x => if writeE L i off n a = 0 then upd L (writeX x off n a) else L
def truncE (L : List Ino) (i s : Int) : Int := match find L i with | none => 60 | some x => if x.k = 1 then 63 else if s < 0 ∨ 8192 < s then 67 else 0
def truncX (x : Ino) (s : Int) : Ino := { x with p := cutL x.p s, s := s }
def truncL (L : List Ino) (i s : Int) : List Ino :=
  match find L i with
  | none => L
  | some x => if truncE L i s = 0 then upd L (truncX x s) else L
theorem space_ok {e : Int} : spaceE e = 0 ↔ e = 0 := by unfold spaceE; split <;> omega
theorem put_fine {l : List Pt} {x : Pt} (hg : ExtW.Good l) (h : putE l x = 0) : One x ∧ ExtW.Good (putL l x) ∧ putL l x = joinL (overL l x) := by
  unfold putE at h
  rw [if_pos hg] at h
  by_cases ho : One x
  · rw [if_pos ho] at h
    have hl : ¬ (joinL (overL l x)).length > 64 := fun c => by
      unfold fewE at h; rw [if_pos c] at h; cases h
    have e : putL l x = joinL (overL l x) := by
      unfold putL; rw [if_pos hg, if_pos ho]; unfold fewL; rw [if_neg hl]
    obtain ⟨_, _, c, _⟩ := ExtW.join_fine (ExtW.over_sorted hg ho) (ExtW.over_ones hg ho)
    refine ⟨ho, ?_, e⟩
    rw [e]
    exact ⟨by omega, c⟩
  · rw [if_neg ho] at h; cases h
theorem end_look : ∀ {lo : Int} {l : List Pt} {hi : Int}, ExtW.Sorted lo l hi → l ≠ [] → ExtW.look l (endL l - 1) ≠ none
  | _, [], _, _, h => absurd rfl h
  | _, [x], _, h, _ => by
    have h2 := h.2.1
    show ExtW.look [x] (x.o + x.n - 1) ≠ none
    rw [ExtW.look, if_pos (by omega)]; simp
  | _, x :: y :: l, _, h, _ => by
    have ih := end_look (l := y :: l) h.2.2 (by simp)
    have e : endL (x :: y :: l) = endL (y :: l) := by unfold endL; rw [List.getLast?_cons_cons]
    rw [e, ExtW.look]
    split
    · simp
    · exact ih
theorem sorted_end : ∀ {lo : Int} {l : List Pt} {hi : Int}, ExtW.Sorted lo l hi → l ≠ [] → ExtW.Sorted lo l (endL l)
  | _, [], _, _, h => absurd rfl h
  | _, [x], _, h, _ => ⟨h.1, h.2.1, Int.le_refl _⟩
  | _, x :: y :: l, _, h, _ => by
    have ih := sorted_end (l := y :: l) h.2.2 (by simp)
    have e : endL (x :: y :: l) = endL (y :: l) := by unfold endL; rw [List.getLast?_cons_cons]
    rw [e]
    exact ⟨h.1, h.2.1, ih⟩
theorem look_end {lo : Int} {l : List Pt} {hi : Int} (h : ExtW.Sorted lo l hi) {i : Int} (hi : endL l ≤ i) : ExtW.look l i = none := by
  by_cases c : l = []
  · subst c; rfl
  · exact ExtW.look_high (sorted_end h c) i hi
theorem end_of_look {lo : Int} {l : List Pt} {hi s : Int} (h : ExtW.Sorted lo l hi) (h0 : 0 ≤ s) (hl : ∀ i, s ≤ i → ExtW.look l i = none) : endL l ≤ s := by
  by_cases c : l = []
  · subst c; exact h0
  · by_cases d : endL l ≤ s
    · exact d
    · exact absurd (hl _ (by omega)) (end_look h c)
theorem put_end {l : List Pt} {x : Pt} {s : Int} (hg : ExtW.Good l) (h : putE l x = 0) (hs : endL l ≤ s) (h0 : 0 ≤ s) : endL (putL l x) ≤ max s (x.o + x.n) := by
  obtain ⟨ho, hg2, e⟩ := put_fine hg h
  refine end_of_look (ExtW.good_sorted hg2) (by omega) fun i hi => ?_
  rw [e, (ExtW.join_fine (ExtW.over_sorted hg ho) (ExtW.over_ones hg ho)).2.2.2 i, ExtW.look_over l x i ho.small.2.1, if_neg (by omega)]
  exact look_end (ExtW.good_sorted hg) (by omega)
theorem cut_end {l : List Pt} {s : Int} (hg : ExtW.Good l) (h0 : 0 ≤ s) : endL (cutL l s) ≤ s := by
  by_cases c : cutL l s = []
  · rw [c]; exact h0
  · exact ExtW.end_le (ExtW.cut_sorted (ExtW.good_sorted hg) s h0) c
theorem cut_none : ∀ {lo : Int} {l : List Pt} {hi s : Int}, ExtW.Sorted lo l hi → s ≤ lo → cutL l s = []
  | _, [], _, _, _, _ => rfl
  | _, x :: l, _, s, h, k => by
    have h1 := h.1
    have h2 := h.2.1
    rw [cutL, if_neg (by omega)]
    exact cut_none h.2.2 (by omega)
/-- one put over all: at most two parts more -/
theorem split_len : ∀ {lo : Int} {l : List Pt} {hi a b : Int}, ExtW.Sorted lo l hi → a ≤ b → (cutL l a).length + (ExtW.behL l b).length ≤ l.length + 1
  | _, [], _, _, _, _, _ => by simp [cutL, ExtW.behL]
  | _, x :: l, _, a, b, h, k => by
    have h1 := h.1
    have h2 := h.2.1
    have ih := split_len (a := a) (b := b) h.2.2 k
    by_cases c : x.o < a
    · by_cases d : max 0 (b - x.o) < x.n
      · have e : cutL l a = [] := cut_none h.2.2 (by omega)
        rw [cutL, if_pos c, ExtW.behL, if_pos d, e]
        have := ExtW.beh_len l b
        simp; omega
      · rw [cutL, if_pos c, ExtW.behL, if_neg d]
        simp; omega
    · rw [cutL, if_neg c]
      by_cases d : max 0 (b - x.o) < x.n
      · rw [ExtW.behL, if_pos d]; simp; omega
      · rw [ExtW.behL, if_neg d]; simp; omega
theorem put_few {l : List Pt} {x : Pt} (hg : ExtW.Good l) (ho : One x) (hl : l.length + 2 ≤ 64) : putE l x = 0 ∧ (putL l x).length ≤ l.length + 2 := by
  have h1 := split_len (a := x.o) (b := x.o + x.n) (ExtW.good_sorted hg) (by have := ho.small; omega)
  have h2 : (overL l x).length ≤ l.length + 2 := by unfold overL; simp; omega
  have h3 := ExtW.join_len (overL l x)
  have e : putE l x = 0 := by
    unfold putE; rw [if_pos hg, if_pos ho]; unfold fewE; rw [if_neg (by omega)]
  refine ⟨e, ?_⟩
  rw [(put_fine hg e).2.2]; omega
theorem writeX_good {x : Ino} (h : IGood x) {off n a : Int} (hk : x.k ≠ 1) (hw : mayW off n = true) (he : putE x.p ⟨off, n, a, 0⟩ = 0) : IGood (writeX x off n a) := by
  have hm := of_decide_eq_true hw
  have h2 := put_fine h.p he
  have hs := h.s
  exact ⟨h.kind, h.l, h.o, by show 0 ≤ max x.s (off + n) ∧ max x.s (off + n) ≤ 8192; omega, h2.2.1, put_end h.p he h.e hs.1, fun e => absurd e hk⟩
theorem truncX_good {x : Ino} (h : IGood x) {s : Int} (hk : x.k ≠ 1) (hs : 0 ≤ s ∧ s ≤ 8192) : IGood (truncX x s) :=
  ⟨h.kind, h.l, h.o, hs, ExtW.cut_good h.p s, cut_end h.p hs.1, fun e => absurd e hk⟩
theorem TGood.keep {L : List Ino} {next : Int} (h : TGood L next) {x y : Ino} (hf : find L x.i = some y) (hx : IGood x) (may : Bool) : TGood (keepL L x may) next := by
  unfold keepL
  split
  · exact h.del _
  · exact h.upd hf hx
theorem upd_id {L : List Ino} (h : Rises L) {x : Ino} (hf : find L x.i = some x) : upd L x = L := by
  unfold upd
  refine (List.map_congr_left fun a ha => ?_).trans (List.map_id L)
  by_cases e : a.i = x.i
  · rw [if_pos e]
    have := find_of_mem h ha
    rw [e, hf] at this
    injection this with this
  · rw [if_neg e]; rfl
end Go.Proofs.Ytappgelpigoknaa.InoP
