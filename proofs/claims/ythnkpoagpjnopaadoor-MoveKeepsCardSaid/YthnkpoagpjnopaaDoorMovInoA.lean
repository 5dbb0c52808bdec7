/- Several texts in one, of what this seat needs. -/
import Derived.Test.YthnkpoagpjnopaaDoorMovInoM
import Derived.Laws.ResultCell
import Derived.Laws.Rows
import Derived.Test.YthnkpoagpjnopaaDoorRowAt
import Derived.Test.YthnkpoagpjnopaaDoorDraw
import Derived.Test.YthnkpoagpjnopaaDoorAppDraw
import Derived.Test.YthnkpoagpjnopaaDoorShelf
import Derived.Deep.DeepCutAuto
namespace Go.Proofs.YthnkpoagpjnopaaDoor.ExtW
open Go.RowKit
/-- a part boxed -/
def Box (w : World) (b : Nat) (x : Pt) : Prop := w.heap[b]? = some (.cells #[.int .i64 x.o, .int .i64 x.n, .int .i64 x.a, .int .i64 x.f] 64 (0, 0))
theorem Box.grow {w w' : World} {b : Nat} {x : Pt} (h : Box w b x) (hb : Below w.heap.size w w') : Box w' b x := (hb.block b (lt_of_block h)).trans h
theorem Box.made (w : World) (x : Pt) : Box (w.alloc (.cells #[.int .i64 x.o, .int .i64 x.n, .int .i64 x.a, .int .i64 x.f] 64)) w.heap.size x := heap_alloc_new w _
theorem Box.cells {w : World} {b : Nat} {x : Pt} (h : Box w b x) : w.cell? ⟨b, 0, none⟩ = some (.int .i64 x.o) ∧ w.cell? ⟨b, 1, none⟩ = some (.int .i64 x.n) ∧ w.cell? ⟨b, 2, none⟩ = some (.int .i64 x.a) ∧ w.cell? ⟨b, 3, none⟩ = some (.int .i64 x.f) :=
  ⟨(new_cells h 0 (by simp)).1, (new_cells h 1 (by simp)).1, (new_cells h 2 (by simp)).1, (new_cells h 3 (by simp)).1⟩
def putE (l : List Pt) (x : Pt) : Int := if Good l then if One x then fewE (joinL (overL l x)) else 1 else 11
def putL (l : List Pt) (x : Pt) : List Pt := if Good l then if One x then fewL (joinL (overL l x)) else [] else []
theorem joined_is (oa : Option Addr) (n cap : Nat) (l : List Pt) (hn : n = l.length) (hs : Sorted 0 l 8192) (ho : ∀ x ∈ l, One x) (hl : l.length ≤ 100000) (w : World) (h : PtsAt w.heap.size oa l w) :
    Calls Tryd.prog 84 #[.slice oa n cap] w fun e w' => ∃ v, e = .returned (.tuple #[v, .int .i64 (fewE (joinL l))]) ∧ Row w.heap.size w' v (fewL (joinL l)) ∧ Below w.heap.size w w' := by
  subst hn; exact joined_any oa cap l hs ho hl w h
theorem row_ne {B C : Nat} {w w1 : World} {v u : Value} {l m : List Pt} (h : Row B w v l) (hC : w.heap.size ≤ C) (k : Row C w1 u m) : u.ownBlock ≠ v.ownBlock ∨ u.ownBlock = none := by
  cases hu : u.ownBlock with
  | none => exact .inr rfl
  | some x =>
    refine .inl fun e => ?_
    have h1 := (World.ownsRow.lt k) x hu
    have h2 := (World.ownsRow.lt h) x e.symm
    omega
theorem over_row {B : Nat} {w : World} {oa : Option Addr} {n cap : Nat} {l : List Pt} {x : Pt} (hn : n = (overL l x).length)
    (h : w.ownsRow B 64 4 (.slice oa n cap) n (cellsOf (cutL l x.o) ++ (#[Value.int .i64 x.o, .int .i64 x.n, .int .i64 x.a, .int .i64 x.f] : Array Value).toList ++ cellsOf (behL l (x.o + x.n)))) : Row B w (.slice oa n cap) (overL l x) := by
  unfold Row
  rw [← hn]
  unfold overL
  rw [cells_app, cells_app, cells_one]
  exact h
theorem over_len (l : List Pt) (x : Pt) : (overL l x).length = (cutL l x.o).length + 1 + (behL l (x.o + x.n)).length := by unfold overL; simp; omega
end Go.Proofs.YthnkpoagpjnopaaDoor.ExtW

namespace Go.Proofs.YthnkpoagpjnopaaDoor.InoP
open ExtW (Pt endL One putE putL cutL cutS joinL overL fewE fewL endS)
/-- an inode set anew; it goes, if it may and nothing holds it -/
def keepL (L : List Ino) (x : Ino) (may : Bool) : List Ino := if may = true ∧ x.l + x.o = 0 then del L x.i else upd L x
def makeE (L : List Ino) (next kind : Int) : Int := if kind = 1 ∨ kind = 2 then if 64 ≤ L.length ∨ 2147483647 ≤ next then 67 else 0 else 1
def makeL (L : List Ino) (next kind : Int) : List Ino := if makeE L next kind = 0 then L ++ [⟨next, kind, 0, 0, 0, []⟩] else L
def makeN (L : List Ino) (next kind : Int) : Int := if makeE L next kind = 0 then next + 1 else next
def makeI (L : List Ino) (next kind : Int) : Int := if makeE L next kind = 0 then next else 0
def linkE (L : List Ino) (i by_ : Int) : Int :=
  match find L i with
  | none => 60
  | some x => if (by_ = 1 ∨ by_ = -1) ∧ i ≠ 1 then if x.l + by_ < 0 ∨ 8 < x.l + by_ then 66 else 0 else 1
def linkL (L : List Ino) (i by_ : Int) : List Ino :=
  match find L i with
  | none => L
  | some x => if linkE L i by_ = 0 then keepL L { x with l := x.l + by_ } (decide (by_ < 0)) else L
def openE (L : List Ino) (i by_ : Int) : Int :=
  match find L i with
  | none => 60
  | some x => if by_ = 1 ∨ by_ = -1 then if x.k = 1 then 63 else if x.o + by_ < 0 ∨ 128 < x.o + by_ then 3 else 0 else 1
def openL (L : List Ino) (i by_ : Int) : List Ino :=
  match find L i with
  | none => L
  | some x => if openE L i by_ = 0 then keepL L { x with o := x.o + by_ } (decide (by_ < 0)) else L
def spaceE (e : Int) : Int := if e = 3 then 67 else e
/-- a file's inode, or what is wrong -/
def fileE (L : List Ino) (i : Int) : Int := match find L i with | none => 60 | some x => if x.k = 1 then 63 else 0
def mayW (off n : Int) : Bool := decide (0 ≤ off ∧ 1 ≤ n ∧ n ≤ 1024 ∧ off ≤ 8192 - n)
def writeE (L : List Ino) (i off n a : Int) : Int :=
  match find L i with
  | none => 60
  | some x => if x.k = 1 then 63 else if mayW off n then spaceE (putE x.p ⟨off, n, a, 0⟩) else 67
def writeX (x : Ino) (off n a : Int) : Ino := { x with p := putL x.p ⟨off, n, a, 0⟩, s := max x.s (off + n) }
def writeL (L : List Ino) (i off n a : Int) : List Ino :=
  match find L i with
  | none => L
  | some x => if writeE L i off n a = 0 then upd L (writeX x off n a) else L
def truncE (L : List Ino) (i s : Int) : Int := match find L i with | none => 60 | some x => if x.k = 1 then 63 else if s < 0 ∨ 8192 < s then 67 else 0
def truncX (x : Ino) (s : Int) : Ino := { x with p := cutL x.p s, s := s }
def truncL (L : List Ino) (i s : Int) : List Ino :=
  match find L i with
  | none => L
  | some x => if truncE L i s = 0 then upd L (truncX x s) else L
theorem space_ok {e : Int} : spaceE e = 0 ↔ e = 0 := by unfold spaceE; split <;> omega
theorem put_fine {l : List Pt} {x : Pt} (hg : ExtW.Good l) (h : putE l x = 0) : One x ∧ ExtW.Good (putL l x) ∧ putL l x = joinL (overL l x) := by
  unfold putE at h
  rw [if_pos hg] at h
  by_cases ho : One x
  · rw [if_pos ho] at h
    have hl : ¬ (joinL (overL l x)).length > 64 := fun c => by
      unfold fewE at h; rw [if_pos c] at h; cases h
    have e : putL l x = joinL (overL l x) := by
      unfold putL; rw [if_pos hg, if_pos ho]; unfold fewL; rw [if_neg hl]
    obtain ⟨_, _, c, _⟩ := ExtW.join_fine (ExtW.over_sorted hg ho) (ExtW.over_ones hg ho)
    refine ⟨ho, ?_, e⟩
    rw [e]
    exact ⟨by omega, c⟩
  · rw [if_neg ho] at h; cases h
theorem end_look : ∀ {lo : Int} {l : List Pt} {hi : Int}, ExtW.Sorted lo l hi → l ≠ [] → ExtW.look l (endL l - 1) ≠ none
  | _, [], _, _, h => absurd rfl h
  | _, [x], _, h, _ => by
    have h2 := h.2.1
    show ExtW.look [x] (x.o + x.n - 1) ≠ none
    rw [ExtW.look, if_pos (by omega)]; simp
  | _, x :: y :: l, _, h, _ => by
    have ih := end_look (l := y :: l) h.2.2 (by simp)
    have e : endL (x :: y :: l) = endL (y :: l) := by unfold endL; rw [List.getLast?_cons_cons]
    rw [e, ExtW.look]
    split
    · simp
    · exact ih
theorem sorted_end : ∀ {lo : Int} {l : List Pt} {hi : Int}, ExtW.Sorted lo l hi → l ≠ [] → ExtW.Sorted lo l (endL l)
  | _, [], _, _, h => absurd rfl h
  | _, [x], _, h, _ => ⟨h.1, h.2.1, Int.le_refl _⟩
  | _, x :: y :: l, _, h, _ => by
    have ih := sorted_end (l := y :: l) h.2.2 (by simp)
    have e : endL (x :: y :: l) = endL (y :: l) := by unfold endL; rw [List.getLast?_cons_cons]
    rw [e]
    exact ⟨h.1, h.2.1, ih⟩
theorem look_end {lo : Int} {l : List Pt} {hi : Int} (h : ExtW.Sorted lo l hi) {i : Int} (hi : endL l ≤ i) : ExtW.look l i = none := by
  by_cases c : l = []
  · subst c; rfl
  · exact ExtW.look_high (sorted_end h c) i hi
theorem end_of_look {lo : Int} {l : List Pt} {hi s : Int} (h : ExtW.Sorted lo l hi) (h0 : 0 ≤ s) (hl : ∀ i, s ≤ i → ExtW.look l i = none) : endL l ≤ s := by
  by_cases c : l = []
  · subst c; exact h0
  · by_cases d : endL l ≤ s
    · exact d
    · exact absurd (hl _ (by omega)) (end_look h c)
theorem put_end {l : List Pt} {x : Pt} {s : Int} (hg : ExtW.Good l) (h : putE l x = 0) (hs : endL l ≤ s) (h0 : 0 ≤ s) : endL (putL l x) ≤ max s (x.o + x.n) := by
  obtain ⟨ho, hg2, e⟩ := put_fine hg h
  refine end_of_look (ExtW.good_sorted hg2) (by omega) fun i hi => ?_
  rw [e, (ExtW.join_fine (ExtW.over_sorted hg ho) (ExtW.over_ones hg ho)).2.2.2 i, ExtW.look_over l x i ho.small.2.1, if_neg (by omega)]
  exact look_end (ExtW.good_sorted hg) (by omega)
theorem cut_end {l : List Pt} {s : Int} (hg : ExtW.Good l) (h0 : 0 ≤ s) : endL (cutL l s) ≤ s := by
  by_cases c : cutL l s = []
  · rw [c]; exact h0
  · exact ExtW.end_le (ExtW.cut_sorted (ExtW.good_sorted hg) s h0) c
theorem cut_none : ∀ {lo : Int} {l : List Pt} {hi s : Int}, ExtW.Sorted lo l hi → s ≤ lo → cutL l s = []
  | _, [], _, _, _, _ => rfl
  | _, x :: l, _, s, h, k => by
    have h1 := h.1
    have h2 := h.2.1
    rw [cutL, if_neg (by omega)]
    exact cut_none h.2.2 (by omega)
/-- one put over all: at most two parts more -/
theorem split_len : ∀ {lo : Int} {l : List Pt} {hi a b : Int}, ExtW.Sorted lo l hi → a ≤ b → (cutL l a).length + (ExtW.behL l b).length ≤ l.length + 1
  | _, [], _, _, _, _, _ => by simp [cutL, ExtW.behL]
  | _, x :: l, _, a, b, h, k => by
    have h1 := h.1
    have h2 := h.2.1
    have ih := split_len (a := a) (b := b) h.2.2 k
    by_cases c : x.o < a
    · by_cases d : max 0 (b - x.o) < x.n
      · have e : cutL l a = [] := cut_none h.2.2 (by omega)
        rw [cutL, if_pos c, ExtW.behL, if_pos d, e]
        have := ExtW.beh_len l b
        simp; omega
      · rw [cutL, if_pos c, ExtW.behL, if_neg d]
        simp; omega
    · rw [cutL, if_neg c]
      by_cases d : max 0 (b - x.o) < x.n
      · rw [ExtW.behL, if_pos d]; simp; omega
      · rw [ExtW.behL, if_neg d]; simp; omega
theorem put_few {l : List Pt} {x : Pt} (hg : ExtW.Good l) (ho : One x) (hl : l.length + 2 ≤ 64) : putE l x = 0 ∧ (putL l x).length ≤ l.length + 2 := by
  have h1 := split_len (a := x.o) (b := x.o + x.n) (ExtW.good_sorted hg) (by have := ho.small; omega)
  have h2 : (overL l x).length ≤ l.length + 2 := by unfold overL; simp; omega
  have h3 := ExtW.join_len (overL l x)
  have e : putE l x = 0 := by
    unfold putE; rw [if_pos hg, if_pos ho]; unfold fewE; rw [if_neg (by omega)]
  refine ⟨e, ?_⟩
  rw [(put_fine hg e).2.2]; omega
theorem writeX_good {x : Ino} (h : IGood x) {off n a : Int} (hk : x.k ≠ 1) (hw : mayW off n = true) (he : putE x.p ⟨off, n, a, 0⟩ = 0) : IGood (writeX x off n a) := by
  have hm := of_decide_eq_true hw
  have h2 := put_fine h.p he
  have hs := h.s
  exact ⟨h.kind, h.l, h.o, by show 0 ≤ max x.s (off + n) ∧ max x.s (off + n) ≤ 8192; omega, h2.2.1, put_end h.p he h.e hs.1, fun e => absurd e hk⟩
theorem truncX_good {x : Ino} (h : IGood x) {s : Int} (hk : x.k ≠ 1) (hs : 0 ≤ s ∧ s ≤ 8192) : IGood (truncX x s) :=
  ⟨h.kind, h.l, h.o, hs, ExtW.cut_good h.p s, cut_end h.p hs.1, fun e => absurd e hk⟩
theorem TGood.keep {L : List Ino} {next : Int} (h : TGood L next) {x y : Ino} (hf : find L x.i = some y) (hx : IGood x) (may : Bool) : TGood (keepL L x may) next := by
  unfold keepL
  split
  · exact h.del _
  · exact h.upd hf hx
theorem upd_id {L : List Ino} (h : Rises L) {x : Ino} (hf : find L x.i = some x) : upd L x = L := by
  unfold upd
  refine (List.map_congr_left fun a ha => ?_).trans (List.map_id L)
  by_cases e : a.i = x.i
  · rw [if_pos e]
    have := find_of_mem h ha
    rw [e, hf] at this
    injection this with this
  · rw [if_neg e]; rfl
end Go.Proofs.YthnkpoagpjnopaaDoor.InoP

namespace Go.Proofs.YthnkpoagpjnopaaDoor.InoW
set_option maxRecDepth 100000
open Go.RowKit InoP ExtW
open Go.MapKept
variable {w : World} {tb b : Nat} {L : List Ino} {next : Int}
/-- a result that is a struct, of the call's own block, and one more -/
theorem ret_row {P : Program} {fn : Func} {R : Ending → World → Prop} {a : Act} {w : World} {p u : Tmp} {ty : TypeId} {g : Nat} {cs : Array Value} {d : TypeDesc} {t : TypeId} {fr : Nat × Nat} (hres : fn.results = #[.cell p ty, .tmp u])
    (hp : a.tmps.getD p undef = .pointer (some ⟨g, 0, none⟩)) (hd0 : a.defers = []) (hg : w.heap[g]? = some (.cells cs t fr)) (hu : P.underlying ty = some d) (hd : (match d with | .struct _ | .array _ _ => true | _ => false) = true)
    (hi : (P.info? ty).map (·.size) = some cs.size) (hR : R (.returned (.tuple #[.agg cs, a.tmps.getD u undef])) w) : bodyPost P fn R .ret a w :=
  bodyPost_ret (by rw [results_cell_tmp hres, hp]; simp [asAddr, Result.andThen, run_loadVar_row w g t ty cs fr d hg hu hd hi]) hd0 hR
theorem inoSize : (Tryd.prog.info? 86).map (·.size) = some 6 := by kernel_rfl
/-- an inode in a block of its own -/
def IBox (w : World) (b : Nat) (y : IV) : Prop := w.heap[b]? = some (.cells #[.int .i64 y.i, .int .i64 y.k, .int .i64 y.l, .int .i64 y.o, .int .i64 y.s, .slice y.oa y.n y.c] 86 (0, 0))
theorem IBox.cells {w : World} {b : Nat} {y : IV} (h : IBox w b y) : w.cell? ⟨b, 0, none⟩ = some (.int .i64 y.i) ∧ w.cell? ⟨b, 1, none⟩ = some (.int .i64 y.k) ∧ w.cell? ⟨b, 2, none⟩ = some (.int .i64 y.l) ∧ w.cell? ⟨b, 3, none⟩ = some (.int .i64 y.o) ∧ w.cell? ⟨b, 4, none⟩ = some (.int .i64 y.s) ∧ w.cell? ⟨b, 5, none⟩ = some (.slice y.oa y.n y.c) :=
  ⟨(new_cells h 0 (by simp)).1, (new_cells h 1 (by simp)).1, (new_cells h 2 (by simp)).1, (new_cells h 3 (by simp)).1, (new_cells h 4 (by simp)).1, (new_cells h 5 (by simp)).1⟩
/-- all that a walk on a table wants to know -/
structure Op (w : World) (tb b n : Nat) (g : Int → Option IV) (L : List Ino) (next : Int) : Prop where
  m : TmIs w b n g
  no : ∀ i, find L i = none → g i = none
  yes : ∀ i x, find L i = some x → ∃ y, g i = some y ∧ IRel w tb b x y
theorem TIs.op (h : TIs w tb b L next) : ∃ n g, Op w tb b n g L next := by
  obtain ⟨n, g, h1, h2, h3⟩ := h.map
  exact ⟨n, g, h1, h2, h3⟩
theorem TIs.len (h : TIs w tb b L next) (ty : TypeId) : (Builtin.len_ #[105] ty #[.map (some b)]).run Tryd.prog w = .ok (.int .i64 (L.length : Nat)) w := by
  obtain ⟨n, g, h1, h2, h3⟩ := h.map
  obtain ⟨k1, k2⟩ := keys_of h.good h2 h3
  obtain ⟨D0, _, _, _, h4⟩ := owns_keys h1 k1 k2 (by simp; have := h.good.len; omega)
  rw [h4]; simp
set_option maxHeartbeats 800000 in
theorem new_any (w : World) : Calls Tryd.prog 28 #[] w fun e w' => e = .returned (.pointer (some ⟨w.heap.size + 1, 0, none⟩)) ∧ TIs w' (w.heap.size + 1) w.heap.size [root] 2 ∧ Below w.heap.size w w' := by
  have hmm := @run_makeMap Tryd.prog
  have H0 : Hid (TmIs (w.alloc (.map #[] 0)) w.heap.size 0 (fun _ => none)) := Lib.hid (MapIs.made w)
  obtain ⟨w5, hrun, hm5, ho5, hs5⟩ := MapIs.store H0.out iMK Tryd.underlying105 1 ⟨1, 1, 1, 0, 0, none, 0, 0⟩ (iOk_of (by omega))
  have hrun' : (Instr.mapUpdate 105 (.map (some w.heap.size)) (.int .i64 1) (.agg #[.int .i64 1, .int .i64 1, .int .i64 1, .int .i64 0, .int .i64 0, .slice none 0 0])).run Tryd.prog (w.alloc (.map #[] 0)) = .ok () w5 := hrun
  have HM5 := Lib.hid hm5
  have HO5 := Lib.hid ho5
  have hs : w5.heap.size = w.heap.size + 1 := by rw [hs5]; simp
  clear hrun hm5 ho5 hs5
  go_enter Tryd.func28, Tryd.ntmps28
  go_wp2_with fail
  go_ret
  have hb0 : Below w.heap.size w w5 := (below_alloc w (.map #[] 0)).trans (HO5.out.below (Nat.le_refl _) (by simp))
  refine ⟨rfl, ⟨?_, ⟨1, _, MapIs.keep HM5.out (below_alloc _ _), fun i hi => ?_, fun i x hx => ?_⟩, root_good⟩, hb0.trans ((below_alloc w5 _).mono (by omega))⟩
  · rw [← hs]; exact heap_alloc_new w5 _
  · have := find_none.1 hi root (by simp)
    show (if i = 1 then _ else none) = none
    rw [if_neg (fun e => this e.symm)]
  · obtain ⟨hm, rfl⟩ := find_mem hx
    obtain rfl : x = root := by simpa using hm
    exact ⟨⟨1, 1, 1, 0, 0, none, 0, 0⟩, rfl, rfl, rfl, rfl, rfl, rfl, rfl, fun j z hz => by simp [root] at hz, fun a ha => by simp at ha, fun _ => ⟨rfl, rfl⟩⟩
def iz : Array Value := #[.int .i64 0, .int .i64 0, .int .i64 0, .int .i64 0, .int .i64 0, .slice none 0 0]
set_option maxHeartbeats 800000 in
theorem get_yes (n : Nat) (g : Int → Option IV) (i : Int) (hi : iOk i) (y : IV) (hy : g i = some y) (w : World) (h0 : w.cell? ⟨tb, 0, none⟩ = some (.map (some b))) (hm : TmIs w b n g) :
    Calls Tryd.prog 35 #[.pointer (some ⟨tb, 0, none⟩), .int .i64 i] w fun e w' => e = .returned (.tuple #[ivV y, .bool true]) ∧ Below w.heap.size w w' := by
  have HM := Lib.hid (MapIs.alloc hm (.cells #[.int .i64 0, .int .i64 0, .int .i64 0, .int .i64 0, .int .i64 0, .slice none 0 0] 86))
  have h1 := alloc_step (o := .cells #[.int .i64 0, .int .i64 0, .int .i64 0, .int .i64 0, .int .i64 0, .slice none 0 0] 86) h0
  have HY := Lib.hid hy
  have HI := Lib.hid hi
  clear hm hy hi h0
  go_enter Tryd.func35, Tryd.ntmps35
  go_wp2_with (at_lookup; go_loud (refine wpList_map_look_some _ rfl _ _ 105 86 true rfl iMK Tryd.underlying105 _ (ivZero _) b n g HM.out (by rfl) i HI.out (by rfl) y HY.out (.agg #[.int .i64 y.i, .int .i64 y.k, .int .i64 y.l, .int .i64 y.o, .int .i64 y.s, .slice y.oa y.n y.c]) rfl ?_; simp only [if_true]))
  refine ret_row (p := 4) (u := 5) rfl rfl rfl ((heap_alloc_old _ _ (by simp)).trans (heap_alloc_new w _)) Tryd.underlying86 rfl inoSize ?_
  exact ⟨rfl, bstep (below_alloc w _) (below_alloc _ _)⟩
set_option maxHeartbeats 800000 in
theorem get_no (n : Nat) (g : Int → Option IV) (i : Int) (hi : iOk i) (hy : g i = none) (w : World) (h0 : w.cell? ⟨tb, 0, none⟩ = some (.map (some b))) (hm : TmIs w b n g) :
    Calls Tryd.prog 35 #[.pointer (some ⟨tb, 0, none⟩), .int .i64 i] w fun e w' => e = .returned (.tuple #[.agg #[.int .i64 0, .int .i64 0, .int .i64 0, .int .i64 0, .int .i64 0, .slice none 0 0], .bool false]) ∧ Below w.heap.size w w' := by
  have HM := Lib.hid (MapIs.alloc hm (.cells #[.int .i64 0, .int .i64 0, .int .i64 0, .int .i64 0, .int .i64 0, .slice none 0 0] 86))
  have h1 := alloc_step (o := .cells #[.int .i64 0, .int .i64 0, .int .i64 0, .int .i64 0, .int .i64 0, .slice none 0 0] 86) h0
  have HY := Lib.hid hy
  have HI := Lib.hid hi
  clear hm hy hi h0
  go_enter Tryd.func35, Tryd.ntmps35
  go_wp2_with (at_lookup; go_loud (refine wpList_map_look_none _ rfl _ _ 105 86 true rfl iMK Tryd.underlying105 _ (ivZero _) b n g HM.out (by rfl) i HI.out (by rfl) HY.out ?_; unfold ivV; simp only [if_true]))
  refine ret_row (p := 4) (u := 5) rfl rfl rfl ((heap_alloc_old _ _ (by simp)).trans (heap_alloc_new w _)) Tryd.underlying86 rfl inoSize ?_
  exact ⟨rfl, bstep (below_alloc w _) (below_alloc _ _)⟩
theorem TIs.set {w' : World} (h : TIs w tb b L next) {n' : Nat} {g' : Int → Option IV} {L' : List Ino} (hm : TmIs w' b n' g') (ho : Only b w w') (hg : TGood L' next)
    (h1 : ∀ i, find L' i = none → g' i = none) (h2 : ∀ i x, find L' i = some x → ∃ y, g' i = some y ∧ IRel w tb b x y) : TIs w' tb b L' next :=
  ⟨Only.heap ho h.head h.ne, ⟨n', g', hm, h1, fun i x hx => by obtain ⟨y, hy, hr⟩ := h2 i x hx; exact ⟨y, hy, hr.only ho (.inr rfl)⟩⟩, hg⟩
theorem op_upd {n : Nat} {g : Int → Option IV} (o : Op w tb b n g L next) {x x0 : Ino} {y : IV} (hf : find L x.i = some x0) (hr : IRel w tb b x y) :
    (∀ i, find (upd L x) i = none → (if i = x.i then some y else g i) = none) ∧ ∀ i z, find (upd L x) i = some z → ∃ u, (if i = x.i then some y else g i) = some u ∧ IRel w tb b z u := by
  have e := find_upd L x x0 hf
  refine ⟨fun i hi => ?_, fun i z hz => ?_⟩
  · rw [e] at hi
    by_cases c : i = x.i
    · simp [c] at hi
    · simp only [if_neg c] at hi ⊢; exact o.no i hi
  · rw [e] at hz
    by_cases c : i = x.i
    · simp only [if_pos c] at hz ⊢
      injection hz with hz
      exact ⟨y, rfl, hz ▸ hr⟩
    · simp only [if_neg c] at hz ⊢; exact o.yes i z hz
theorem op_del {n : Nat} {g : Int → Option IV} (o : Op w tb b n g L next) {x : Ino} {y : IV} :
    (∀ i, find (del L x.i) i = none → (if i = x.i then none else (if i = x.i then some y else g i)) = none) ∧ ∀ i z, find (del L x.i) i = some z → ∃ u, (if i = x.i then none else (if i = x.i then some y else g i)) = some u ∧ IRel w tb b z u := by
  have e := find_del L x.i
  refine ⟨fun i hi => ?_, fun i z hz => ?_⟩
  · rw [e] at hi
    by_cases c : i = x.i
    · simp [c]
    · simp only [if_neg c] at hi ⊢; exact o.no i hi
  · rw [e] at hz
    by_cases c : i = x.i
    · simp [c] at hz
    · simp only [if_neg c] at hz ⊢; exact o.yes i z hz
theorem Op.grow {w' : World} {n : Nat} {g : Int → Option IV} (o : Op w tb b n g L next) (k : Below w.heap.size w w') : Op w' tb b n g L next :=
  ⟨MapIs.keep o.m k, o.no, fun i x hx => by obtain ⟨y, hy, hr⟩ := o.yes i x hx; exact ⟨y, hy, hr.grow k⟩⟩
theorem only_undrew {b : Nat} {w w' : World} (h : Only b w.drew w') : Only b w w' := ⟨h.os, h.tape, h.output, h.size, h.block⟩
set_option maxHeartbeats 800000 in
theorem keep_any (x x0 : Ino) (y : IV) (may : Bool) (hf : find L x.i = some x0) (hg : IGood x) (w : World) (h : TIs w tb b L next) (hr : IRel w tb b x y) :
    Calls Tryd.prog 40 #[.pointer (some ⟨tb, 0, none⟩), .agg #[.int .i64 y.i, .int .i64 y.k, .int .i64 y.l, .int .i64 y.o, .int .i64 y.s, .slice y.oa y.n y.c], .bool may] w fun e w' => e = .returned (.int .i64 0) ∧ TIs w' tb b (keepL L x may) next ∧ Only b w w' := by
  obtain ⟨n, g, op⟩ := h.op
  have hb1 := below_alloc w (.cells #[.int .i64 y.i, .int .i64 y.k, .int .i64 y.l, .int .i64 y.o, .int .i64 y.s, .slice y.oa y.n y.c] 86)
  have H1 := Lib.hid (h.grow hb1)
  have OP := Lib.hid (op.grow hb1)
  have h0 := H1.out.m0.1
  have hnum := h.good.num _ (find_mem hf).1
  have hnx := h.good.next
  have hxi := (find_mem hf).2
  have hlo := hg.l
  have hoo := hg.o
  have HI : Hid (iOk y.i) := Lib.hid (iOk_of (by rw [hr.i]; omega))
  have HF := Lib.hid hf
  have HG := Lib.hid hg
  have HR := Lib.hid (hr.grow hb1)
  have HB1 := Lib.hid hb1
  have hw1 : IntKind.i64.wrap (y.l + y.o) = y.l + y.o := IntWalk.i64_in _ (by rw [hr.l, hr.o]; omega)
  have hyl := hr.l
  have hyo := hr.o
  have HLT := Lib.hid h.lt
  have HBX : Hid (IBox (w.alloc (.cells #[.int .i64 y.i, .int .i64 y.k, .int .i64 y.l, .int .i64 y.o, .int .i64 y.s, .slice y.oa y.n y.c] 86)) w.heap.size y) := Lib.hid (heap_alloc_new w _)
  obtain ⟨c0, c1, c2, c3, c4, c5⟩ := HBX.out.cells
  clear h hf hg hr hb1 op hnum hnx hxi
  cases may with
  | false =>
    clear hw1 hyl hyo hlo hoo
    go_enter Tryd.func40, Tryd.ntmps40
    go_wp2_with fail
    generalize w.alloc (.cells #[.int .i64 y.i, .int .i64 y.k, .int .i64 y.l, .int .i64 y.o, .int .i64 y.s, .slice y.oa y.n y.c] 86) = w1 at *
    go_still_tail 7, (by kernel_rfl)
    clear c0 c1 c2 c3 c4 c5
    go_wp2_with (at_mapUpdate; go_loud (refine wpList_map_store _ rfl _ _ _ 105 86 rfl iMK Tryd.underlying105 b n g (MapIs.drew OP.out.m) (by rfl) y.i y HI.out (by rfl) (by rfl) ?_; intro w5 hm5 ho5 hs5; have HM5 := Lib.hid hm5; have HO5 : Hid (Only b w1 w5) := Lib.hid (only_undrew (w := w1) ho5); clear hm5 ho5 hs5))
    go_ret
    have hk : keepL L x false = upd L x := by unfold keepL; rw [if_neg (by simp)]
    obtain ⟨q1, q2⟩ := op_upd OP.out HF.out HR.out
    rw [← HR.out.i] at q1 q2
    exact ⟨rfl, by rw [hk]; exact H1.out.set HM5.out HO5.out (H1.out.good.upd HF.out HG.out) q1 q2, (Only.of_below HB1.out).trans HO5.out⟩
  | true =>
    by_cases hz : y.l + y.o = 0
    · have hz2 : (y.l + y.o == 0) = true := by rw [beq_iff_eq]; exact hz
      have HK : Hid (keepL L x true = del L x.i) := Lib.hid (by unfold keepL; rw [if_pos ⟨rfl, by rw [← hyl, ← hyo]; exact hz⟩])
      clear hyl hyo hlo hoo hz
      go_enter Tryd.func40, Tryd.ntmps40
      go_wp2_with fail
      generalize w.alloc (.cells #[.int .i64 y.i, .int .i64 y.k, .int .i64 y.l, .int .i64 y.o, .int .i64 y.s, .slice y.oa y.n y.c] 86) = w1 at *
      go_still_tail 7, (by kernel_rfl)
      clear c0 c1 c2 c3 c4 c5 h0
      go_wp2_with (at_mapUpdate; go_loud (refine wpList_map_store _ rfl _ _ _ 105 86 rfl iMK Tryd.underlying105 b n g (MapIs.drew OP.out.m) (by rfl) y.i y HI.out (by rfl) (by rfl) ?_; intro w5 hm5 ho5 hs5; have HM5 := Lib.hid hm5; have HO5 : Hid (Only b w1 w5) := Lib.hid (only_undrew (w := w1) ho5); obtain ⟨c0, c1, c2, c3, c4, c5⟩ := IBox.cells (Only.heap HO5.out HBX.out (by have := HLT.out; omega)); have h0 := (new_cells (Only.heap HO5.out H1.out.head H1.out.ne) 0 (by simp)).1; simp only [List.getElem_toArray, List.getElem_cons_zero] at h0; clear hm5 ho5 hs5))
      go_still_tail 6, (by kernel_rfl)
      clear c0 c1 c2 c3 c4 c5 h0
      go_wp2_with (at_delete; go_loud (refine wpList_map_delete _ rfl _ _ 105 86 rfl iMK Tryd.underlying105 b (n + 1) _ (MapIs.drew HM5.out) (by rfl) y.i HI.out (by rfl) ?_; intro w6 hm6 ho6 hs6; have HM6 := Lib.hid hm6; have HO6 : Hid (Only b w5 w6) := Lib.hid (only_undrew (w := w5) ho6); clear hm6 ho6 hs6))
      go_ret
      obtain ⟨q1, q2⟩ := op_del OP.out (x := x) (y := y)
      rw [← HR.out.i] at q1 q2
      refine ⟨rfl, ?_, (Only.of_below HB1.out).trans (HO5.out.trans HO6.out)⟩
      rw [HK.out]
      have hgd := H1.out.good.del x.i
      rw [← HR.out.i] at hgd ⊢
      exact H1.out.set HM6.out (HO5.out.trans HO6.out) hgd q1 q2
    · have hz2 : (y.l + y.o == 0) = false := by rw [beq_eq_false_iff_ne]; exact hz
      have HK : Hid (keepL L x true = upd L x) := Lib.hid (by unfold keepL; rw [if_neg (fun e => hz (by rw [hyl, hyo]; exact e.2))])
      clear hyl hyo hlo hoo hz
      go_enter Tryd.func40, Tryd.ntmps40
      go_wp2_with fail
      generalize w.alloc (.cells #[.int .i64 y.i, .int .i64 y.k, .int .i64 y.l, .int .i64 y.o, .int .i64 y.s, .slice y.oa y.n y.c] 86) = w1 at *
      go_still_tail 7, (by kernel_rfl)
      clear c0 c1 c2 c3 c4 c5 h0
      go_wp2_with (at_mapUpdate; go_loud (refine wpList_map_store _ rfl _ _ _ 105 86 rfl iMK Tryd.underlying105 b n g (MapIs.drew OP.out.m) (by rfl) y.i y HI.out (by rfl) (by rfl) ?_; intro w5 hm5 ho5 hs5; have HM5 := Lib.hid hm5; have HO5 : Hid (Only b w1 w5) := Lib.hid (only_undrew (w := w1) ho5); obtain ⟨c0, c1, c2, c3, c4, c5⟩ := IBox.cells (Only.heap HO5.out HBX.out (by have := HLT.out; omega)); clear hm5 ho5 hs5))
      go_ret
      obtain ⟨q1, q2⟩ := op_upd OP.out HF.out HR.out
      rw [← HR.out.i] at q1 q2
      exact ⟨rfl, by rw [HK.out]; exact H1.out.set HM5.out HO5.out (H1.out.good.upd HF.out HG.out) q1 q2, (Only.of_below HB1.out).trans HO5.out⟩
end Go.Proofs.YthnkpoagpjnopaaDoor.InoW

namespace Go.Proofs.YthnkpoagpjnopaaDoor.InoW
set_option maxRecDepth 100000
open Go.RowKit InoP ExtW
variable {tb b : Nat} {L : List Ino} {next : Int}
theorem keep_is (x x0 : Ino) (may : Bool) (yi yk yl yo ys : Int) (oa : Option Addr) (n c : Nat) (hf : find L x.i = some x0) (hg : IGood x) (w : World) (h : TIs w tb b L next) (hr : IRel w tb b x ⟨yi, yk, yl, yo, ys, oa, n, c⟩) :
    Calls Tryd.prog 40 #[.pointer (some ⟨tb, 0, none⟩), .agg #[.int .i64 yi, .int .i64 yk, .int .i64 yl, .int .i64 yo, .int .i64 ys, .slice oa n c], .bool may] w fun e w' => e = .returned (.int .i64 0) ∧ TIs w' tb b (keepL L x may) next ∧ Only b w w' :=
  keep_any x x0 ⟨yi, yk, yl, yo, ys, oa, n, c⟩ may hf hg w h hr
theorem TIs.all {w : World} (h : TIs w tb b L next) (i : Int) : (find L i = none ∧ ∀ w', Below w.heap.size w w' → iOk i → Calls Tryd.prog 35 #[.pointer (some ⟨tb, 0, none⟩), .int .i64 i] w' fun e w2 => e = .returned (.tuple #[.agg #[.int .i64 0, .int .i64 0, .int .i64 0, .int .i64 0, .int .i64 0, .slice none 0 0], .bool false]) ∧ Below w'.heap.size w' w2) ∨
    ∃ x yi yk yl yo ys oa n c, find L i = some x ∧ IGood x ∧ IRel w tb b x ⟨yi, yk, yl, yo, ys, oa, n, c⟩ ∧ ∀ w', Below w.heap.size w w' → Calls Tryd.prog 35 #[.pointer (some ⟨tb, 0, none⟩), .int .i64 i] w' fun e w2 => e = .returned (.tuple #[.agg #[.int .i64 yi, .int .i64 yk, .int .i64 yl, .int .i64 yo, .int .i64 ys, .slice oa n c], .bool true]) ∧ Below w'.heap.size w' w2 := by
  obtain ⟨n, g, o⟩ := h.op
  cases hf : find L i with
  | none => exact .inl ⟨rfl, fun w' hb hi => get_no n g i hi (o.no i hf) w' (h.grow hb).m0.1 (MapIs.keep o.m hb)⟩
  | some x =>
    obtain ⟨y, hy, hr⟩ := o.yes i x hf
    obtain ⟨hx, hxi⟩ := find_mem hf
    have hn := h.good.num x hx
    have hnx := h.good.next
    exact .inr ⟨x, y.i, y.k, y.l, y.o, y.s, y.oa, y.n, y.c, rfl, h.good.all x hx, hr, fun w' hb => get_yes n g i (iOk_of (by omega)) y hy w' (h.grow hb).m0.1 (MapIs.keep o.m hb)⟩
theorem IRel.setL {w : World} {x : Ino} {yi yk yl yo ys : Int} {oa : Option Addr} {n c : Nat} (h : IRel w tb b x ⟨yi, yk, yl, yo, ys, oa, n, c⟩) (d : Int) : IRel w tb b { x with l := x.l + d } ⟨yi, yk, yl + d, yo, ys, oa, n, c⟩ :=
  { i := h.i, k := h.k, l := by have := h.l; simp only at this ⊢; omega, o := h.o, s := h.s, n := h.n, pts := h.pts, far := h.far, nil := h.nil }
theorem IRel.setO {w : World} {x : Ino} {yi yk yl yo ys : Int} {oa : Option Addr} {n c : Nat} (h : IRel w tb b x ⟨yi, yk, yl, yo, ys, oa, n, c⟩) (d : Int) : IRel w tb b { x with o := x.o + d } ⟨yi, yk, yl, yo + d, ys, oa, n, c⟩ :=
  { i := h.i, k := h.k, l := h.l, o := by have := h.o; simp only at this ⊢; omega, s := h.s, n := h.n, pts := h.pts, far := h.far, nil := h.nil }
end Go.Proofs.YthnkpoagpjnopaaDoor.InoW

namespace Go.Proofs.YthnkpoagpjnopaaDoor.InoW
set_option maxRecDepth 100000
open Go.RowKit InoP ExtW
/-- only blocks c and b have turned, and what is new -/
structure Only2 (c b : Nat) (w w' : World) : Prop where
  os : w'.os = w.os
  tape : w'.tape = w.tape
  output : w'.output = w.output
  size : w.heap.size ≤ w'.heap.size
  block : ∀ k, k < w.heap.size → k ≠ c → k ≠ b → w'.heap[k]? = w.heap[k]?
theorem Only2.of {c b : Nat} {w w' : World} (h : Only b w w') : Only2 c b w w' := ⟨h.os, h.tape, h.output, h.size, fun k hk _ hb => h.block k hk (fun e => hb (by injection e))⟩
theorem Only2.ofC {c b : Nat} {w w' : World} (h : Only c w w') : Only2 c b w w' := ⟨h.os, h.tape, h.output, h.size, fun k hk hc _ => h.block k hk (fun e => hc (by injection e))⟩
theorem Only2.trans {c b : Nat} {a w x : World} (h : Only2 c b a w) (k : Only2 c b w x) : Only2 c b a x :=
  ⟨k.os.trans h.os, k.tape.trans h.tape, k.output.trans h.output, Nat.le_trans h.size k.size, fun i hi hc hb => (k.block i (Nat.lt_of_lt_of_le hi h.size) hc hb).trans (h.block i hi hc hb)⟩
theorem Only2.below {c b B : Nat} {w w' : World} (h : Only2 c b w w') (hc : B ≤ c) (hb : B ≤ b) (hw : B ≤ w.heap.size) : Below B w w' :=
  ⟨h.os, h.tape, h.output, h.size, fun k hk => h.block k (by omega) (by omega) (by omega)⟩
variable {tb b : Nat} {L : List Ino} {next : Int}
theorem space_any (e : Int) (w : World) : Calls Tryd.prog 39 #[.int .i64 e] w fun r w' => r = .returned (.int .i64 (spaceE e)) ∧ w = w' := by
  by_cases h : e = 3
  · subst h
    go_enter Tryd.func39, Tryd.ntmps39
    go_wp2_with fail
    go_ret
    exact ⟨rfl, rfl⟩
  · have h2 : (e == 3) = false := by rw [beq_eq_false_iff_ne]; exact h
    have HE : Hid (spaceE e = e) := Lib.hid (if_neg h)
    clear h
    go_enter Tryd.func39, Tryd.ntmps39
    go_wp2_with fail
    go_ret
    exact ⟨ret_int HE.out.symm, rfl⟩
theorem next_any (w : World) (h : TIs w tb b L next) : Calls Tryd.prog 32 #[.pointer (some ⟨tb, 0, none⟩)] w fun e w' => e = .returned (.int .i64 next) ∧ w = w' := by
  have h1 := h.m0.2.1
  clear h
  go_enter Tryd.func32, Tryd.ntmps32
  go_wp2_with fail
  go_ret
  exact ⟨rfl, rfl⟩
theorem make_no {k : Int} (e : Int) (h : makeE L next k = e) (h0 : e ≠ 0) : makeE L next k = e ∧ makeI L next k = 0 ∧ makeL L next k = L ∧ makeN L next k = next := by
  unfold makeI makeL makeN
  rw [h, if_neg h0, if_neg h0, if_neg h0]
  exact ⟨rfl, rfl, rfl, rfl⟩
theorem make_yes {k : Int} (h : makeE L next k = 0) : makeE L next k = 0 ∧ makeI L next k = next ∧ makeL L next k = L ++ [⟨next, k, 0, 0, 0, []⟩] ∧ makeN L next k = next + 1 := by
  unfold makeI makeL makeN
  rw [h]
  exact ⟨rfl, rfl, rfl, rfl⟩
theorem TIs.made {w w5 : World} {n m : Nat} {g : Int → Option IV} {k : Int} (h : TIs w tb b L next) (o : Op w tb b n g L next) (hk : k = 1 ∨ k = 2) (hl : L.length < 64 ∧ next < 2147483647)
    (hm : TmIs w5 b m (fun z => if z = next then some ⟨next, k, 0, 0, 0, none, 0, 0⟩ else g z)) (ho : Only b w w5) :
    TIs (w5.setCell ⟨tb, 1, none⟩ (.int .i64 (next + 1))) tb b (L ++ [⟨next, k, 0, 0, 0, []⟩]) (next + 1) ∧ Only2 tb b w (w5.setCell ⟨tb, 1, none⟩ (.int .i64 (next + 1))) := by
  have hh := Only.heap ho h.head h.ne
  have hos : Only tb w5 (w5.setCell ⟨tb, 1, none⟩ (.int .i64 (next + 1))) := (Only.refl tb w5).setCell 1 _
  have e := find_snoc L ⟨next, k, 0, 0, 0, []⟩ h.good.find_next
  refine ⟨⟨?_, ⟨m, _, MapIs.only hm hos (fun e => h.ne e.symm), fun i hi => ?_, fun i x hx => ?_⟩, h.good.snoc hk hl.1 hl.2⟩, (Only2.of ho).trans (Only2.ofC hos)⟩
  · rw [heap_setCell_same w5 tb 1 _ _ _ hh]; rfl
  · rw [e] at hi
    by_cases c : i = next
    · simp [c] at hi
    · simp only [if_neg c] at hi ⊢; exact o.no i hi
  · rw [e] at hx
    by_cases c : i = next
    · simp only [if_pos c] at hx ⊢
      injection hx with hx
      exact ⟨_, rfl, hx ▸ ⟨rfl, rfl, rfl, rfl, rfl, rfl, fun j z hz => by simp at hz, fun a ha => by simp at ha, fun _ => ⟨rfl, rfl⟩⟩⟩
    · simp only [if_neg c] at hx ⊢
      obtain ⟨y, hy, hr⟩ := o.yes i x hx
      exact ⟨y, hy, (hr.only ho (.inr rfl)).only hos (.inl rfl)⟩
theorem below_setRow {B g : Nat} {w w' : World} (h : Below B w w') (hg : B ≤ g) (cs : Array Value) : Below B w (w'.setRow g cs) :=
  ⟨h.os, h.tape, h.output, by rw [setRow_size]; exact h.size, fun k hk => (setRow_other w' g k cs (by omega)).trans (h.block k hk)⟩
theorem file_bad (i e : Int) (hi : iOk i) (he : fileE L i = e) (h0 : e ≠ 0) (w : World) (h : TIs w tb b L next) :
    Calls Tryd.prog 37 #[.pointer (some ⟨tb, 0, none⟩), .int .i64 i] w fun r w' => r = .returned (.tuple #[.agg #[.int .i64 0, .int .i64 0, .int .i64 0, .int .i64 0, .int .i64 0, .slice none 0 0], .int .i64 e]) ∧ Below w.heap.size w w' := by
  unfold fileE at he
  have HB0 := Lib.hid (below_alloc w (.cells #[.int .i64 0, .int .i64 0, .int .i64 0, .int .i64 0, .int .i64 0, .slice none 0 0] 86))
  rcases h.all i with ⟨hf, hget⟩ | ⟨x, yi, yk, yl, yo, ys, oa, n, c, hf, hg, hr, hget⟩
  · rw [hf] at he
    obtain rfl : (60 : Int) = e := he
    have HC := Lib.hid (hget _ HB0.out hi)
    clear h hi hf hget h0
    go_enter Tryd.func37, Tryd.ntmps37
    go_wp2_with (first
      | (go_at_call 35; refine HC.out.mono ?_; rintro e w2 ⟨rfl, hb2⟩; have HB2 := Lib.hid hb2; clear hb2)
      | (refine wpList_store_row rfl 86 (Operand.tmp 4) _ rfl w.heap.size _ rfl rfl 86 _ ((heap_alloc_old _ _ (lt_of_block (new_kept HB2.out))).trans (new_kept HB2.out)) inoSize rfl (by simp [Value.oneCell']) ?_))
    try simp only [Exit.inBlock, Exit.then]
    refine ret_row (p := 4) (u := 5) rfl rfl rfl (setRow_heap _ _ _ _ _ _ ((heap_alloc_old _ _ (lt_of_block (new_kept HB2.out))).trans (new_kept HB2.out))) Tryd.underlying86 rfl inoSize ?_
    exact ⟨rfl, below_setRow (bstep (bstep HB0.out HB2.out) (below_alloc _ _)) (Nat.le_refl _) _⟩
  · rw [hf] at he
    have hk : x.k = 1 := by
      simp only at he
      by_cases c : x.k = 1
      · exact c
      · rw [if_neg c] at he; exact absurd he.symm h0
    obtain rfl : (63 : Int) = e := by simpa [hk] using he
    have hyk := hr.k
    simp only at hyk
    obtain rfl : yk = 1 := hyk.trans hk
    have HC := Lib.hid (hget _ HB0.out)
    clear h hi hf hget h0 hg hr hyk he hk
    go_enter Tryd.func37, Tryd.ntmps37
    go_wp2_with (first
      | (go_at_call 35; refine HC.out.mono ?_; rintro e w2 ⟨rfl, hb2⟩; have HB2 := Lib.hid hb2; clear hb2)
      | (refine wpList_store_row rfl 86 (Operand.tmp 4) _ rfl w.heap.size _ rfl rfl 86 _ ((heap_alloc_old _ _ (lt_of_block (new_kept HB2.out))).trans (new_kept HB2.out)) inoSize rfl (by simp [Value.oneCell']) ?_))
    try simp only [Exit.inBlock, Exit.then]
    refine ret_row (p := 4) (u := 5) rfl rfl rfl (setRow_heap _ _ _ _ _ _ ((heap_alloc_old _ _ (lt_of_block (new_kept HB2.out))).trans (new_kept HB2.out))) Tryd.underlying86 rfl inoSize ?_
    exact ⟨rfl, below_setRow (bstep (bstep HB0.out HB2.out) (below_alloc _ _)) (Nat.le_refl _) _⟩
theorem file_ok (i : Int) (he : fileE L i = 0) (w : World) (h : TIs w tb b L next) :
    ∃ x yi yk yl yo ys oa n c, find L i = some x ∧ x.k ≠ 1 ∧ IGood x ∧ IRel w tb b x ⟨yi, yk, yl, yo, ys, oa, n, c⟩ ∧
      Calls Tryd.prog 37 #[.pointer (some ⟨tb, 0, none⟩), .int .i64 i] w fun r w' => r = .returned (.tuple #[.agg #[.int .i64 yi, .int .i64 yk, .int .i64 yl, .int .i64 yo, .int .i64 ys, .slice oa n c], .int .i64 0]) ∧ Below w.heap.size w w' := by
  unfold fileE at he
  have HB0 := Lib.hid (below_alloc w (.cells #[.int .i64 0, .int .i64 0, .int .i64 0, .int .i64 0, .int .i64 0, .slice none 0 0] 86))
  rcases h.all i with ⟨hf, _⟩ | ⟨x, yi, yk, yl, yo, ys, oa, n, c, hf, hg, hr, hget⟩
  · rw [hf] at he; cases he
  · rw [hf] at he
    have hk : x.k ≠ 1 := fun e => by simp [e] at he
    have hyk := hr.k
    simp only at hyk
    have hk1 : (yk == 1) = false := by rw [beq_eq_false_iff_ne, hyk]; exact hk
    have HC := Lib.hid (hget _ HB0.out)
    refine ⟨x, yi, yk, yl, yo, ys, oa, n, c, hf, hk, hg, hr, ?_⟩
    clear h hf hget hg hr hyk he hk
    go_enter Tryd.func37, Tryd.ntmps37
    go_wp2_with (first
      | (go_at_call 35; refine HC.out.mono ?_; rintro e w2 ⟨rfl, hb2⟩; have HB2 := Lib.hid hb2; clear hb2)
      | (refine wpList_store_row rfl 86 (Operand.tmp 4) _ rfl w.heap.size _ rfl rfl 86 _ ((heap_alloc_old _ _ (lt_of_block (new_kept HB2.out))).trans (new_kept HB2.out)) inoSize rfl (by simp [Value.oneCell']) ?_))
    try simp only [Exit.inBlock, Exit.then]
    refine ret_row (p := 4) (u := 5) rfl rfl rfl (setRow_heap _ _ _ _ _ _ ((heap_alloc_old _ _ (lt_of_block (new_kept HB2.out))).trans (new_kept HB2.out))) Tryd.underlying86 rfl inoSize ?_
    exact ⟨rfl, below_setRow (bstep (bstep HB0.out HB2.out) (below_alloc _ _)) (Nat.le_refl _) _⟩
end Go.Proofs.YthnkpoagpjnopaaDoor.InoW

namespace Go.Proofs.YthnkpoagpjnopaaDoor.ExtW
open Go.RowKit
set_option maxHeartbeats 800000 in
theorem end_any (oa : Option Addr) (n cap : Nat) (l : List Pt) (hn : n = l.length) (hl : l.length ≤ 9223372036854775807) (w : World) (h : PtsAt w.heap.size oa l w) :
    Calls Tryd.prog 77 #[.slice oa n cap] w fun e w' => e = .returned (.int .i64 (endS l)) ∧ Below w.heap.size w w' := by
  subst hn
  have HP := Lib.hid h
  clear h
  by_cases hg : Good l
  · have HG : Hid (decide (Good l) = true) := Lib.hid (decide_eq_true hg)
    rcases snoc_cases l with rfl | ⟨l', x, rfl⟩
    · have HE : Hid (endS [] = 0) := Lib.hid (by unfold endS; rw [if_pos hg]; rfl)
      have HG2 := Lib.hid (good_is oa cap [] true HG.out (by omega) w HP.out)
      have e0 : ([] : List Pt).length = 0 := rfl
      rw [e0] at HG2 ⊢
      clear hg hl e0
      go_enter Tryd.func77, Tryd.ntmps77
      go_wp2_with (go_at_call 56; refine HG2.out.mono ?_; rintro e w1 ⟨rfl, hb1⟩; have HB1 := Lib.hid hb1; clear hb1)
      go_ret
      exact ⟨by rw [HE.out]; rfl, HB1.out⟩
    · have HE : Hid (endS (l' ++ [x]) = x.o + x.n) := Lib.hid (by unfold endS; rw [if_pos hg, endL_snoc])
      have hxs := (chain_ones hg.2 x (by simp)).small
      have hl64 := hg.1
      have HG2 := Lib.hid (good_is oa cap (l' ++ [x]) true HG.out (by omega) w HP.out)
      have HX : Hid ((l' ++ [x])[l'.length]? = some x) := Lib.hid (by simp)
      have hlen : (l' ++ [x]).length = l'.length + 1 := by simp
      generalize l' ++ [x] = L at *
      generalize hm : l'.length = m at *
      generalize hn : L.length = n at *
      have HN := Lib.hid hn
      have hz : ((n : Int) == 0) = false := by rw [beq_eq_false_iff_ne]; omega
      have hw : IntKind.i64.wrap ((n : Int) - 1) = (m : Int) := by rw [IntWalk.i64_in _ (by omega)]; omega
      have hw2 : IntKind.i64.wrap (x.o + x.n) = x.o + x.n := IntWalk.i64_in _ (by omega)
      have hm0 : (0 : Int) ≤ (m : Int) := by omega
      have hm1 : (m : Int) < (n : Int) := by omega
      have hm2 : m < n := by omega
      clear hg hl hlen hm hn
      go_enter Tryd.func77, Tryd.ntmps77
      go_wp2_with (go_at_call 56; refine HG2.out.mono ?_; rintro e w1 ⟨rfl, hb1⟩; have HB1 := Lib.hid hb1; obtain ⟨a, rfl, hab, c0, c1, c2, c3⟩ := (HP.out.grow hb1) m x HX.out; clear hb1)
      go_ret
      exact ⟨by rw [HE.out]; rfl, bstep HB1.out (below_alloc w1 _)⟩
  · have HG : Hid (decide (Good l) = false) := Lib.hid (decide_eq_false hg)
    have HE : Hid (endS l = 0) := Lib.hid (if_neg hg)
    clear hg
    go_enter Tryd.func77, Tryd.ntmps77
    go_wp2_with (go_at_call 56; refine (good_is _ _ _ _ HG.out hl _ HP.out).mono ?_; rintro e w1 ⟨rfl, hb1⟩; have HB1 := Lib.hid hb1; clear hb1)
    go_ret
    exact ⟨by rw [HE.out]; rfl, HB1.out⟩
/-- a plan under way: where it is, and what it holds -/
structure PS (C ba bo : Nat) (w : World) (at_ : Int) (v : Value) (L : List Pt) : Prop where
  pat : w.heap[ba]? = some (.cells #[.int .i64 at_] 3 (0, 0))
  out : w.heap[bo]? = some (.cells #[v] 23 (0, 0))
  row : Row C w v L
  lba : ba < C
  lbo : bo < C
  ne : ba ≠ bo
  le : C ≤ w.heap.size
/-- of all that is there only these three blocks turn -/
def Rest (ba bo : Nat) (v : Value) (w w' : World) : Prop := w.heap.size ≤ w'.heap.size ∧ w'.os = w.os ∧ w'.tape = w.tape ∧ w'.output = w.output ∧ ∀ k, k < w.heap.size → k ≠ ba → k ≠ bo → some k ≠ v.ownBlock → w'.heap[k]? = w.heap[k]?
theorem set_cells {w : World} {b : Nat} {u v : Value} {t : TypeId} (h : w.heap[b]? = some (.cells #[u] t (0, 0))) : (w.setCell ⟨b, 0, none⟩ v).heap[b]? = some (.cells #[v] t (0, 0)) :=
  heap_setCell_same w b 0 #[u] t v h
theorem far_set {w : World} {b i k : Nat} {v : Value} (h : k ≠ b) : (w.setCell ⟨b, i, none⟩ v).heap[k]? = w.heap[k]? := Below.heap_setCell w ⟨b, i, none⟩ v k h
def stepTo (at_ tt : Int) : Int := if at_ < tt then tt else at_
theorem row_far {C : Nat} {w : World} {v : Value} {L : List Pt} (h : Row C w v L) {b : Nat} (hb : b < C) : v.ownBlock ≠ some b := fun e => by
  have := (World.ownsRow.lt h) b e; omega
/-- one more part laid, and the place set -/
theorem PS.put {C ba bo : Nat} {w w5 : World} {at_ tt : Int} {v v' : Value} {L L' : List Pt} (h : PS C ba bo w at_ v L) (hr : Row C w5 v' L') (hb : Below C w w5) (hg : w.grownBy w5 v.ownBlock) :
    PS C ba bo ((w5.setCell ⟨bo, 0, none⟩ v').setCell ⟨ba, 0, none⟩ (.int .i64 tt)) tt v' L' ∧ Rest ba bo v w ((w5.setCell ⟨bo, 0, none⟩ v').setCell ⟨ba, 0, none⟩ (.int .i64 tt)) := by
  have K1 := (hb.block ba h.lba).trans h.pat
  have K2 := (hb.block bo h.lbo).trans h.out
  refine ⟨⟨?_, ?_, ?_, h.lba, h.lbo, h.ne, ?_⟩, ?_, ?_, ?_, ?_, ?_⟩
  · exact set_cells ((far_set h.ne).trans K1)
  · exact (far_set (fun e => h.ne e.symm)).trans (set_cells K2)
  · exact ((Only.refl ba _).setCell 0 _).keepRow (((Only.refl bo _).setCell 0 _).keepRow hr (row_far hr h.lbo)) (row_far hr h.lba)
  · have := h.le; have := hb.size; simp; omega
  · have := hb.size; simpa using this
  · exact hb.os
  · exact hb.tape
  · exact hb.output
  · intro k hk h1 h2 h3
    rw [far_set h1, far_set h2]
    exact hg.block k hk h3
/-- one more part laid -/
theorem PS.lay {C ba bo : Nat} {w w5 : World} {at_ : Int} {v v' : Value} {L L' : List Pt} (h : PS C ba bo w at_ v L) (hr : Row C w5 v' L') (hb : Below C w w5) (hg : w.grownBy w5 v.ownBlock) :
    PS C ba bo (w5.setCell ⟨bo, 0, none⟩ v') at_ v' L' ∧ Rest ba bo v w (w5.setCell ⟨bo, 0, none⟩ v') := by
  have K1 := (hb.block ba h.lba).trans h.pat
  have K2 := (hb.block bo h.lbo).trans h.out
  refine ⟨⟨?_, ?_, ?_, h.lba, h.lbo, h.ne, ?_⟩, ?_, ?_, ?_, ?_, ?_⟩
  · exact (far_set h.ne).trans K1
  · exact set_cells K2
  · exact ((Only.refl bo _).setCell 0 _).keepRow hr (row_far hr h.lbo)
  · have := h.le; have := hb.size; simp; omega
  · have := hb.size; simpa using this
  · exact hb.os
  · exact hb.tape
  · exact hb.output
  · intro k hk h1 h2 h3
    rw [far_set h2]
    exact hg.block k hk h3
theorem Rest.refl (ba bo : Nat) (v : Value) (w : World) : Rest ba bo v w w := ⟨Nat.le_refl _, rfl, rfl, rfl, fun _ _ _ _ _ => rfl⟩
end Go.Proofs.YthnkpoagpjnopaaDoor.ExtW

namespace Go.Proofs.YthnkpoagpjnopaaDoor.InoW
set_option maxRecDepth 100000
open Go.RowKit InoP ExtW
variable {tb b : Nat} {L : List Ino} {next : Int}
/-- what Stat tells -/
def statX (L : List Ino) (i : Int) : Ino := (find L i).getD ⟨0, 0, 0, 0, 0, []⟩
def statB (L : List Ino) (i : Int) : Bool := (find L i).isSome
/-- the error that the checks ahead tell -/
theorem write_pre (i off n a : Int) : writeE L i off n a = if fileE L i = 0 then (if mayW off n then spaceE (putE ((find L i).getD ⟨0, 0, 0, 0, 0, []⟩).p ⟨off, n, a, 0⟩) else 67) else fileE L i := by
  unfold writeE fileE
  cases find L i with
  | none => simp
  | some x => by_cases h : x.k = 1 <;> simp [h]
theorem write_no {i off n a : Int} (h : writeE L i off n a ≠ 0) : writeL L i off n a = L := by
  unfold writeL
  cases hf : find L i with
  | none => rfl
  | some x => exact if_neg h
theorem two_only (w : World) (c : Nat) (u v : Value) : Only c w ((w.setCell ⟨c, 5, none⟩ u).setCell ⟨c, 4, none⟩ v) := ((Only.refl c w).setCell 5 u).setCell 4 v
theorem two_set {w w4 : World} {c : Nat} (h : Below w.heap.size w w4) (hc : w.heap.size ≤ c) (u v : Value) : Below w.heap.size w ((w4.setCell ⟨c, 5, none⟩ u).setCell ⟨c, 4, none⟩ v) :=
  (h.setCell (p := ⟨c, 5, none⟩) hc u).setCell (p := ⟨c, 4, none⟩) hc v
theorem row_base {B : Nat} {w : World} {oa : Option Addr} {n c : Nat} {l : List Pt} (h : Row B w (.slice oa n c) l) : (∀ a, oa = some a → B ≤ a.block ∧ a.block < w.heap.size) ∧ n = l.length ∧ (oa = none → n = 0 ∧ c = 0) := by
  rcases h.2 with ⟨e, h0⟩ | ⟨g, cap', cur, e, h1, h2, h3, h4, h5, h6⟩
  · simp only [Value.slice.injEq] at e
    obtain ⟨rfl, rfl, rfl⟩ := e
    exact ⟨fun a h => by simp at h, h0.symm, fun _ => ⟨rfl, rfl⟩⟩
  · simp only [Value.slice.injEq] at e
    obtain ⟨rfl, rfl, rfl⟩ := e
    refine ⟨fun a h => ?_, rfl, fun h => by simp at h⟩
    injection h with h
    subst h
    exact ⟨h1, lt_of_block h2⟩
theorem IRel.setP {B c' : Nat} {w w4 w5 : World} {x x' : Ino} {yi yk yl yo ys s2 : Int} {oa oa4 : Option Addr} {n c m cap : Nat} {p' : List Pt} (h : IRel w tb b x ⟨yi, yk, yl, yo, ys, oa, n, c⟩) (hr : Row B w4 (.slice oa4 m cap) p') (hB : tb < B ∧ b < B) (hc : c' < B) (ho : Only c' w4 w5)
    (hx : x' = { x with p := p', s := x'.s }) (hs : s2 = x'.s) : IRel w5 tb b x' ⟨yi, yk, yl, yo, s2, oa4, m, cap⟩ := by
  obtain ⟨r1, r2, r3⟩ := row_base hr
  have hp : x'.p = p' := by rw [hx]
  refine { i := by rw [hx]; exact h.i, k := by rw [hx]; exact h.k, l := by rw [hx]; exact h.l, o := by rw [hx]; exact h.o, s := hs, n := by rw [hp]; exact r2, pts := ?_, far := fun a ha => ?_, nil := r3 }
  · rw [hp]
    exact (pts_only hr.pts ho (Nat.le_refl _) fun a ha => by have := r1 a ha; omega).mono ho.size
  · have := r1 a ha; omega
end Go.Proofs.YthnkpoagpjnopaaDoor.InoW

namespace Go.Proofs.YthnkpoagpjnopaaDoor.InoW
set_option maxRecDepth 100000
open Go.RowKit InoP ExtW
variable {tb b : Nat} {L : List Ino} {next : Int}
theorem trunc_no {i s : Int} (h : truncE L i s ≠ 0) : truncL L i s = L := by
  unfold truncL
  cases hf : find L i with
  | none => rfl
  | some x => exact if_neg h
theorem trunc_pre (i s : Int) : truncE L i s = if fileE L i = 0 then (if s < 0 ∨ 8192 < s then 67 else 0) else fileE L i := by
  unfold truncE fileE
  cases find L i with
  | none => simp
  | some x => by_cases h : x.k = 1 <;> simp [h]
set_option maxHeartbeats 800000 in
theorem clone_any (oa : Option Addr) (cap n : Nat) (l : List Pt) (hn0 : n = l.length) (hl : l.length ≤ 1000000) (hn : oa = none → n = 0 ∧ cap = 0) (w : World) (h : PtsAt w.heap.size oa l w) :
    Calls Tryd.prog 36 #[.slice oa n cap] w fun e w' => ∃ oa' cap', e = .returned (.slice oa' l.length cap') ∧ Row w.heap.size w' (.slice oa' l.length cap') l ∧ Below w.heap.size w w' := by
  subst hn0
  obtain ⟨i0, hi, hz0, hz1, hz2⟩ := info_parts partinfo
  have q37 : ∀ (w : World) (a : Option Addr) (n c n' c' : Nat), (binOp .eql 23 (.slice a n c) (.slice none n' c')).run Tryd.prog w = .ok (.bool a.isNone) w := fun w a n c n' c' => Lib.run_eql_slice_nil w _ _ a n c n' c' Tryd.underlying23
  have HP := Lib.hid h
  have HNI := Lib.hid hn
  cases oa with
  | none =>
    have hl0 : l.length = 0 := (hn rfl).1
    have HL0 := Lib.hid hl0
    clear h hn hl hl0
    go_enter Tryd.func36, Tryd.ntmps36
    go_wp2_with fail
    go_ret
    have hle : l = [] := List.eq_nil_of_length_eq_zero HL0.out
    exact ⟨none, 0, by rw [HL0.out]; rfl, by rw [hle]; exact Row.nil _ _, Below.refl _ _⟩
  | some a =>
    clear h hn
    go_enter Tryd.func36, Tryd.ntmps36
    go_wp2_with (at_builtin; go_loud (refine wpList_append_copy rfl _ _ 23 rfl 64 i0 (.agg #[.int .i64 0, .int .i64 0, .int .i64 0, .int .i64 0]) 4 32 Tryd.underlying23 hi hz0 hz1 hz2 rfl (by decide) (by rfl) (some a) l.length cap (cellsOf l) (by rfl) HNI.out (cells_len l) (pts_news HP.out) (cells_onecell l) (by unfold maxLen; omega) (by omega) ?_; intro oa2 cap2 w2 hown2 hb2; have HR2 := Lib.hid hown2; have HB2 := Lib.hid hb2; clear hown2 hb2))
    go_ret
    exact ⟨oa2, cap2, rfl, HR2.out, HB2.out⟩
/-- the parts that are told -/
def partsL (L : List Ino) (i : Int) : List Pt := ((find L i).map (·.p)).getD []
def opensI (L : List Ino) (i : Int) : Int := ((find L i).map (·.o)).getD 0
set_option maxHeartbeats 800000 in
theorem parts_any (i : Int) (hi : iOk i) (w : World) (h : TIs w tb b L next) :
    Calls Tryd.prog 18 #[.pointer (some ⟨tb, 0, none⟩), .int .i64 i] w fun e w' => ∃ oa' cap', e = .returned (.slice oa' (partsL L i).length cap') ∧ Row w.heap.size w' (.slice oa' (partsL L i).length cap') (partsL L i) ∧ Below w.heap.size w w' := by
  rcases h.all i with ⟨hf, hget⟩ | ⟨x, yi, yk, yl, yo, ys, oa, n, c, hf, hg, hr, hget⟩
  · have HC := Lib.hid (hget _ (Below.refl _ _) hi)
    have HE : Hid (partsL L i = []) := Lib.hid (by unfold partsL; rw [hf]; rfl)
    clear h hi hf hget
    go_enter Tryd.func18, Tryd.ntmps18
    go_wp2_with (first
      | (go_at_call 35; refine HC.out.mono ?_; rintro e w2 ⟨rfl, hb2⟩; have HB2 := Lib.hid hb2; clear hb2)
      | (go_at_call 36; go_loud (refine (clone_any none 0 0 [] rfl (by simp) (fun _ => ⟨rfl, rfl⟩) _ (fun i x hx => by simp at hx)).mono ?_; rintro e w3 ⟨oa3, cap3, rfl, hr3, hb3⟩; have HR3 := Lib.hid hr3; have HB3 := Lib.hid (bstep (bstep HB2.out (below_alloc w2 _)) hb3); have HS2 : Hid (w.heap.size ≤ (w2.alloc (.cells #[.int .i64 0, .int .i64 0, .int .i64 0, .int .i64 0, .int .i64 0, .slice none 0 0] 86)).heap.size) := Lib.hid (bstep HB2.out (below_alloc w2 _)).size; clear hr3 hb3)))
    go_ret
    exact ⟨oa3, cap3, by rw [HE.out]; rfl, by rw [HE.out]; exact HR3.out.mono HS2.out, HB3.out⟩
  · have HC := Lib.hid (hget _ (Below.refl _ _))
    have HE : Hid (partsL L i = x.p) := Lib.hid (by unfold partsL; rw [hf]; rfl)
    obtain rfl : n = x.p.length := hr.n
    have HL : Hid (x.p.length ≤ 64) := Lib.hid hg.p.1
    have HP : Hid (∀ w', Below w.heap.size w w' → PtsAt w'.heap.size oa x.p w') := Lib.hid fun w' k => hr.pts.grow k
    have HNI : Hid (oa = none → x.p.length = 0 ∧ c = 0) := Lib.hid hr.nil
    clear h hi hf hget hg hr
    go_enter Tryd.func18, Tryd.ntmps18
    go_wp2_with (first
      | (go_at_call 35; refine HC.out.mono ?_; rintro e w2 ⟨rfl, hb2⟩; have HB2 := Lib.hid hb2; clear hb2)
      | (go_at_call 36; go_loud (refine (clone_any oa c _ x.p rfl (by have := HL.out; omega) HNI.out _ (HP.out _ (bstep HB2.out (below_alloc w2 _)))).mono ?_; rintro e w3 ⟨oa3, cap3, rfl, hr3, hb3⟩; have HR3 := Lib.hid hr3; have HB3 := Lib.hid (bstep (bstep HB2.out (below_alloc w2 _)) hb3); have HS2 := Lib.hid (bstep HB2.out (below_alloc w2 (.cells #[.int .i64 yi, .int .i64 yk, .int .i64 yl, .int .i64 yo, .int .i64 ys, .slice oa x.p.length c] 86))); clear hr3 hb3)))
    go_ret
    exact ⟨oa3, cap3, by rw [HE.out]; rfl, by rw [HE.out]; exact HR3.out.mono HS2.out.size, HB3.out⟩
end Go.Proofs.YthnkpoagpjnopaaDoor.InoW

namespace Go.Proofs.YthnkpoagpjnopaaDoor.InoW
set_option maxRecDepth 100000
open Go.RowKit InoP ExtW
def encI (y : IV) : List Value := [.int .i64 y.i, .int .i64 y.k, .int .i64 y.l, .int .i64 y.o, .int .i64 y.s, .slice y.oa y.n y.c]
theorem encI_len (y : IV) : (encI y).length = 6 := rfl
theorem encI_one (y : IV) : ∀ v ∈ encI y, v.oneCell' = true := by
  intro v hv; simp [encI] at hv; rcases hv with rfl | rfl | rfl | rfl | rfl | rfl <;> rfl
/-- what is read is the inode -/
structure IRead (w : World) (x : Ino) (y : IV) : Prop where
  i : y.i = x.i
  k : y.k = x.k
  l : y.l = x.l
  o : y.o = x.o
  s : y.s = x.s
  n : y.n = x.p.length
  pts : PtsAt w.heap.size y.oa x.p w
  nil : y.oa = none → y.n = 0 ∧ y.c = 0
theorem IRead.grow {w w' : World} {x : Ino} {y : IV} (h : IRead w x y) (k : Below w.heap.size w w') : IRead w' x y := { h with pts := h.pts.grow k }
theorem IRel.read {w : World} {tb b : Nat} {x : Ino} {y : IV} (h : IRel w tb b x y) : IRead w x y := ⟨h.i, h.k, h.l, h.o, h.s, h.n, h.pts, h.nil⟩
/-- each is read so -/
def IReads (w : World) (xs : List Ino) (ys : List IV) : Prop := ys.length = xs.length ∧ ∀ (i : Nat) (x : Ino) (y : IV), xs[i]? = some x → ys[i]? = some y → IRead w x y
theorem IReads.grow {w w' : World} {xs : List Ino} {ys : List IV} (h : IReads w xs ys) (k : Below w.heap.size w w') : IReads w' xs ys := ⟨h.1, fun i x y hx hy => (h.2 i x y hx hy).grow k⟩
theorem IReads.nil (w : World) : IReads w [] [] := ⟨rfl, fun i x y h => by simp at h⟩
theorem IReads.snoc {w : World} {xs : List Ino} {ys : List IV} (h : IReads w xs ys) {x : Ino} {y : IV} (hr : IRead w x y) : IReads w (xs ++ [x]) (ys ++ [y]) := by
  refine ⟨by simp [h.1], fun i a b ha hb => ?_⟩
  by_cases hi : i < xs.length
  · rw [List.getElem?_append_left hi] at ha
    rw [List.getElem?_append_left (by rw [h.1]; exact hi)] at hb
    exact h.2 i a b ha hb
  · have hi2 : i = xs.length := by have := (List.getElem?_eq_some_iff.1 ha).1; simp at this; omega
    subst hi2
    have e1 : x = a := by simpa using ha
    have e2 : y = b := by rw [← h.1] at hb; simpa using hb
    rw [← e1, ← e2]; exact hr
/-- a list that came in, or was made -/
structure IList (w : World) (oa : Option Addr) (xs : List Ino) (ys : List IV) : Prop where
  at_ : KAt encI 6 w.heap.size oa ys w
  read : IReads w xs ys
theorem IList.grow {w w' : World} {oa : Option Addr} {xs : List Ino} {ys : List IV} (h : IList w oa xs ys) (k : Below w.heap.size w w') : IList w' oa xs ys := ⟨h.at_.grow k, h.read.grow k⟩
theorem iv_at {B : Nat} {oa : Option Addr} {ys : List IV} {w : World} (h : KAt encI 6 B oa ys w) {i : Nat} {y : IV} (hy : ys[i]? = some y) :
    ∃ a, oa = some a ∧ a.block < B ∧ w.cell? (a.add (i * 6)) = some (.int .i64 y.i) ∧ w.cell? ⟨(a.add (i * 6)).block, (a.add (i * 6)).off + 1, none⟩ = some (.int .i64 y.k) ∧ w.cell? ⟨(a.add (i * 6)).block, (a.add (i * 6)).off + 2, none⟩ = some (.int .i64 y.l) ∧
      w.cell? ⟨(a.add (i * 6)).block, (a.add (i * 6)).off + 3, none⟩ = some (.int .i64 y.o) ∧ w.cell? ⟨(a.add (i * 6)).block, (a.add (i * 6)).off + 4, none⟩ = some (.int .i64 y.s) ∧ w.cell? ⟨(a.add (i * 6)).block, (a.add (i * 6)).off + 5, none⟩ = some (.slice y.oa y.n y.c) := by
  obtain ⟨a, h1, h2, h3⟩ := h i y hy
  exact ⟨a, h1, h2, h3 0 _ rfl, h3 1 _ rfl, h3 2 _ rfl, h3 3 _ rfl, h3 4 _ rfl, h3 5 _ rfl⟩
theorem ino_info : (Tryd.prog.info? 86).map (fun i => (i.zero, i.size, i.bytes)) = some (some (.agg #[.int .i64 0, .int .i64 0, .int .i64 0, .int .i64 0, .int .i64 0, .slice none 0 0]), 6, 64) := by kernel_rfl
theorem take_snocI {α : Type} {l : List α} {k : Nat} {x : α} (h : l[k]? = some x) : l.take (k + 1) = l.take k ++ [x] := by
  rw [List.take_add_one, h]; rfl
/-- a row of the call's own, when another block is set -/
theorem row_setI {α : Type} {enc : α → List Value} {k B c i : Nat} {T : TypeId} {w : World} {v : Value} {l : List α} (h : RowK T enc k B w v l) (hc : v.ownBlock ≠ some c) (u : Value) : RowK T enc k B (w.setCell ⟨c, i, none⟩ u) v l :=
  ((Only.refl c w).setCell i u).keepRow h hc
theorem row_farI {α : Type} {enc : α → List Value} {k B : Nat} {T : TypeId} {w : World} {v : Value} {l : List α} (h : RowK T enc k B w v l) {c : Nat} (hc : w.heap.size ≤ c) : v.ownBlock ≠ some c := fun e => by
  have := World.ownsRow.lt h c e; omega
theorem alloc_size (w : World) (o : Obj) : (w.alloc o).heap.size = w.heap.size + 1 := by simp
theorem wpList_append_newH {P : Program} {ops : Array Oper} {rest : List Oper} {o : Oper} {a : Act} {Q : Exit → Act → World → Prop} (hgd : o.guard = none) (s x : Operand) (t : TypeId)
    (ho : o.op = .call { callee := .builtin .append, args := #[s, x], argTypes := #[t, t] })
    (base : Nat) (e : TypeId) (i : TypeInfo) (z : Value) (size bytes : Nat) (ht : P.underlying t = some (.slice e)) (hi : P.info? e = some i) (hz : i.zero = some z)
    (hsize : i.size = size) (hby : i.bytes = bytes) (hzs : z.cells.size = size) (hsz : 0 < size)
    {W : World} (v : Value) (n : Nat) (xs : List Value) (hs : a.eval s = v) (hown : W.ownsRow base e size v n xs)
    {cs : Array Value} {T : TypeId} (b m c : Nat) (hx : a.eval x = .slice (some ⟨b, 0, none⟩) m c) (hl : cs.size = m * size) (h1 : ∀ u ∈ cs.toList, u.oneCell' = true)
    (h63 : n + m ≤ maxLen) (hbytes : (n + m) * bytes ≤ 140737488355328) (hbase : base ≤ W.heap.size) (hb : W.heap.size = b)
    (h : ∀ oa cap w', w'.ownsRow base e size (.slice oa (n + m) cap) (n + m) (xs ++ cs.toList) → Below base W w' → W.grownBy w' v.ownBlock → ((Value.slice oa (n + m) cap).ownBlock = v.ownBlock ∨ (Value.slice oa (n + m) cap).ownBlock = some (W.heap.size + 1)) → wpList P ops Q rest (a.put o.dst (.slice oa (n + m) cap)) w') :
    wpList P ops Q (o :: rest) a (W.alloc (.cells cs T)) := by
  subst hb
  have hown' : (W.alloc (.cells cs T)).ownsRow base e size v n xs := hown.alloc _
  refine wpList_append_own_at (W.alloc (.cells cs T)) hgd s x t ho base e i z size bytes ht hi hz hsize hby hzs hsz v n xs hs hown' ⟨W.heap.size, 0, none⟩ m c cs.toList hx (by simpa using hl) (World.news_of_block (heap_alloc_new W _)) h1 h63 hbytes (by simp; omega) ?_
  intro v' w' h2 h3 _ h5
  have h4 : W.grownBy w' v.ownBlock := grown_from_alloc h3
  obtain ⟨oa, cap, rfl⟩ := row_form h2
  exact h oa cap w' h2 (below_of_grown h4 hown hbase) h4 (by simpa using h5)
/-- a list of the call's own -/
structure RowI (T : TypeId) (B : Nat) (w : World) (v : Value) (xs : List Ino) (zs : List IV) : Prop where
  row : RowK T encI 6 B w v zs
  read : IReads w xs zs
  far : ∀ (i : Nat) (x : Ino) (z : IV), xs[i]? = some x → zs[i]? = some z → x.p ≠ [] → ∀ a, z.oa = some a → v.ownBlock ≠ some a.block
theorem RowI.nil (T : TypeId) (B : Nat) (w : World) : RowI T B w (.slice none 0 0) [] [] := ⟨RowK.nil _ _, IReads.nil _, fun i x z h => by simp at h⟩
theorem RowI.grow {T : TypeId} {B : Nat} {w w' : World} {v : Value} {xs : List Ino} {zs : List IV} (h : RowI T B w v xs zs) (k : Below w.heap.size w w') : RowI T B w' v xs zs := ⟨h.row.grow k, h.read.grow k, h.far⟩
theorem RowI.list {T : TypeId} {B n cap : Nat} {w : World} {oa : Option Addr} {xs : List Ino} {zs : List IV} (h : RowI T B w (.slice oa n cap) xs zs) : IList w oa xs zs := ⟨RowK.pts encI_len (by omega) h.row, h.read⟩
theorem pts_grown {oa : Option Addr} {l : List Pt} {w w' : World} {r : Option Nat} (h : PtsAt w.heap.size oa l w) (hg : w.grownBy w' r) (hne : l ≠ [] → ∀ a, oa = some a → r ≠ some a.block) : PtsAt w'.heap.size oa l w' := by
  intro i x hx
  have hl : l ≠ [] := fun e => by rw [e] at hx; simp at hx
  obtain ⟨a, h1, h2, d0, d1, d2, d3⟩ := h i x hx
  have hb : w'.heap[a.block]? = w.heap[a.block]? := hg.block _ h2 (fun e => hne hl a h1 e.symm)
  have hc : ∀ q : Addr, q.block = a.block → w'.cell? q = w.cell? q := fun q hq => by unfold World.cell?; rw [hq, hb]
  exact ⟨a, h1, Nat.lt_of_lt_of_le h2 hg.size, (hc (a.add (i * 4)) (add_block _ _)).trans d0, (hc ⟨(a.add (i * 4)).block, (a.add (i * 4)).off + 1, none⟩ (add_block _ _)).trans d1,
    (hc ⟨(a.add (i * 4)).block, (a.add (i * 4)).off + 2, none⟩ (add_block _ _)).trans d2, (hc ⟨(a.add (i * 4)).block, (a.add (i * 4)).off + 3, none⟩ (add_block _ _)).trans d3⟩
theorem IRead.lt {w : World} {x : Ino} {z : IV} (h : IRead w x z) (hp : x.p ≠ []) : ∀ a, z.oa = some a → a.block < w.heap.size := fun a ha => by
  obtain ⟨y, l, hy⟩ : ∃ y l, x.p = y :: l := by
    cases hq : x.p with
    | nil => exact absurd hq hp
    | cons y l => exact ⟨y, l, rfl⟩
  obtain ⟨a', h1, h2, _⟩ := h.pts 0 y (by rw [hy]; rfl)
  rw [ha] at h1; injection h1 with h1
  rw [h1]; exact h2
/-- one more: its parts lie behind all that was there when the row stood in wr -/
theorem RowI.snoc {T : TypeId} {B n cz cap5 : Nat} {wr W6 w5 : World} {oz oa5 : Option Addr} {xs : List Ino} {zs : List IV} {x : Ino} {y : IV} {cs : Array Value} (h : RowI T B wr (.slice oz n cz) xs zs) (hz : zs.length = n) (hb : Below wr.heap.size wr W6)
    (hy : IRead W6 x y) (hyb : x.p ≠ [] → ∀ a, y.oa = some a → wr.heap.size ≤ a.block) (hcs : cs.toList = encI y) (ho : w5.ownsRow B T 6 (.slice oa5 (n + 1) cap5) (n + 1) (zs.flatMap encI ++ cs.toList))
    (hg : W6.grownBy w5 (Value.slice oz n cz).ownBlock) (hv : (Value.slice oa5 (n + 1) cap5).ownBlock = (Value.slice oz n cz).ownBlock ∨ (Value.slice oa5 (n + 1) cap5).ownBlock = some (W6.heap.size + 1)) :
    RowI T B w5 (.slice oa5 (n + 1) cap5) (xs ++ [x]) (zs ++ [y]) := by
  have hold : ∀ g, (Value.slice oz n cz).ownBlock = some g → g < wr.heap.size := fun g e => (World.ownsRow.lt h.row g e).2
  have hyf : x.p ≠ [] → ∀ a, y.oa = some a → (Value.slice oz n cz).ownBlock ≠ some a.block := fun hp a ha e => by
    have := hold _ e; have := hyb hp a ha; omega
  have hr : IReads w5 xs zs := ⟨h.read.1, fun i a z ha hz' => by
    have q := (h.read.2 i a z ha hz').grow hb
    exact { q with pts := pts_grown q.pts hg (h.far i a z ha hz') }⟩
  refine ⟨RowK.snoc y hcs hz.symm ho, hr.snoc { hy with pts := pts_grown hy.pts hg hyf }, fun i a z ha hz' hp ad had => ?_⟩
  by_cases hi : i < xs.length
  · rw [List.getElem?_append_left hi] at ha
    rw [List.getElem?_append_left (by rw [h.read.1]; exact hi)] at hz'
    rcases hv with e | e
    · rw [e]; exact h.far i a z ha hz' hp ad had
    · rw [e]
      intro e2
      injection e2 with e2
      have := ((h.read.2 i a z ha hz').grow hb).lt hp ad had
      omega
  · have hi2 : i = xs.length := by have := (List.getElem?_eq_some_iff.1 ha).1; simp at this; omega
    subst hi2
    have e1 : x = a := by simpa using ha
    have e2 : y = z := by rw [← h.read.1] at hz'; simpa using hz'
    rw [← e1] at hp; rw [← e2] at had
    rcases hv with e | e
    · rw [e]; exact hyf hp ad had
    · rw [e]
      intro e3
      injection e3 with e3
      have := hy.lt hp ad had
      omega
theorem own_after {T : TypeId} {B k cz : Nat} {oz : Option Addr} {wr w2 : World} {zs : List IV} (h : RowK T encI 6 B wr (.slice oz k cz) zs) (hz : zs.length = k) (hb : Below wr.heap.size wr w2) (u : Value) :
    (w2.setCell ⟨wr.heap.size, 5, none⟩ u).ownsRow B T 6 (.slice oz k cz) k (zs.flatMap encI) := by
  have q := row_setI (i := 5) (h.grow hb) (row_farI h (Nat.le_refl _)) u
  unfold RowK at q
  rwa [hz] at q
theorem set_after {wr w2 : World} (hb : Below wr.heap.size wr w2) (u : Value) : Below wr.heap.size wr (w2.setCell ⟨wr.heap.size, 5, none⟩ u) := hb.setCell (p := ⟨wr.heap.size, 5, none⟩) (Nat.le_refl _) u
set_option maxHeartbeats 3200000 in
theorem copied_any (oa : Option Addr) (cap : Nat) (xs : List Ino) (ys : List IV) (hp : ∀ x ∈ xs, x.p.length ≤ 100000) (hl : xs.length ≤ 100000) (W : World) (h : IList W oa xs ys) :
    Calls Tryd.prog 30 #[.slice oa xs.length cap] W fun e w' => ∃ oa' cap' zs, e = .returned (.slice oa' xs.length cap') ∧ RowI 86 W.heap.size w' (.slice oa' xs.length cap') xs zs ∧ Below W.heap.size W w' := by
  obtain ⟨i0, hi, hz0, hz1, hz2⟩ := info_parts ino_info
  obtain ⟨j0, hj, gz0, gz1, gz2⟩ := info_parts partinfo
  have H := Lib.hid h
  have HPL := Lib.hid hp
  have hlen := h.read.1
  clear h hp
  go_enter Tryd.func30, Tryd.ntmps30
  go_wp2_with fail
  go_loopw [3, 4] (fun v i wr => ∃ (k : Nat) (zs : List IV), k ≤ xs.length ∧ i = .int .i64 (k : Int) ∧ RowI 86 W.heap.size wr v (xs.take k) zs ∧ Below W.heap.size W wr) (fun _ i _ => (xs.length - intOf i).toNat)
  case atStart => exact ⟨0, [], by omega, rfl, RowI.nil _ _ _, Below.refl _ _⟩
  case round =>
    obtain ⟨k, zs, hk, rfl, hrow, hbel⟩ := hrel
    have HB := Lib.hid hbel
    have HZ : Hid (zs.length = k) := Lib.hid (by rw [hrow.read.1, List.length_take]; omega)
    obtain ⟨oz, cz, rfl, hcz, _, _⟩ := hrow.row.form
    have hzk := HZ.out
    rw [hzk] at hrow hcz ⊢
    have HRI := Lib.hid hrow
    have HROW := Lib.hid hrow.row
    clear hbel hrow hzk
    by_cases hlt : k < xs.length
    · obtain ⟨x, hx⟩ : ∃ x, xs[k]? = some x := ⟨_, List.getElem?_eq_getElem hlt⟩
      obtain ⟨y, hy⟩ : ∃ y, ys[k]? = some y := ⟨_, List.getElem?_eq_getElem (by omega)⟩
      obtain ⟨yi, yk, yl, yo, ys', ya, yn, yc⟩ := y
      have HH := Lib.hid (H.out.grow HB.out)
      have hr := HH.out.read.2 k x _ hx hy
      obtain ⟨a, rfl, _, c0, c1, c2, c3, c4, c5⟩ := iv_at HH.out.at_ hy
      simp only at c0 c1 c2 c3 c4 c5
      obtain rfl : yn = x.p.length := hr.n
      have HR := Lib.hid hr
      have HPX : Hid (x.p.length ≤ 100000) := Lib.hid (HPL.out x (List.mem_of_getElem? hx))
      have HTX := Lib.hid (take_snocI hx)
      have HPB : Hid (PtsAt (wr.alloc (.cells #[.int .i64 yi, .int .i64 yk, .int .i64 yl, .int .i64 yo, .int .i64 ys', .slice ya x.p.length yc] 86)).heap.size ya x.p (wr.alloc (.cells #[.int .i64 yi, .int .i64 yk, .int .i64 yl, .int .i64 yo, .int .i64 ys', .slice ya x.p.length yc] 86))) := Lib.hid (hr.pts.grow (below_alloc wr _))
      clear hx hy hr
      go_wp2_with (first
        | (have hz := HR2.out; clear hz; at_builtin; go_loud (refine wpList_append_newH rfl _ _ 45 rfl W.heap.size 86 i0 (.agg #[.int .i64 0, .int .i64 0, .int .i64 0, .int .i64 0, .int .i64 0, .slice none 0 0]) 6 64 Tryd.underlying45 hi hz0 hz1 hz2 rfl (by decide) _ _ _ (by rfl) HOWN6.out _ 1 1 (by rfl) rfl (encI_one ⟨yi, yk, yl, yo, ys', oa2, x.p.length, cap2⟩) (by unfold maxLen; omega) (by omega) (by have := HB.out.size; have := HB6.out.size; omega) (by simp) ?_; intro oa5 cap5 w5 hown5 hbel5 hg5 hv5; have HV5 := Lib.hid hv5; have HS5 := Lib.hid hown5; have HB5 := Lib.hid hbel5; have HG5 := Lib.hid hg5; clear hown5 hbel5 hg5 hv5))
        | (at_builtin; go_loud (refine wpList_append_copy rfl _ _ 23 rfl 64 j0 (.agg #[.int .i64 0, .int .i64 0, .int .i64 0, .int .i64 0]) 4 32 Tryd.underlying23 hj gz0 gz1 gz2 rfl (by decide) (by rw [alloc_size]; rfl) ya x.p.length yc (cellsOf x.p) (by rfl) HR.out.nil (cells_len x.p) (pts_news HPB.out) (cells_onecell x.p) (by have := HPX.out; unfold maxLen; omega) (by have := HPX.out; omega) ?_; intro oa2 cap2 w2 hown2 hb2; have HR2 := Lib.hid hown2; have HB2 := Lib.hid hb2; have hbx : IBox w2 wr.heap.size ⟨yi, yk, yl, yo, ys', ya, x.p.length, yc⟩ := new_kept hb2; obtain ⟨b0, b1, b2, b3, b4, b5⟩ := hbx.cells; have f5 := Lib.frozen_of_heap hbx 5; have HOWN6 := Lib.hid (own_after HROW.out HZ.out (bstep (below_alloc wr _) hb2) (.slice oa2 x.p.length cap2)); have HB6 := Lib.hid (set_after (bstep (below_alloc wr (.cells #[.int .i64 yi, .int .i64 yk, .int .i64 yl, .int .i64 yo, .int .i64 ys', .slice ya x.p.length yc] 86)) hb2) (.slice oa2 x.p.length cap2)); clear c0 c1 c2 c3 c4 c5 hown2 hb2 hbx)))
      have hr6 : Row (wr.alloc (.cells #[.int .i64 yi, .int .i64 yk, .int .i64 yl, .int .i64 yo, .int .i64 ys', .slice ya x.p.length yc] 86)).heap.size (w2.setCell ⟨wr.heap.size, 5, none⟩ (.slice oa2 x.p.length cap2)) (.slice oa2 x.p.length cap2) x.p :=
        ((Only.refl wr.heap.size w2).setCell 5 _).keepRow HR2.out (fun e => by
          have hq := (row_base HR2.out).1
          cases oa2 with
          | none => simp [Value.ownBlock] at e
          | some ad => have := (hq ad rfl).1; simp [Value.ownBlock] at e; simp at this; omega)
      have hr0 := HR.out
      have hyr : IRead (w2.setCell ⟨wr.heap.size, 5, none⟩ (.slice oa2 x.p.length cap2)) x ⟨yi, yk, yl, yo, ys', oa2, x.p.length, cap2⟩ := ⟨hr0.i, hr0.k, hr0.l, hr0.o, hr0.s, rfl, hr6.pts, (row_base hr6).2.2⟩
      have hfin := HRI.out.snoc HZ.out HB6.out hyr (fun _ a ha => by have := ((row_base hr6).1 a ha).1; simp at this; omega) rfl HS5.out HG5.out HV5.out
      rw [← HTX.out] at hfin
      exact ⟨⟨k + 1, _, by omega, by simp, hfin, HB.out.trans ((HB6.out.mono HB.out.size).trans HB5.out)⟩, by simp [intOf]; omega⟩
    · obtain rfl : k = xs.length := by omega
      rw [List.take_length] at HRI
      go_wp2_with fail
      go_ret
      exact ⟨oz, cz, zs, rfl, HRI.out, HB.out⟩
end Go.Proofs.YthnkpoagpjnopaaDoor.InoW

namespace Go.Proofs.YthnkpoagpjnopaaDoor.InoP
open ExtW (Pt endL endS)
/-- one inode at its place -/
structure OkX (next : Int) (x : Ino) : Prop where
  i1 : 1 ≤ x.i
  i2 : x.i < next
  k : x.k = 1 ∨ x.k = 2
  l : 0 ≤ x.l ∧ x.l ≤ 8
  o : 0 ≤ x.o ∧ x.o ≤ 128
  h : x.l + x.o ≠ 0
  d : x.k = 1 → x.o = 0 ∧ x.s = 0 ∧ x.p.length = 0
  s : 0 ≤ x.s ∧ x.s ≤ 8192
  g : ExtW.Good x.p
  e : endS x.p ≤ x.s
def OkI (xs : List Ino) (next : Int) (i : Nat) : Prop := ∀ x, xs[i]? = some x → OkX next x ∧ ∀ p, 0 < i → xs[i - 1]? = some p → p.i < x.i
structure LGood (xs : List Ino) (next : Int) : Prop where
  n : 2 ≤ next ∧ next ≤ 2147483647
  len : 1 ≤ xs.length ∧ xs.length ≤ 64
  all : ∀ i, i < xs.length → OkI xs next i
  first : ∀ x, xs[0]? = some x → x.i = 1 ∧ x.k = 1 ∧ x.l = 1
theorem LGood.mem {xs : List Ino} {next : Int} (h : LGood xs next) {x : Ino} (hx : x ∈ xs) : OkX next x := by
  obtain ⟨i, hi, rfl⟩ := List.getElem_of_mem hx
  exact (h.all i hi _ (List.getElem?_eq_getElem hi)).1
theorem LGood.adj {xs : List Ino} {next : Int} (h : LGood xs next) {i : Nat} {a b : Ino} (ha : xs[i]? = some a) (hb : xs[i + 1]? = some b) : a.i < b.i :=
  (h.all (i + 1) (List.getElem?_eq_some_iff.1 hb).1 b hb).2 a (by omega) ha
theorem LGood.lt {xs : List Ino} {next : Int} (h : LGood xs next) : ∀ (d i : Nat) {a b : Ino}, xs[i]? = some a → xs[i + 1 + d]? = some b → a.i < b.i
  | 0, i, a, b, ha, hb => h.adj ha hb
  | d + 1, i, a, b, ha, hb => by
    have hj := (List.getElem?_eq_some_iff.1 hb).1
    obtain ⟨c, hc⟩ : ∃ c, xs[i + 1 + d]? = some c := ⟨_, List.getElem?_eq_getElem (by omega)⟩
    have h1 := h.lt d i ha hc
    have h2 := h.adj (i := i + 1 + d) hc (by rw [← hb]; rfl)
    omega
theorem LGood.rises {xs : List Ino} {next : Int} (h : LGood xs next) : Rises xs := by
  refine List.pairwise_iff_getElem.2 fun i j hi hj hij => ?_
  have := h.lt (j - i - 1) i (List.getElem?_eq_getElem hi) (b := xs[j]) (by rw [show i + 1 + (j - i - 1) = j by omega]; exact List.getElem?_eq_getElem hj)
  exact this
theorem OkX.good {next : Int} {x : Ino} (h : OkX next x) : IGood x := by
  refine ⟨h.k, h.l, h.o, h.s, h.g, ?_, fun e => ?_⟩
  · have := h.e
    unfold endS at this
    rwa [if_pos h.g] at this
  · obtain ⟨a, b, c⟩ := h.d e
    exact ⟨a, b, List.eq_nil_of_length_eq_zero c⟩
theorem LGood.table {xs : List Ino} {next : Int} (h : LGood xs next) : TGood xs next :=
  ⟨h.rises, fun _ hx => (h.mem hx).good, fun _ hx => ⟨(h.mem hx).i1, (h.mem hx).i2⟩, h.len.2, h.n⟩
/-- the first k, put one behind the other -/
theorem take_find {xs : List Ino} (hr : Rises xs) {k : Nat} {x : Ino} (hx : xs[k]? = some x) : find (xs.take k) x.i = none := by
  refine find_none.2 fun a ha e => ?_
  obtain ⟨i, hi, rfl⟩ := List.getElem_of_mem ha
  have hk := (List.getElem?_eq_some_iff.1 hx).1
  have hx' := (List.getElem?_eq_some_iff.1 hx).2
  rw [List.length_take] at hi
  rw [List.getElem_take] at e
  have := List.pairwise_iff_getElem.1 hr i k (by omega) hk (by omega)
  rw [hx'] at this
  omega
end Go.Proofs.YthnkpoagpjnopaaDoor.InoP

namespace Go.Proofs.YthnkpoagpjnopaaDoor.InoW
set_option maxRecDepth 100000
open Go.RowKit InoP ExtW Go.Maps Go.Sort Go.Shelf
variable {tb b : Nat} {L : List Ino} {next : Int}
theorem sortsA (m : Nat) : AnyZI.SortsIn Tryd.prog Tryd.sortedA_ren Fence.wide m :=
  ⟨fun blk off cap ss W hH hblk hsz => callsIn_wide.2 (AnyM.slices_Sort_int Tryd.sortA blk off cap ss W hH hblk hsz),
   fun p cap W => callsIn_wide.2 (AnyM.slices_Sort_int_none Tryd.sortA p cap W)⟩
theorem sort_keys {ss : List Int} (hL : Rises L) (h : ss.Perm (L.map (·.i))) : ss.mergeSort (fun x y => decide (x ≤ y)) = L.map (·.i) := by
  have hk := (rises_keys L).1 hL
  refine List.Perm.eq_of_pairwise (le := fun a b : Int => a ≤ b) (fun a b _ _ h1 h2 => Int.le_antisymm h1 h2) ?_ (hk.imp fun h => by omega) ((List.mergeSort_perm _ _).trans h)
  refine (List.pairwise_mergeSort (le := fun x y : Int => decide (x ≤ y)) (fun a b c h1 h2 => ?_) (fun a b => ?_) ss).imp fun h => by simpa using h
  · simp only [decide_eq_true_eq] at *; omega
  · simp only [Bool.or_eq_true, decide_eq_true_eq]; omega
set_option maxHeartbeats 1600000 in
theorem all_any (w : World) (h : TIs w tb b L next) :
    Calls Tryd.prog 31 #[.pointer (some ⟨tb, 0, none⟩)] w fun e w' => ∃ oa cap, e = .returned (.slice oa L.length cap) ∧ w'.ownsRow w.heap.size 3 1 (.slice oa L.length cap) L.length (L.map fun x => Value.int .i64 x.i) ∧ (oa = none → L.length = 0 ∧ cap = 0) ∧ Below w.heap.size w w' := by
  refine (callsIn_wide (n := 6)).1 ?_
  obtain ⟨n, g, o⟩ := h.op
  obtain ⟨k1, k2⟩ := keys_of h.good o.no o.yes
  obtain ⟨D0, hown, hperm, hsize, _⟩ := owns_keys o.m k1 k2 (by have := h.good.len; simp; omega)
  have hbl := hown.lt
  have hlen := h.good.len
  have hsz : Maps.size D0 = L.length := by rw [hsize]; simp
  have hseq : SeqGives Fence.wide 2 Tryd.prog 80 #[.pointer (some ⟨w.heap.size, 0, none⟩)] encZ (fun ss => ss.Perm (intKeys D0)) (Maps.size D0) (w.alloc (.cells #[.map (some b)] 105)) :=
    AnyZI.keys_gives (ρ := Tryd.keysA_ren) { Tryd.keysA with } Fence.wide _ trivial rfl (by omega) w.heap.size b _ D0 _ (by simp) (by simp) (by
      obtain ⟨es, clock, hb, Ft, hs, hD⟩ := hown
      exact ⟨es, clock, (Below.heap_alloc _ _ b hbl).trans hb, Ft, hs, hD⟩)
  have cK : ∀ mb W, CallsIn Fence.wide 5 Tryd.prog 54 #[.map mb] W fun e w' => e = .returned (.func (.func 80) #[] #[.pointer (some ⟨W.heap.size, 0, none⟩)]) ∧ w' = W.alloc (.cells #[.map mb] 105) := fun mb W => AnyZI.keys_in Tryd.keysA Fence.wide 5 trivial rfl mb W
  have cS := AnyZI.sorted_in Tryd.sortedA Fence.wide 5 trivial trivial trivial trivial rfl (by omega) (sortsA _) (enters_of Tryd.func79 (by kernel_rfl) rfl) 80 #[.pointer (some ⟨w.heap.size, 0, none⟩)] trivial (enters_of Tryd.func80 (by kernel_rfl) rfl) _ _ (by rw [hsz]; unfold maxLen; omega) (by rw [hsz]; omega) _ hseq
  change CallsIn _ _ Tryd.prog 53 _ _ _ at cS
  have hfK : Fence.wide.fn 54 := trivial
  have hfS : Fence.wide.fn 53 := trivial
  have h0 := h.m0.1
  have HG := Lib.hid h.good.rises
  have HPM := Lib.hid hperm
  have CK := Lib.hid cK
  have CS := Lib.hid cS
  clear h o k1 k2 hown hperm hsize hbl hlen hsz hseq cK cS
  refine callsIn_of_wp Tryd.func31 rfl trivial ?_ rfl
  simp only [Tryd.ntmps31, List.size_toArray, List.length_cons, List.length_nil, Nat.reduceAdd, Nat.reduceSub, Array.replicate_succ, Array.replicate_zero, List.push_toArray, List.append_toArray, List.nil_append, List.cons_append]
  gi_wp2_with (first
    | (gi_at_call 54; refine (CK.out _ _).mono ?_; rintro e w' ⟨rfl, rfl⟩)
    | (gi_at_call 53; refine CS.out.mono ?_; rintro e w' ⟨v, ss, rfl, hS, hrow, hnil, hb⟩; have HS := Lib.hid hS; have HROW := Lib.hid hrow; have HNIL := Lib.hid hnil; have HB := Lib.hid hb; clear hS hrow hnil hb))
  go_ret
  have hss : ss.Perm (L.map (·.i)) := HS.out.trans HPM.out
  have hlen : ss.length = L.length := by have := hss.length_eq; simpa using this
  have hrow := HROW.out
  rw [sort_keys HG.out hss, hlen, List.map_map] at hrow
  obtain ⟨oa, cap, rfl⟩ := row_form hrow
  refine ⟨oa, cap, rfl, ownsRow_base_a hrow (by simp), fun e => ?_, ((Below.refl _ w).alloc (Nat.le_refl _) _).trans (HB.out.mono (by simp))⟩
  rcases hrow.2 with ⟨e1, h1⟩ | ⟨gg, cap', cur, e1, _⟩
  · simp only [Value.slice.injEq] at e1
    exact ⟨h1, e1.2.2⟩
  · subst e; simp at e1
end Go.Proofs.YthnkpoagpjnopaaDoor.InoW
