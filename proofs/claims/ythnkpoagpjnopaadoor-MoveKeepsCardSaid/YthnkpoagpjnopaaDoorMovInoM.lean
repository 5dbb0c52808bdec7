/- Several texts in one, of what this seat needs. -/
import Derived.Test.YthnkpoagpjnopaaDoorMovInoX
import Derived.Test.YthnkpoagpjnopaaDoorSl
import Derived.Test.YthnkpoagpjnopaaDoorExtPlan
import Derived.Test.YthnkpoagpjnopaaDoorExtRow
import Derived.Test.YthnkpoagpjnopaaDoorMapDel
import Derived.Lib.SlKeysI
namespace Go.Proofs.YthnkpoagpjnopaaDoor.InoP
open ExtW (Pt endL)
/-- an inode -/
structure Ino where
  i : Int
  k : Int
  l : Int
  o : Int
  s : Int
  p : List Pt
deriving DecidableEq
def Rises (L : List Ino) : Prop := L.Pairwise fun a b => a.i < b.i
def find (L : List Ino) (i : Int) : Option Ino := L.find? fun a => decide (a.i = i)
def upd (L : List Ino) (x : Ino) : List Ino := L.map fun a => if a.i = x.i then x else a
def del (L : List Ino) (i : Int) : List Ino := L.filter fun a => !decide (a.i = i)
theorem find_mem {L : List Ino} {i : Int} {x : Ino} (h : find L i = some x) : x ∈ L ∧ x.i = i :=
  ⟨List.mem_of_find?_eq_some h, by simpa using List.find?_some h⟩
theorem find_none {L : List Ino} {i : Int} : find L i = none ↔ ∀ a ∈ L, a.i ≠ i := by
  unfold find; rw [List.find?_eq_none]; simp
theorem find_of_mem : ∀ {L : List Ino}, Rises L → ∀ {x : Ino}, x ∈ L → find L x.i = some x
  | [], _, x, hx => by simp at hx
  | a :: L, h, x, hx => by
    obtain ⟨h1, h2⟩ := List.pairwise_cons.1 h
    unfold find
    rw [List.find?_cons]
    rcases List.mem_cons.1 hx with rfl | hx
    · simp
    · have := h1 x hx
      rw [show decide (a.i = x.i) = false from decide_eq_false (by omega)]
      exact find_of_mem h2 hx
theorem find_iff {L : List Ino} (h : Rises L) {i : Int} {x : Ino} : find L i = some x ↔ x ∈ L ∧ x.i = i :=
  ⟨find_mem, fun ⟨h1, h2⟩ => by rw [← h2]; exact find_of_mem h h1⟩
theorem find_snoc (L : List Ino) (x : Ino) (h : find L x.i = none) : find (L ++ [x]) = fun z => if z = x.i then some x else find L z := by
  funext z
  unfold find at *
  rw [List.find?_append]
  by_cases hz : z = x.i
  · subst hz
    rw [h, if_pos rfl]; simp
  · rw [if_neg hz]
    have : List.find? (fun a => decide (a.i = z)) [x] = none := by simp [Ne.symm hz]
    rw [this]; simp
theorem find_upd (L : List Ino) (x y : Ino) (h : find L x.i = some y) : find (upd L x) = fun z => if z = x.i then some x else find L z := by
  funext z
  unfold find upd at *
  induction L with
  | nil => simp at h
  | cons a L ih =>
    rw [List.map_cons, List.find?_cons]
    rw [List.find?_cons] at h
    by_cases ha : a.i = x.i
    · rw [if_pos ha]
      by_cases hz : z = x.i
      · rw [if_pos hz, show decide (x.i = z) = true from decide_eq_true hz.symm]
      · rw [if_neg hz, show decide (x.i = z) = false from decide_eq_false (fun e => hz e.symm)]
        rw [List.find?_cons, show decide (a.i = z) = false from decide_eq_false (fun e => hz (by rw [← e, ha]))]
        clear ih h
        induction L with
        | nil => rfl
        | cons b L ih =>
          rw [List.map_cons, List.find?_cons, List.find?_cons]
          by_cases hb : b.i = x.i
          · rw [if_pos hb, show decide (x.i = z) = false from decide_eq_false (fun e => hz e.symm), show decide (b.i = z) = false from decide_eq_false (fun e => hz (by rw [← e, hb]))]
            exact ih
          · rw [if_neg hb]
            cases decide (b.i = z) with
            | true => rfl
            | false => exact ih
    · rw [show decide (a.i = x.i) = false from decide_eq_false ha] at h
      rw [if_neg ha, List.find?_cons]
      by_cases hz : a.i = z
      · rw [show decide (a.i = z) = true from decide_eq_true hz, if_neg (by rw [← hz]; exact ha)]
      · rw [show decide (a.i = z) = false from decide_eq_false hz]
        exact ih h
theorem find_del (L : List Ino) (i : Int) : find (del L i) = fun z => if z = i then none else find L z := by
  funext z
  unfold find del
  induction L with
  | nil => simp
  | cons a L ih =>
    by_cases ha : a.i = i
    · rw [List.filter_cons_of_neg (by simp [ha]), ih, List.find?_cons]
      by_cases hz : z = i
      · rw [if_pos hz, if_pos hz]
      · rw [if_neg hz, if_neg hz, show decide (a.i = z) = false from decide_eq_false (fun e => hz (by rw [← e, ha]))]
    · rw [List.filter_cons_of_pos (by simp [ha]), List.find?_cons, List.find?_cons, ih]
      by_cases hz : z = i
      · rw [show decide (a.i = z) = false from decide_eq_false (by rw [hz]; exact ha)]
      · simp only [if_neg hz]
theorem upd_keys (L : List Ino) (x : Ino) : (upd L x).map (·.i) = L.map (·.i) := by
  unfold upd
  rw [List.map_map]
  refine List.map_congr_left fun a _ => ?_
  simp only [Function.comp]
  split
  · rename_i h; exact h.symm
  · rfl
theorem rises_keys (L : List Ino) : Rises L ↔ (L.map (·.i)).Pairwise (· < ·) := by unfold Rises; rw [List.pairwise_map]
theorem upd_rises {L : List Ino} (h : Rises L) (x : Ino) : Rises (upd L x) := by rw [rises_keys, upd_keys, ← rises_keys]; exact h
theorem del_rises {L : List Ino} (h : Rises L) (i : Int) : Rises (del L i) := h.sublist List.filter_sublist
theorem upd_len (L : List Ino) (x : Ino) : (upd L x).length = L.length := by unfold upd; simp
theorem del_len (L : List Ino) (i : Int) : (del L i).length ≤ L.length := List.length_filter_le _ _
theorem upd_mem {L : List Ino} {x a : Ino} (h : a ∈ upd L x) : a = x ∨ a ∈ L := by
  unfold upd at h
  obtain ⟨b, hb, e⟩ := List.mem_map.1 h
  split at e
  · exact .inl e.symm
  · exact .inr (e ▸ hb)
theorem del_mem {L : List Ino} {i : Int} {a : Ino} (h : a ∈ del L i) : a ∈ L ∧ a.i ≠ i := by
  unfold del at h
  have := List.mem_filter.1 h
  exact ⟨this.1, by simpa using this.2⟩
/-- an inode may be so -/
structure IGood (x : Ino) : Prop where
  kind : x.k = 1 ∨ x.k = 2
  l : 0 ≤ x.l ∧ x.l ≤ 8
  o : 0 ≤ x.o ∧ x.o ≤ 128
  s : 0 ≤ x.s ∧ x.s ≤ 8192
  p : ExtW.Good x.p
  e : endL x.p ≤ x.s
  dir : x.k = 1 → x.o = 0 ∧ x.s = 0 ∧ x.p = []
/-- .. a table -/
structure TGood (L : List Ino) (next : Int) : Prop where
  rises : Rises L
  all : ∀ x ∈ L, IGood x
  num : ∀ x ∈ L, 1 ≤ x.i ∧ x.i < next
  len : L.length ≤ 64
  next : 2 ≤ next ∧ next ≤ 2147483647
theorem TGood.upd {L : List Ino} {next : Int} (h : TGood L next) {x y : Ino} (hf : find L x.i = some y) (hx : IGood x) : TGood (upd L x) next where
  rises := upd_rises h.rises x
  all a ha := by
    rcases upd_mem ha with rfl | ha
    · exact hx
    · exact h.all a ha
  num a ha := by
    rcases upd_mem ha with rfl | ha
    · obtain ⟨h1, h2⟩ := find_mem hf
      rw [← h2]; exact h.num _ h1
    · exact h.num a ha
  len := by rw [upd_len]; exact h.len
  next := h.next
theorem TGood.del {L : List Ino} {next : Int} (h : TGood L next) (i : Int) : TGood (del L i) next where
  rises := del_rises h.rises i
  all a ha := h.all a (del_mem ha).1
  num a ha := h.num a (del_mem ha).1
  len := Nat.le_trans (del_len L i) h.len
  next := h.next
theorem TGood.find_next {L : List Ino} {next : Int} (h : TGood L next) : find L next = none :=
  find_none.2 fun a ha => by have := h.num a ha; omega
theorem fresh_good (i k : Int) (hk : k = 1 ∨ k = 2) : IGood ⟨i, k, 0, 0, 0, []⟩ :=
  ⟨hk, by simp, by simp, by simp, (by decide : ExtW.Good []), (by decide : endL [] ≤ 0), fun _ => ⟨rfl, rfl, rfl⟩⟩
theorem TGood.snoc {L : List Ino} {next : Int} (h : TGood L next) {k : Int} (hk : k = 1 ∨ k = 2) (hl : L.length < 64) (hn : next < 2147483647) : TGood (L ++ [⟨next, k, 0, 0, 0, []⟩]) (next + 1) where
  rises := by
    unfold Rises
    rw [List.pairwise_append]
    refine ⟨h.rises, by simp, fun a ha b hb => ?_⟩
    simp only [List.mem_singleton] at hb
    subst hb
    exact (h.num a ha).2
  all a ha := by
    rcases List.mem_append.1 ha with ha | ha
    · exact h.all a ha
    · simp only [List.mem_singleton] at ha
      subst ha; exact fresh_good _ _ hk
  num a ha := by
    rcases List.mem_append.1 ha with ha | ha
    · have := h.num a ha; omega
    · simp only [List.mem_singleton] at ha
      have := h.next
      subst ha
      show 1 ≤ next ∧ next < next + 1
      omega
  len := by simp; omega
  next := by have := h.next; omega
def root : Ino := ⟨1, 1, 1, 0, 0, []⟩
theorem root_good : TGood [root] 2 where
  rises := List.pairwise_singleton _ _
  all a ha := by
    simp only [List.mem_singleton] at ha
    subst ha
    exact ⟨.inl rfl, by decide, by decide, by decide, by decide, by decide, fun _ => ⟨rfl, rfl, rfl⟩⟩
  num a ha := by
    simp only [List.mem_singleton] at ha
    subst ha
    decide
  len := by simp
  next := by decide
/-- by place -/
theorem upd_place {L : List Ino} (h : Rises L) {k : Nat} {y x : Ino} (hk : L[k]? = some y) (e : x.i = y.i) : upd L x = L.set k x := by
  apply List.ext_getElem?
  intro j
  unfold upd
  rw [List.getElem?_map, List.getElem?_set]
  obtain ⟨hkl, hky⟩ := List.getElem?_eq_some_iff.1 hk
  by_cases hj : k = j
  · subst hj
    rw [if_pos rfl, if_pos hkl, hk]
    simp [e]
  · rw [if_neg hj]
    cases hc : L[j]? with
    | none => rfl
    | some a =>
      obtain ⟨hjl, hja⟩ := List.getElem?_eq_some_iff.1 hc
      have hne : a.i ≠ x.i := by
        rw [e, ← hja, ← hky]
        rcases Nat.lt_or_gt_of_ne hj with hlt | hgt
        · have := List.pairwise_iff_getElem.1 h k j hkl hjl hlt; omega
        · have := List.pairwise_iff_getElem.1 h j k hjl hkl hgt; omega
      simp [hne]
theorem del_place {L : List Ino} (h : Rises L) {k : Nat} {y : Ino} (hk : L[k]? = some y) : del L y.i = L.take k ++ L.drop (k + 1) := by
  obtain ⟨hkl, hky⟩ := List.getElem?_eq_some_iff.1 hk
  have e : L = L.take k ++ y :: L.drop (k + 1) := by rw [← hky, List.getElem_cons_drop, List.take_append_drop]
  have hp : Rises (L.take k ++ y :: L.drop (k + 1)) := e ▸ h
  unfold Rises at hp
  rw [List.pairwise_append, List.pairwise_cons] at hp
  obtain ⟨_, ⟨h2, _⟩, h3⟩ := hp
  have h4 : del L y.i = del (L.take k ++ y :: L.drop (k + 1)) y.i := congrArg (fun l => del l y.i) e
  rw [h4]
  unfold del
  rw [List.filter_append, List.filter_cons_of_neg (by simp)]
  rw [List.filter_eq_self.2 fun a ha => ?_, List.filter_eq_self.2 fun a ha => ?_]
  · have := h2 a ha; simp; omega
  · have := h3 a ha y (by simp); simp; omega
end Go.Proofs.YthnkpoagpjnopaaDoor.InoP

namespace Go.Proofs.YthnkpoagpjnopaaDoor.InoW
set_option maxRecDepth 100000
open Go.RowKit InoP ExtW
open Go.Maps (Keyed)
open Go.MapKept Go.WideShapes
open Go.WideElems (Fit rd rg rd_key rg_of)
/-- an inode as it stands in the map -/
structure IV where
  i : Int
  k : Int
  l : Int
  o : Int
  s : Int
  oa : Option Addr
  n : Nat
  c : Nat
def ivV (y : IV) : Value := .agg #[.int .i64 y.i, .int .i64 y.k, .int .i64 y.l, .int .i64 y.o, .int .i64 y.s, .slice y.oa y.n y.c]
def iV (i : Int) : Value := .int .i64 i
def iOk (i : Int) : Prop := (Lit.int .i64 i).wf = true
theorem iOk_of {i : Int} (h : -9223372036854775808 ≤ i ∧ i ≤ 9223372036854775807) : iOk i := by
  unfold iOk; simp [Lit.wf, IntKind.min, IntKind.max, IntKind.signed, IntKind.bits]; omega
theorem iMK : MK Tryd.prog 3 iV iOk := ⟨Maps.int_keyed Tryd.underlying3, fun x h => ⟨_, Maps.keyOf_int_mk Tryd.underlying3 h⟩, fun x y h => by simpa [iV] using h⟩
theorem ivZero (w : World) : (zeroValue 86).run Tryd.prog w = .ok (ivV ⟨0, 0, 0, 0, 0, none, 0, 0⟩) w := by kernel_rfl
def TmIs (w : World) (b n : Nat) (g : Int → Option IV) : Prop := MapIs iV iOk ivV w b n g
/-- what stands in the map is the inode -/
structure IRel (w : World) (tb b : Nat) (x : Ino) (y : IV) : Prop where
  i : y.i = x.i
  k : y.k = x.k
  l : y.l = x.l
  o : y.o = x.o
  s : y.s = x.s
  n : y.n = x.p.length
  pts : PtsAt w.heap.size y.oa x.p w
  far : ∀ a, y.oa = some a → a.block ≠ tb ∧ a.block ≠ b
  nil : y.oa = none → y.n = 0 ∧ y.c = 0
theorem pts_only {B c : Nat} {oa : Option Addr} {l : List Pt} {w w' : World} (h : PtsAt B oa l w) (ho : Only c w w') (hB : B ≤ w.heap.size) (hne : ∀ a, oa = some a → a.block ≠ c) : PtsAt B oa l w' := by
  intro i x hx
  obtain ⟨a, h1, h2, d0, d1, d2, d3⟩ := h i x hx
  have hb : w'.heap[a.block]? = w.heap[a.block]? := ho.block _ (by omega) (fun e => hne a h1 (by injection e))
  have hc : ∀ q : Addr, q.block = a.block → w'.cell? q = w.cell? q := fun q hq => by unfold World.cell?; rw [hq, hb]
  exact ⟨a, h1, h2, (hc (a.add (i * 4)) (add_block _ _)).trans d0, (hc ⟨(a.add (i * 4)).block, (a.add (i * 4)).off + 1, none⟩ (add_block _ _)).trans d1,
    (hc ⟨(a.add (i * 4)).block, (a.add (i * 4)).off + 2, none⟩ (add_block _ _)).trans d2, (hc ⟨(a.add (i * 4)).block, (a.add (i * 4)).off + 3, none⟩ (add_block _ _)).trans d3⟩
theorem IRel.grow {w w' : World} {tb b : Nat} {x : Ino} {y : IV} (h : IRel w tb b x y) (k : Below w.heap.size w w') : IRel w' tb b x y :=
  { h with pts := h.pts.grow k }
theorem IRel.only {w w' : World} {tb b c : Nat} {x : Ino} {y : IV} (h : IRel w tb b x y) (k : Only c w w') (hc : c = tb ∨ c = b) : IRel w' tb b x y :=
  { h with pts := (pts_only h.pts k (Nat.le_refl _) fun a ha => by
    have := h.far a ha
    rcases hc with rfl | rfl
    · exact this.1
    · exact this.2).mono k.size }
/-- a table in block tb, its map in block b -/
structure TIs (w : World) (tb b : Nat) (L : List Ino) (next : Int) : Prop where
  head : w.heap[tb]? = some (.cells #[.map (some b), .int .i64 next] 107 (0, 0))
  map : ∃ n g, TmIs w b n g ∧ (∀ i, find L i = none → g i = none) ∧ ∀ i x, find L i = some x → ∃ y, g i = some y ∧ IRel w tb b x y
  good : TGood L next
variable {w w' : World} {tb b : Nat} {L : List Ino} {next : Int}
theorem TIs.ne (h : TIs w tb b L next) : tb ≠ b := by
  rintro rfl
  obtain ⟨n, g, ⟨es, clock, hm, _⟩, _⟩ := h.map
  rw [h.head] at hm; cases hm
theorem TIs.lt (h : TIs w tb b L next) : tb < w.heap.size ∧ b < w.heap.size := by
  obtain ⟨n, g, hm, _⟩ := h.map
  exact ⟨lt_of_block h.head, MapIs.lt hm⟩
theorem TIs.grow (h : TIs w tb b L next) (k : Below w.heap.size w w') : TIs w' tb b L next :=
  ⟨(k.block tb h.lt.1).trans h.head, by
    obtain ⟨n, g, hm, h1, h2⟩ := h.map
    exact ⟨n, g, MapIs.keep hm k, h1, fun i x hx => by obtain ⟨y, hy, hr⟩ := h2 i x hx; exact ⟨y, hy, hr.grow k⟩⟩, h.good⟩
theorem TIs.m0 (h : TIs w tb b L next) : w.cell? ⟨tb, 0, none⟩ = some (.map (some b)) ∧ w.cell? ⟨tb, 1, none⟩ = some (.int .i64 next) ∧ w.frozen? ⟨tb, 0, none⟩ = false ∧ w.frozen? ⟨tb, 1, none⟩ = false :=
  ⟨(new_cells h.head 0 (by simp)).1, (new_cells h.head 1 (by simp)).1, (new_cells h.head 0 (by simp)).2, (new_cells h.head 1 (by simp)).2⟩
def keyI (e : MapEntry) : Int := match e.key with | .int _ x => x | _ => 0
/-- the map's keys, as the library's contracts read them -/
theorem owns_keys {n : Nat} {g : Int → Option IV} (h : TmIs w b n g) {ks : List Int} (hn : ks.Nodup) (hm : ∀ i, i ∈ ks ↔ g i ≠ none) (hs : ks.length ≤ 1000) :
    ∃ D0 : DataW Unit, w.ownsMap Tryd.prog 3 (fun _ => some (.nil, [])) b ks.length D0 ∧ (intKeys D0).Perm ks ∧ Maps.size D0 = ks.length ∧ ∀ ty, (Builtin.len_ #[105] ty #[.map (some b)]).run Tryd.prog w = .ok (.int .i64 (ks.length : Nat)) w := by
  obtain ⟨es, clock, hb, _, S, E⟩ := h
  have hk : ∀ e ∈ es.toList, e.key = .int .i64 (keyI e) ∧ (Lit.int .i64 (keyI e)).wf = true ∧ keyI e ∈ ks := fun e he => by
    obtain ⟨x, y, h1, h2, _, h4⟩ := E.1 e he
    have e1 : keyI e = x := by unfold keyI; rw [h1]; rfl
    rw [e1]
    exact ⟨h1, h2, (hm x).2 (by rw [h4]; simp)⟩
  have hnd : (es.toList.map keyI).Nodup := by
    have h3 := ((stamped_iff es clock).1 S).2.2
    exact List.pairwise_map.2 (h3.imp_of_mem fun ha hb hne e => hne (by rw [(hk _ ha).1, (hk _ hb).1, e]))
  have hperm : (es.toList.map keyI).Perm ks := (List.perm_ext_iff_of_nodup hnd hn).2 fun i => by
    constructor
    · intro hi
      obtain ⟨e, he, rfl⟩ := List.mem_map.1 hi
      exact (hk e he).2.2
    · intro hi
      cases hg : g i with
      | none => exact absurd hg ((hm i).1 hi)
      | some y =>
        obtain ⟨e, he, hke⟩ := E.2 i y hg
        exact List.mem_map.2 ⟨e, he, by unfold keyI; rw [hke]; rfl⟩
  have hlen : es.size = ks.length := by have := hperm.length_eq; simpa using this
  have hrd : ∀ e ∈ es.toList, rd Tryd.prog 3 (fun _ => some ((.nil : DataW Unit), ([] : List MemPlace))) e = some (.int .i64 (keyI e), .nil) := fun e he => by
    unfold rd
    rw [(hk e he).1, Maps.keyOf_int_mk Tryd.underlying3 (hk e he).2.1]
    rfl
  have F : Fit Tryd.prog 3 (fun _ => some ((.nil : DataW Unit), ([] : List MemPlace))) es clock := ⟨by unfold maxLen; omega, S, fun e he => ⟨_, hrd e he⟩⟩
  refine ⟨_, ⟨es, clock, hb, F, by omega, rfl⟩, ?_, ?_⟩
  · show (List.map (fun p => intOf p.1) ((es.toList.map (rg Tryd.prog 3 (fun _ => some ((.nil : DataW Unit), ([] : List MemPlace))))).foldr DataW.insert [])).Perm ks
    refine ((sorted_perm _).map _).trans ?_
    rw [List.map_map]
    have e2 : List.map ((fun p : Lit × DataW Unit => intOf p.1) ∘ rg Tryd.prog 3 (fun _ => some ((.nil : DataW Unit), ([] : List MemPlace)))) es.toList = es.toList.map keyI :=
      List.map_congr_left fun e he => by
        simp only [Function.comp]
        rw [rg_of (hrd e he)]
        rfl
    rw [e2]; exact hperm
  · refine ⟨by simp [Maps.size, length_sorted, hlen], fun ty => ?_⟩
    rw [run_len_map w 105 ty b es clock (by kernel_rfl) hb, hlen]; rfl
theorem keys_of {g : Int → Option IV} (hg : TGood L next) (h1 : ∀ i, find L i = none → g i = none) (h2 : ∀ i x, find L i = some x → ∃ y, g i = some y ∧ IRel w tb b x y) :
    (L.map (·.i)).Nodup ∧ ∀ i, i ∈ L.map (·.i) ↔ g i ≠ none := by
  refine ⟨((rises_keys L).1 hg.rises).imp fun h => by omega, fun i => ⟨fun hi => ?_, fun hi => ?_⟩⟩
  · obtain ⟨x, hx, rfl⟩ := List.mem_map.1 hi
    obtain ⟨y, hy, _⟩ := h2 _ x (find_of_mem hg.rises hx)
    rw [hy]; simp
  · cases hf : find L i with
    | none => exact absurd (h1 i hf) hi
    | some x =>
      obtain ⟨hx, rfl⟩ := find_mem hf
      exact List.mem_map.2 ⟨x, hx, rfl⟩
end Go.Proofs.YthnkpoagpjnopaaDoor.InoW
