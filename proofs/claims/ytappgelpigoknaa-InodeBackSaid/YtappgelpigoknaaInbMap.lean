/- The table of inodes in memory: its map, what stands in it. -/
import Derived.Test.YtappgelpigoknaaInoPlain
import Derived.Test.YtappgelpigoknaaExtRow
import Derived.Test.YtappgelpigoknaaExtCutW
import Derived.Test.YtappgelpigoknaaMapDel
import Derived.Lib.SlKeysI
namespace Go.Proofs.Ytappgelpigoknaa.InoW
set_option maxRecDepth 100000
open Go.RowKit InoP ExtW
open Go.Maps (Keyed)
open Go.MapKept Go.WideShapes
open Go.WideElems (Fit rd rg rd_key rg_of)
/-- an inode as it stands in the map -/
structure IV where
  i : Int
  k : Int
  l : Int
  o : Int
  s : Int
  oa : Option Addr
  n : Nat
  c : Nat
def ivV (y : IV) : Value := .agg #[.int .i64 y.i, .int .i64 y.k, .int .i64 y.l, .int .i64 y.o, .int .i64 y.s, .slice y.oa y.n y.c]
def iV (i : Int) : Value := .int .i64 i
def iOk (i : Int) : Prop := (Lit.int .i64 i).wf = true
theorem iOk_of {i : Int} (h : -9223372036854775808 ≤ i ∧ i ≤ 9223372036854775807) : iOk i := by
  unfold iOk; simp [Lit.wf, IntKind.min, IntKind.max, IntKind.signed, IntKind.bits]; omega
theorem iMK : MK Try.prog 3 iV iOk := ⟨Maps.int_keyed Try.underlying3, fun x h => ⟨_, Maps.keyOf_int_mk Try.underlying3 h⟩, fun x y h => by simpa [iV] using h⟩
theorem ivZero (w : World) : (zeroValue 62).run Try.prog w = .ok (ivV ⟨0, 0, 0, 0, 0, none, 0, 0⟩) w := by kernel_rfl
def TmIs (w : World) (b n : Nat) (g : Int → Option IV) : Prop := MapIs iV iOk ivV w b n g
/-- a block of parts -/
def PartB (w : World) (g : Nat) : Prop := ∃ cs fr, w.heap[g]? = some (.cells cs 40 fr)
theorem PartB.grow {w w' : World} {g : Nat} (h : PartB w g) (k : Below w.heap.size w w') : PartB w' g := by
  obtain ⟨cs, fr, h⟩ := h
  exact ⟨cs, fr, (k.block g (lt_of_block h)).trans h⟩
theorem PartB.only {w w' : World} {g c : Nat} (h : PartB w g) (k : Only c w w') (hne : g ≠ c) : PartB w' g := by
  obtain ⟨cs, fr, h⟩ := h
  exact ⟨cs, fr, Only.heap k h hne⟩
theorem PartB.row {B n c : Nat} {w : World} {oa : Option Addr} {l : List Pt} (h : Row B w (.slice oa n c) l) : ∀ a, oa = some a → PartB w a.block := by
  intro a ha
  rcases h.2 with ⟨e, h0⟩ | ⟨g, cap', cur, e, h1, h2, h3, h4, h5, h6⟩
  · simp only [Value.slice.injEq] at e
    rw [e.1] at ha; cases ha
  · simp only [Value.slice.injEq] at e
    rw [e.1] at ha
    injection ha with ha
    subst ha
    exact ⟨_, _, h2⟩
/-- what stands in the map is the inode -/
structure IRel (w : World) (tb b : Nat) (x : Ino) (y : IV) : Prop where
  i : y.i = x.i
  k : y.k = x.k
  l : y.l = x.l
  o : y.o = x.o
  s : y.s = x.s
  n : y.n = x.p.length
  pts : PtsAt w.heap.size y.oa x.p w
  far : ∀ a, y.oa = some a → a.block ≠ tb ∧ a.block ≠ b
  nil : y.oa = none → y.n = 0 ∧ y.c = 0
  ty : ∀ a, y.oa = some a → PartB w a.block
theorem pts_only {B c : Nat} {oa : Option Addr} {l : List Pt} {w w' : World} (h : PtsAt B oa l w) (ho : Only c w w') (hB : B ≤ w.heap.size) (hne : ∀ a, oa = some a → a.block ≠ c) : PtsAt B oa l w' := by
  intro i x hx
  obtain ⟨a, h1, h2, d0, d1, d2, d3⟩ := h i x hx
  have hb : w'.heap[a.block]? = w.heap[a.block]? := ho.block _ (by omega) (fun e => hne a h1 (by injection e))
  have hc : ∀ q : Addr, q.block = a.block → w'.cell? q = w.cell? q := fun q hq => by unfold World.cell?; rw [hq, hb]
  exact ⟨a, h1, h2, (hc (a.add (i * 4)) (add_block _ _)).trans d0, (hc ⟨(a.add (i * 4)).block, (a.add (i * 4)).off + 1, none⟩ (add_block _ _)).trans d1,
    (hc ⟨(a.add (i * 4)).block, (a.add (i * 4)).off + 2, none⟩ (add_block _ _)).trans d2, (hc ⟨(a.add (i * 4)).block, (a.add (i * 4)).off + 3, none⟩ (add_block _ _)).trans d3⟩
theorem IRel.grow {w w' : World} {tb b : Nat} {x : Ino} {y : IV} (h : IRel w tb b x y) (k : Below w.heap.size w w') : IRel w' tb b x y :=
  { h with pts := h.pts.grow k, ty := fun a ha => (h.ty a ha).grow k }
theorem IRel.only {w w' : World} {tb b c : Nat} {x : Ino} {y : IV} (h : IRel w tb b x y) (k : Only c w w') (hc : c = tb ∨ c = b) : IRel w' tb b x y :=
  { h with pts := (pts_only h.pts k (Nat.le_refl _) fun a ha => by
    have := h.far a ha
    rcases hc with rfl | rfl
    · exact this.1
    · exact this.2).mono k.size, ty := fun a ha => (h.ty a ha).only k (by have := h.far a ha; rcases hc with rfl | rfl; exact this.1; exact this.2) }
/-- a table in block tb, its map in block b -/
structure TIs (w : World) (tb b : Nat) (L : List Ino) (next : Int) : Prop where
  head : w.heap[tb]? = some (.cells #[.map (some b), .int .i64 next] 71 (0, 0))
  map : ∃ n g, TmIs w b n g ∧ (∀ i, find L i = none → g i = none) ∧ ∀ i x, find L i = some x → ∃ y, g i = some y ∧ IRel w tb b x y
  good : TGood L next
variable {w w' : World} {tb b : Nat} {L : List Ino} {next : Int}
theorem TIs.ne (h : TIs w tb b L next) : tb ≠ b := by
  rintro rfl
  obtain ⟨n, g, ⟨es, clock, hm, _⟩, _⟩ := h.map
  rw [h.head] at hm; cases hm
theorem TIs.lt (h : TIs w tb b L next) : tb < w.heap.size ∧ b < w.heap.size := by
  obtain ⟨n, g, hm, _⟩ := h.map
  exact ⟨lt_of_block h.head, MapIs.lt hm⟩
theorem TIs.grow (h : TIs w tb b L next) (k : Below w.heap.size w w') : TIs w' tb b L next :=
  ⟨(k.block tb h.lt.1).trans h.head, by
    obtain ⟨n, g, hm, h1, h2⟩ := h.map
    exact ⟨n, g, MapIs.keep hm k, h1, fun i x hx => by obtain ⟨y, hy, hr⟩ := h2 i x hx; exact ⟨y, hy, hr.grow k⟩⟩, h.good⟩
theorem TIs.m0 (h : TIs w tb b L next) : w.cell? ⟨tb, 0, none⟩ = some (.map (some b)) ∧ w.cell? ⟨tb, 1, none⟩ = some (.int .i64 next) ∧ w.frozen? ⟨tb, 0, none⟩ = false ∧ w.frozen? ⟨tb, 1, none⟩ = false :=
  ⟨(new_cells h.head 0 (by simp)).1, (new_cells h.head 1 (by simp)).1, (new_cells h.head 0 (by simp)).2, (new_cells h.head 1 (by simp)).2⟩
def keyI (e : MapEntry) : Int := match e.key with | .int _ x => x | _ => 0
/-- the map's keys, as the library's contracts read them -/
theorem owns_keys {n : Nat} {g : Int → Option IV} (h : TmIs w b n g) {ks : List Int} (hn : ks.Nodup) (hm : ∀ i, i ∈ ks ↔ g i ≠ none) (hs : ks.length ≤ 1000) :
    ∃ D0 : DataW Unit, w.ownsMap Try.prog 3 (fun _ => some (.nil, [])) b ks.length D0 ∧ (intKeys D0).Perm ks ∧ Maps.size D0 = ks.length ∧ ∀ ty, (Builtin.len_ #[69] ty #[.map (some b)]).run Try.prog w = .ok (.int .i64 (ks.length : Nat)) w := by
  obtain ⟨es, clock, hb, _, S, E⟩ := h
  have hk : ∀ e ∈ es.toList, e.key = .int .i64 (keyI e) ∧ (Lit.int .i64 (keyI e)).wf = true ∧ keyI e ∈ ks := fun e he => by
    obtain ⟨x, y, h1, h2, _, h4⟩ := E.1 e he
    have e1 : keyI e = x := by unfold keyI; rw [h1]; rfl
    rw [e1]
    exact ⟨h1, h2, (hm x).2 (by rw [h4]; simp)⟩
  have hnd : (es.toList.map keyI).Nodup := by
    have h3 := ((stamped_iff es clock).1 S).2.2
    exact List.pairwise_map.2 (h3.imp_of_mem fun ha hb hne e => hne (by rw [(hk _ ha).1, (hk _ hb).1, e]))
  have hperm : (es.toList.map keyI).Perm ks := (List.perm_ext_iff_of_nodup hnd hn).2 fun i => by
    constructor
    · intro hi
      obtain ⟨e, he, rfl⟩ := List.mem_map.1 hi
      exact (hk e he).2.2
    · intro hi
      cases hg : g i with
      | none => exact absurd hg ((hm i).1 hi)
      | some y =>
        obtain ⟨e, he, hke⟩ := E.2 i y hg
        exact List.mem_map.2 ⟨e, he, by unfold keyI; rw [hke]; rfl⟩
  have hlen : es.size = ks.length := by have := hperm.length_eq; simpa using this
  have hrd : ∀ e ∈ es.toList, rd Try.prog 3 (fun _ => some ((.nil : DataW Unit), ([] : List MemPlace))) e = some (.int .i64 (keyI e), .nil) := fun e he => by
    unfold rd
    rw [(hk e he).1, Maps.keyOf_int_mk Try.underlying3 (hk e he).2.1]
    rfl
  have F : Fit Try.prog 3 (fun _ => some ((.nil : DataW Unit), ([] : List MemPlace))) es clock := ⟨by unfold maxLen; omega, S, fun e he => ⟨_, hrd e he⟩⟩
  refine ⟨_, ⟨es, clock, hb, F, by omega, rfl⟩, ?_, ?_⟩
  · show (List.map (fun p => intOf p.1) ((es.toList.map (rg Try.prog 3 (fun _ => some ((.nil : DataW Unit), ([] : List MemPlace))))).foldr DataW.insert [])).Perm ks
    refine ((sorted_perm _).map _).trans ?_
    rw [List.map_map]
    have e2 : List.map ((fun p : Lit × DataW Unit => intOf p.1) ∘ rg Try.prog 3 (fun _ => some ((.nil : DataW Unit), ([] : List MemPlace)))) es.toList = es.toList.map keyI :=
      List.map_congr_left fun e he => by
        simp only [Function.comp]
        rw [rg_of (hrd e he)]
        rfl
    rw [e2]; exact hperm
  · refine ⟨by simp [Maps.size, length_sorted, hlen], fun ty => ?_⟩
    rw [run_len_map w 69 ty b es clock (by kernel_rfl) hb, hlen]; rfl
theorem keys_of {g : Int → Option IV} (hg : TGood L next) (h1 : ∀ i, find L i = none → g i = none) (h2 : ∀ i x, find L i = some x → ∃ y, g i = some y ∧ IRel w tb b x y) :
    (L.map (·.i)).Nodup ∧ ∀ i, i ∈ L.map (·.i) ↔ g i ≠ none := by
  refine ⟨((rises_keys L).1 hg.rises).imp fun h => by omega, fun i => ⟨fun hi => ?_, fun hi => ?_⟩⟩
  · obtain ⟨x, hx, rfl⟩ := List.mem_map.1 hi
    obtain ⟨y, hy, _⟩ := h2 _ x (find_of_mem hg.rises hx)
    rw [hy]; simp
  · cases hf : find L i with
    | none => exact absurd (h1 i hf) hi
    | some x =>
      obtain ⟨hx, rfl⟩ := find_mem hf
      exact List.mem_map.2 ⟨x, hx, rfl⟩
end Go.Proofs.Ytappgelpigoknaa.InoW
