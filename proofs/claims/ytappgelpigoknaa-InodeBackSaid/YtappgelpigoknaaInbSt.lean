/- The table of inodes: New, get, keep. -/
import Derived.Test.YtappgelpigoknaaInbMap
import Derived.Test.YtappgelpigoknaaInoOps
import Derived.Laws.ResultCell
import Derived.Laws.Rows
namespace Go.Proofs.Ytappgelpigoknaa.InoW
set_option maxRecDepth 100000
open Go.RowKit InoP ExtW
open Go.MapKept
variable {w : World} {tb b : Nat} {L : List Ino} {next : Int}
/-- a result that is a struct, of the call's own block, and one more -/
theorem ret_row {P : Program} {fn : Func} {R : Ending → World → Prop} {a : Act} {w : World} {p u : Tmp} {ty : TypeId} {g : Nat} {cs : Array Value} {d : TypeDesc} {t : TypeId} {fr : Nat × Nat} (hres : fn.results = #[.cell p ty, .tmp u])
    (hp : a.tmps.getD p undef = .pointer (some ⟨g, 0, none⟩)) (hd0 : a.defers = []) (hg : w.heap[g]? = some (.cells cs t fr)) (hu : P.underlying ty = some d) (hd : (match d with | .struct _ | .array _ _ => true | _ => false) = true)
    (hi : (P.info? ty).map (·.size) = some cs.size) (hR : R (.returned (.tuple #[.agg cs, a.tmps.getD u undef])) w) : bodyPost P fn R .ret a w :=
  bodyPost_ret (by rw [results_cell_tmp hres, hp]; simp [asAddr, Result.andThen, run_loadVar_row w g t ty cs fr d hg hu hd hi]) hd0 hR
theorem inoSize : (Try.prog.info? 62).map (·.size) = some 6 := by kernel_rfl
/-- an inode in a block of its own -/
def IBox (w : World) (b : Nat) (y : IV) : Prop := w.heap[b]? = some (.cells #[.int .i64 y.i, .int .i64 y.k, .int .i64 y.l, .int .i64 y.o, .int .i64 y.s, .slice y.oa y.n y.c] 62 (0, 0))
theorem IBox.cells {w : World} {b : Nat} {y : IV} (h : IBox w b y) : w.cell? ⟨b, 0, none⟩ = some (.int .i64 y.i) ∧ w.cell? ⟨b, 1, none⟩ = some (.int .i64 y.k) ∧ w.cell? ⟨b, 2, none⟩ = some (.int .i64 y.l) ∧ w.cell? ⟨b, 3, none⟩ = some (.int .i64 y.o) ∧ w.cell? ⟨b, 4, none⟩ = some (.int .i64 y.s) ∧ w.cell? ⟨b, 5, none⟩ = some (.slice y.oa y.n y.c) :=
  ⟨(new_cells h 0 (by simp)).1, (new_cells h 1 (by simp)).1, (new_cells h 2 (by simp)).1, (new_cells h 3 (by simp)).1, (new_cells h 4 (by simp)).1, (new_cells h 5 (by simp)).1⟩
/-- all that a walk on a table wants to know -/
structure Op (w : World) (tb b n : Nat) (g : Int → Option IV) (L : List Ino) (next : Int) : Prop where
  m : TmIs w b n g
  no : ∀ i, find L i = none → g i = none
  yes : ∀ i x, find L i = some x → ∃ y, g i = some y ∧ IRel w tb b x y
theorem TIs.op (h : TIs w tb b L next) : ∃ n g, Op w tb b n g L next := by
  obtain ⟨n, g, h1, h2, h3⟩ := h.map
  exact ⟨n, g, h1, h2, h3⟩
theorem TIs.len (h : TIs w tb b L next) (ty : TypeId) : (Builtin.len_ #[69] ty #[.map (some b)]).run Try.prog w = .ok (.int .i64 (L.length : Nat)) w := by
  obtain ⟨n, g, h1, h2, h3⟩ := h.map
  obtain ⟨k1, k2⟩ := keys_of h.good h2 h3
  obtain ⟨D0, _, _, _, h4⟩ := owns_keys h1 k1 k2 (by simp; have := h.good.len; omega)
  rw [h4]; simp
set_option maxHeartbeats 800000 in
theorem new_any (w : World) : Calls Try.prog 6 #[] w fun e w' => e = .returned (.pointer (some ⟨w.heap.size + 1, 0, none⟩)) ∧ TIs w' (w.heap.size + 1) w.heap.size [root] 2 ∧ Below w.heap.size w w' := by
  have hmm := @run_makeMap Try.prog
  have H0 : Hid (TmIs (w.alloc (.map #[] 0)) w.heap.size 0 (fun _ => none)) := Lib.hid (MapIs.made w)
  obtain ⟨w5, hrun, hm5, ho5, hs5⟩ := MapIs.store H0.out iMK Try.underlying69 1 ⟨1, 1, 1, 0, 0, none, 0, 0⟩ (iOk_of (by omega))
  have hrun' : (Instr.mapUpdate 69 (.map (some w.heap.size)) (.int .i64 1) (.agg #[.int .i64 1, .int .i64 1, .int .i64 1, .int .i64 0, .int .i64 0, .slice none 0 0])).run Try.prog (w.alloc (.map #[] 0)) = .ok () w5 := hrun
  have HM5 := Lib.hid hm5
  have HO5 := Lib.hid ho5
  have hs : w5.heap.size = w.heap.size + 1 := by rw [hs5]; simp
  clear hrun hm5 ho5 hs5
  go_enter Try.func6, Try.ntmps6
  go_wp2_with fail
  go_ret
  have hb0 : Below w.heap.size w w5 := (below_alloc w (.map #[] 0)).trans (HO5.out.below (Nat.le_refl _) (by simp))
  refine ⟨rfl, ⟨?_, ⟨1, _, MapIs.keep HM5.out (below_alloc _ _), fun i hi => ?_, fun i x hx => ?_⟩, root_good⟩, hb0.trans ((below_alloc w5 _).mono (by omega))⟩
  · rw [← hs]; exact heap_alloc_new w5 _
  · have := find_none.1 hi root (by simp)
    show (if i = 1 then _ else none) = none
    rw [if_neg (fun e => this e.symm)]
  · obtain ⟨hm, rfl⟩ := find_mem hx
    obtain rfl : x = root := by simpa using hm
    exact ⟨⟨1, 1, 1, 0, 0, none, 0, 0⟩, rfl, rfl, rfl, rfl, rfl, rfl, rfl, fun j z hz => by simp [root] at hz, fun a ha => by simp at ha, fun _ => ⟨rfl, rfl⟩, fun a ha => by simp at ha⟩
def iz : Array Value := #[.int .i64 0, .int .i64 0, .int .i64 0, .int .i64 0, .int .i64 0, .slice none 0 0]
set_option maxHeartbeats 800000 in
theorem get_yes (n : Nat) (g : Int → Option IV) (i : Int) (hi : iOk i) (y : IV) (hy : g i = some y) (w : World) (h0 : w.cell? ⟨tb, 0, none⟩ = some (.map (some b))) (hm : TmIs w b n g) :
    Calls Try.prog 30 #[.pointer (some ⟨tb, 0, none⟩), .int .i64 i] w fun e w' => e = .returned (.tuple #[ivV y, .bool true]) ∧ Below w.heap.size w w' := by
  have HM := Lib.hid (MapIs.alloc hm (.cells #[.int .i64 0, .int .i64 0, .int .i64 0, .int .i64 0, .int .i64 0, .slice none 0 0] 62))
  have h1 := alloc_step (o := .cells #[.int .i64 0, .int .i64 0, .int .i64 0, .int .i64 0, .int .i64 0, .slice none 0 0] 62) h0
  have HY := Lib.hid hy
  have HI := Lib.hid hi
  clear hm hy hi h0
  go_enter Try.func30, Try.ntmps30
  go_wp2_with (at_lookup; go_loud (refine wpList_map_look_some _ rfl _ _ 69 62 true rfl iMK Try.underlying69 _ (ivZero _) b n g HM.out (by rfl) i HI.out (by rfl) y HY.out (.agg #[.int .i64 y.i, .int .i64 y.k, .int .i64 y.l, .int .i64 y.o, .int .i64 y.s, .slice y.oa y.n y.c]) rfl ?_; simp only [if_true]))
  refine ret_row (p := 4) (u := 5) rfl rfl rfl ((heap_alloc_old _ _ (by simp)).trans (heap_alloc_new w _)) Try.underlying62 rfl inoSize ?_
  exact ⟨rfl, bstep (below_alloc w _) (below_alloc _ _)⟩
set_option maxHeartbeats 800000 in
theorem get_no (n : Nat) (g : Int → Option IV) (i : Int) (hi : iOk i) (hy : g i = none) (w : World) (h0 : w.cell? ⟨tb, 0, none⟩ = some (.map (some b))) (hm : TmIs w b n g) :
    Calls Try.prog 30 #[.pointer (some ⟨tb, 0, none⟩), .int .i64 i] w fun e w' => e = .returned (.tuple #[.agg #[.int .i64 0, .int .i64 0, .int .i64 0, .int .i64 0, .int .i64 0, .slice none 0 0], .bool false]) ∧ Below w.heap.size w w' := by
  have HM := Lib.hid (MapIs.alloc hm (.cells #[.int .i64 0, .int .i64 0, .int .i64 0, .int .i64 0, .int .i64 0, .slice none 0 0] 62))
  have h1 := alloc_step (o := .cells #[.int .i64 0, .int .i64 0, .int .i64 0, .int .i64 0, .int .i64 0, .slice none 0 0] 62) h0
  have HY := Lib.hid hy
  have HI := Lib.hid hi
  clear hm hy hi h0
  go_enter Try.func30, Try.ntmps30
  go_wp2_with (at_lookup; go_loud (refine wpList_map_look_none _ rfl _ _ 69 62 true rfl iMK Try.underlying69 _ (ivZero _) b n g HM.out (by rfl) i HI.out (by rfl) HY.out ?_; unfold ivV; simp only [if_true]))
  refine ret_row (p := 4) (u := 5) rfl rfl rfl ((heap_alloc_old _ _ (by simp)).trans (heap_alloc_new w _)) Try.underlying62 rfl inoSize ?_
  exact ⟨rfl, bstep (below_alloc w _) (below_alloc _ _)⟩
theorem TIs.set {w' : World} (h : TIs w tb b L next) {n' : Nat} {g' : Int → Option IV} {L' : List Ino} (hm : TmIs w' b n' g') (ho : Only b w w') (hg : TGood L' next)
    (h1 : ∀ i, find L' i = none → g' i = none) (h2 : ∀ i x, find L' i = some x → ∃ y, g' i = some y ∧ IRel w tb b x y) : TIs w' tb b L' next :=
  ⟨Only.heap ho h.head h.ne, ⟨n', g', hm, h1, fun i x hx => by obtain ⟨y, hy, hr⟩ := h2 i x hx; exact ⟨y, hy, hr.only ho (.inr rfl)⟩⟩, hg⟩
theorem op_upd {n : Nat} {g : Int → Option IV} (o : Op w tb b n g L next) {x x0 : Ino} {y : IV} (hf : find L x.i = some x0) (hr : IRel w tb b x y) :
    (∀ i, find (upd L x) i = none → (if i = x.i then some y else g i) = none) ∧ ∀ i z, find (upd L x) i = some z → ∃ u, (if i = x.i then some y else g i) = some u ∧ IRel w tb b z u := by
  have e := find_upd L x x0 hf
  refine ⟨fun i hi => ?_, fun i z hz => ?_⟩
  · rw [e] at hi
    by_cases c : i = x.i
    · simp [c] at hi
    · simp only [if_neg c] at hi ⊢; exact o.no i hi
  · rw [e] at hz
    by_cases c : i = x.i
    · simp only [if_pos c] at hz ⊢
      injection hz with hz
      exact ⟨y, rfl, hz ▸ hr⟩
    · simp only [if_neg c] at hz ⊢; exact o.yes i z hz
theorem op_del {n : Nat} {g : Int → Option IV} (o : Op w tb b n g L next) {x : Ino} {y : IV} :
    (∀ i, find (del L x.i) i = none → (if i = x.i then none else (if i = x.i then some y else g i)) = none) ∧ ∀ i z, find (del L x.i) i = some z → ∃ u, (if i = x.i then none else (if i = x.i then some y else g i)) = some u ∧ IRel w tb b z u := by
  have e := find_del L x.i
  refine ⟨fun i hi => ?_, fun i z hz => ?_⟩
  · rw [e] at hi
    by_cases c : i = x.i
    · simp [c]
    · simp only [if_neg c] at hi ⊢; exact o.no i hi
  · rw [e] at hz
    by_cases c : i = x.i
    · simp [c] at hz
    · simp only [if_neg c] at hz ⊢; exact o.yes i z hz
theorem Op.grow {w' : World} {n : Nat} {g : Int → Option IV} (o : Op w tb b n g L next) (k : Below w.heap.size w w') : Op w' tb b n g L next :=
  ⟨MapIs.keep o.m k, o.no, fun i x hx => by obtain ⟨y, hy, hr⟩ := o.yes i x hx; exact ⟨y, hy, hr.grow k⟩⟩
theorem only_undrew {b : Nat} {w w' : World} (h : Only b w.drew w') : Only b w w' := ⟨h.os, h.tape, h.output, h.size, h.block⟩
set_option maxHeartbeats 800000 in
theorem keep_any (x x0 : Ino) (y : IV) (may : Bool) (hf : find L x.i = some x0) (hg : IGood x) (w : World) (h : TIs w tb b L next) (hr : IRel w tb b x y) :
    Calls Try.prog 31 #[.pointer (some ⟨tb, 0, none⟩), .agg #[.int .i64 y.i, .int .i64 y.k, .int .i64 y.l, .int .i64 y.o, .int .i64 y.s, .slice y.oa y.n y.c], .bool may] w fun e w' => e = .returned (.int .i64 0) ∧ TIs w' tb b (keepL L x may) next ∧ Only b w w' := by
  obtain ⟨n, g, op⟩ := h.op
  have hb1 := below_alloc w (.cells #[.int .i64 y.i, .int .i64 y.k, .int .i64 y.l, .int .i64 y.o, .int .i64 y.s, .slice y.oa y.n y.c] 62)
  have H1 := Lib.hid (h.grow hb1)
  have OP := Lib.hid (op.grow hb1)
  have h0 := H1.out.m0.1
  have hnum := h.good.num _ (find_mem hf).1
  have hnx := h.good.next
  have hxi := (find_mem hf).2
  have hlo := hg.l
  have hoo := hg.o
  have HI : Hid (iOk y.i) := Lib.hid (iOk_of (by rw [hr.i]; omega))
  have HF := Lib.hid hf
  have HG := Lib.hid hg
  have HR := Lib.hid (hr.grow hb1)
  have HB1 := Lib.hid hb1
  have hw1 : IntKind.i64.wrap (y.l + y.o) = y.l + y.o := IntWalk.i64_in _ (by rw [hr.l, hr.o]; omega)
  have hyl := hr.l
  have hyo := hr.o
  have HLT := Lib.hid h.lt
  have HBX : Hid (IBox (w.alloc (.cells #[.int .i64 y.i, .int .i64 y.k, .int .i64 y.l, .int .i64 y.o, .int .i64 y.s, .slice y.oa y.n y.c] 62)) w.heap.size y) := Lib.hid (heap_alloc_new w _)
  obtain ⟨c0, c1, c2, c3, c4, c5⟩ := HBX.out.cells
  clear h hf hg hr hb1 op hnum hnx hxi
  cases may with
  | false =>
    clear hw1 hyl hyo hlo hoo
    go_enter Try.func31, Try.ntmps31
    go_wp2_with fail
    generalize w.alloc (.cells #[.int .i64 y.i, .int .i64 y.k, .int .i64 y.l, .int .i64 y.o, .int .i64 y.s, .slice y.oa y.n y.c] 62) = w1 at *
    go_still_tail 7, (by kernel_rfl)
    clear c0 c1 c2 c3 c4 c5
    go_wp2_with (at_mapUpdate; go_loud (refine wpList_map_store _ rfl _ _ _ 69 62 rfl iMK Try.underlying69 b n g (MapIs.drew OP.out.m) (by rfl) y.i y HI.out (by rfl) (by rfl) ?_; intro w5 hm5 ho5 hs5; have HM5 := Lib.hid hm5; have HO5 : Hid (Only b w1 w5) := Lib.hid (only_undrew (w := w1) ho5); clear hm5 ho5 hs5))
    go_ret
    have hk : keepL L x false = upd L x := by unfold keepL; rw [if_neg (by simp)]
    obtain ⟨q1, q2⟩ := op_upd OP.out HF.out HR.out
    rw [← HR.out.i] at q1 q2
    exact ⟨rfl, by rw [hk]; exact H1.out.set HM5.out HO5.out (H1.out.good.upd HF.out HG.out) q1 q2, (Only.of_below HB1.out).trans HO5.out⟩
  | true =>
    by_cases hz : y.l + y.o = 0
    · have hz2 : (y.l + y.o == 0) = true := by rw [beq_iff_eq]; exact hz
      have HK : Hid (keepL L x true = del L x.i) := Lib.hid (by unfold keepL; rw [if_pos ⟨rfl, by rw [← hyl, ← hyo]; exact hz⟩])
      clear hyl hyo hlo hoo hz
      go_enter Try.func31, Try.ntmps31
      go_wp2_with fail
      generalize w.alloc (.cells #[.int .i64 y.i, .int .i64 y.k, .int .i64 y.l, .int .i64 y.o, .int .i64 y.s, .slice y.oa y.n y.c] 62) = w1 at *
      go_still_tail 7, (by kernel_rfl)
      clear c0 c1 c2 c3 c4 c5 h0
      go_wp2_with (at_mapUpdate; go_loud (refine wpList_map_store _ rfl _ _ _ 69 62 rfl iMK Try.underlying69 b n g (MapIs.drew OP.out.m) (by rfl) y.i y HI.out (by rfl) (by rfl) ?_; intro w5 hm5 ho5 hs5; have HM5 := Lib.hid hm5; have HO5 : Hid (Only b w1 w5) := Lib.hid (only_undrew (w := w1) ho5); obtain ⟨c0, c1, c2, c3, c4, c5⟩ := IBox.cells (Only.heap HO5.out HBX.out (by have := HLT.out; omega)); have h0 := (new_cells (Only.heap HO5.out H1.out.head H1.out.ne) 0 (by simp)).1; simp only [List.getElem_toArray, List.getElem_cons_zero] at h0; clear hm5 ho5 hs5))
      go_still_tail 6, (by kernel_rfl)
      clear c0 c1 c2 c3 c4 c5 h0
      go_wp2_with (at_delete; go_loud (refine wpList_map_delete _ rfl _ _ 69 62 rfl iMK Try.underlying69 b (n + 1) _ (MapIs.drew HM5.out) (by rfl) y.i HI.out (by rfl) ?_; intro w6 hm6 ho6 hs6; have HM6 := Lib.hid hm6; have HO6 : Hid (Only b w5 w6) := Lib.hid (only_undrew (w := w5) ho6); clear hm6 ho6 hs6))
      go_ret
      obtain ⟨q1, q2⟩ := op_del OP.out (x := x) (y := y)
      rw [← HR.out.i] at q1 q2
      refine ⟨rfl, ?_, (Only.of_below HB1.out).trans (HO5.out.trans HO6.out)⟩
      rw [HK.out]
      have hgd := H1.out.good.del x.i
      rw [← HR.out.i] at hgd ⊢
      exact H1.out.set HM6.out (HO5.out.trans HO6.out) hgd q1 q2
    · have hz2 : (y.l + y.o == 0) = false := by rw [beq_eq_false_iff_ne]; exact hz
      have HK : Hid (keepL L x true = upd L x) := Lib.hid (by unfold keepL; rw [if_neg (fun e => hz (by rw [hyl, hyo]; exact e.2))])
      clear hyl hyo hlo hoo hz
      go_enter Try.func31, Try.ntmps31
      go_wp2_with fail
      generalize w.alloc (.cells #[.int .i64 y.i, .int .i64 y.k, .int .i64 y.l, .int .i64 y.o, .int .i64 y.s, .slice y.oa y.n y.c] 62) = w1 at *
      go_still_tail 7, (by kernel_rfl)
      clear c0 c1 c2 c3 c4 c5 h0
      go_wp2_with (at_mapUpdate; go_loud (refine wpList_map_store _ rfl _ _ _ 69 62 rfl iMK Try.underlying69 b n g (MapIs.drew OP.out.m) (by rfl) y.i y HI.out (by rfl) (by rfl) ?_; intro w5 hm5 ho5 hs5; have HM5 := Lib.hid hm5; have HO5 : Hid (Only b w1 w5) := Lib.hid (only_undrew (w := w1) ho5); obtain ⟨c0, c1, c2, c3, c4, c5⟩ := IBox.cells (Only.heap HO5.out HBX.out (by have := HLT.out; omega)); clear hm5 ho5 hs5))
      go_ret
      obtain ⟨q1, q2⟩ := op_upd OP.out HF.out HR.out
      rw [← HR.out.i] at q1 q2
      exact ⟨rfl, by rw [HK.out]; exact H1.out.set HM5.out HO5.out (H1.out.good.upd HF.out HG.out) q1 q2, (Only.of_below HB1.out).trans HO5.out⟩
end Go.Proofs.Ytappgelpigoknaa.InoW
