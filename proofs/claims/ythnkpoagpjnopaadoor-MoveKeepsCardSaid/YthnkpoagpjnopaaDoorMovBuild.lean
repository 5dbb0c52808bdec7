/- The walk of move.Build. -/
import Derived.Test.YthnkpoagpjnopaaDoorMovJoin
import Derived.Test.YthnkpoagpjnopaaDoorOpGood
import Derived.Test.YthnkpoagpjnopaaDoorAppDraw
import Derived.Great.BuildSlice
namespace Go.Proofs.YthnkpoagpjnopaaDoor.MovW
set_option maxRecDepth 100000
open Go.RowKit MovP OpP OpW ExtW
/-- what Build comes to -/
def buildR (c q i : Int) (D : List Tx) (l : List Pt) : Rec × Int :=
  if l = [] then (zeroR, 1) else if l.any (missB D) then (zeroR, 60) else if l.any badB then (zeroR, 11) else if goodB (recR c q i D l) then (recR c q i D l, 0) else (zeroR, 11)
def BuildPost (ry : Rec × Int) (w : World) (e : Ending) (w' : World) : Prop :=
  ∃ (oa : Option Addr) (n cc : Nat), e = .returned (.tuple #[.agg #[.int .i64 ry.1.cl, .int .i64 ry.1.sq, .int .i64 ry.1.k, .string ry.1.p, .string ry.1.t, .int .i64 ry.1.sz, .int .i64 ry.1.h, .int .i64 ry.1.o, .string ry.1.d, .int .i64 ry.1.tk, .int .i64 ry.1.i, .slice oa n cc], .int .i64 ry.2]) ∧ n = ry.1.m.length ∧ (oa = none → n = 0 ∧ cc = 0) ∧ MvAt w' oa ry.1.m ∧ Below w.heap.size w w'
theorem build_zero (y : Int) (w w' : World) (h : Below w.heap.size w w') : BuildPost (zeroR, y) w (.returned (.tuple #[.agg #[.int .i64 0, .int .i64 0, .int .i64 0, .string ⟨#[]⟩, .string ⟨#[]⟩, .int .i64 0, .int .i64 0, .int .i64 0, .string ⟨#[]⟩, .int .i64 0, .int .i64 0, .slice none 0 0], .int .i64 y])) w' :=
  ⟨none, 0, 0, rfl, rfl, fun _ => ⟨rfl, rfl⟩, MvAt.nil _ _, h⟩
theorem build_nil (c q i : Int) (D : List Tx) : buildR c q i D [] = (zeroR, 1) := if_pos rfl
theorem build_miss (c q i : Int) {D : List Tx} {l : List Pt} {k : Nat} {x : Pt} (hx : l[k]? = some x) (hm : missB D x = true) : buildR c q i D l = (zeroR, 60) := by
  have hmem := List.mem_of_getElem? hx
  unfold buildR
  rw [if_neg (fun e => by rw [e] at hmem; cases hmem), if_pos (List.any_eq_true.2 ⟨x, hmem, hm⟩)]
theorem build_bad (c q i : Int) {D : List Tx} {l : List Pt} (h1 : ∀ x ∈ l, missB D x = false) {k : Nat} {x : Pt} (hx : l[k]? = some x) (hm : badB x = true) : buildR c q i D l = (zeroR, 11) := by
  have hmem := List.mem_of_getElem? hx
  unfold buildR
  rw [if_neg (fun e => by rw [e] at hmem; cases hmem), if_neg (fun e => by obtain ⟨y, hy, e⟩ := List.any_eq_true.1 e; rw [h1 y hy] at e; cases e), if_pos (List.any_eq_true.2 ⟨x, hmem, hm⟩)]
theorem build_end (c q i : Int) {D : List Tx} {l : List Pt} (h0 : l ≠ []) (h1 : ∀ x ∈ l, missB D x = false) (h2 : ∀ x ∈ l, badB x = false) : buildR c q i D l = if goodB (recR c q i D l) then (recR c q i D l, 0) else (zeroR, 11) := by
  unfold buildR
  rw [if_neg h0, if_neg (fun e => by obtain ⟨y, hy, e⟩ := List.any_eq_true.1 e; rw [h1 y hy] at e; cases e), if_neg (fun e => by obtain ⟨y, hy, e⟩ := List.any_eq_true.1 e; rw [h2 y hy] at e; cases e)]
theorem strinfo : (Tryd.prog.info? 9).map (fun i => (i.zero, i.size, i.bytes)) = some (some (.string ByteArray.empty), 1, 16) := by kernel_rfl
theorem cells12 {w : World} {b : Nat} {v0 v1 v2 v3 v4 v5 v6 v7 v8 v9 v10 v11 : Value} {T : TypeId} (h : w.heap[b]? = some (.cells #[v0, v1, v2, v3, v4, v5, v6, v7, v8, v9, v10, v11] T (0, 0))) : w.cell? ⟨b, 0, none⟩ = some v0 ∧ w.cell? ⟨b, 1, none⟩ = some v1 ∧ w.cell? ⟨b, 2, none⟩ = some v2 ∧ w.cell? ⟨b, 3, none⟩ = some v3 ∧ w.cell? ⟨b, 4, none⟩ = some v4 ∧ w.cell? ⟨b, 5, none⟩ = some v5 ∧ w.cell? ⟨b, 6, none⟩ = some v6 ∧ w.cell? ⟨b, 7, none⟩ = some v7 ∧ w.cell? ⟨b, 8, none⟩ = some v8 ∧ w.cell? ⟨b, 9, none⟩ = some v9 ∧ w.cell? ⟨b, 10, none⟩ = some v10 ∧ w.cell? ⟨b, 11, none⟩ = some v11 :=
  ⟨(new_cells h 0 (by simp)).1, (new_cells h 1 (by simp)).1, (new_cells h 2 (by simp)).1, (new_cells h 3 (by simp)).1, (new_cells h 4 (by simp)).1, (new_cells h 5 (by simp)).1, (new_cells h 6 (by simp)).1, (new_cells h 7 (by simp)).1, (new_cells h 8 (by simp)).1, (new_cells h 9 (by simp)).1, (new_cells h 10 (by simp)).1, (new_cells h 11 (by simp)).1⟩
theorem own_rng {w : World} {base size n c : Nat} {e : TypeId} {oa : Option Addr} {xs : List Value} (h : w.ownsRow base e size (.slice oa n c) n xs) : ∀ g, (Value.slice oa n c).ownBlock = some g → base ≤ g ∧ g < w.heap.size := by
  intro g hg
  cases oa with
  | none => simp [Value.ownBlock] at hg
  | some ad =>
    have := (own_base h).1 ad rfl
    simp [Value.ownBlock] at hg
    omega
set_option maxHeartbeats 800000 in
theorem build_none (c q i : Int) (v : Value) (cap : Nat) (oa : Option Addr) (D : List Tx) (w : World) :
    Calls Tryd.prog 8 #[.int .i64 c, .int .i64 q, .int .i64 i, .slice oa 0 cap, v] w (BuildPost (buildR c q i D []) w) := by
  rw [build_nil]
  have HR := Lib.hid (heap_alloc_new w (.cells #[.int .i64 0, .int .i64 0, .int .i64 0, .string ⟨#[]⟩, .string ⟨#[]⟩, .int .i64 0, .int .i64 0, .int .i64 0, .string ⟨#[]⟩, .int .i64 0, .int .i64 0, .slice none 0 0] 34))
  go_enter Tryd.func8, Tryd.ntmps8
  go_wp2_with (refine wpList_store_row rfl 34 (Operand.tmp 10) _ rfl w.heap.size _ rfl rfl 34 _ HR.out opSize rfl (by simp [Value.oneCell']) ?_)
  refine ret_row (p := 10) (u := 11) rfl rfl rfl (setRow_heap _ _ _ _ _ _ HR.out) Tryd.underlying34 rfl opSize ?_
  exact build_zero 1 _ _ (below_setRow (below_alloc w _) (Nat.le_refl _) _)
set_option maxHeartbeats 12800000 in
theorem build_some (c q i : Int) (D : List Tx) (hD : ∀ d ∈ D, d.s.size ≤ 3000) (l : List Pt) (hl : l.length ≤ 60) (h0 : l ≠ []) (hok : ∀ x ∈ l, PtOk x) (oa : Option Addr) (cap b nb : Nat) (w : World) (hf : Fl w) (hm : TxIs w b nb (txt D)) (hp : PtsAt w.heap.size oa l w) :
    Calls Tryd.prog 8 #[.int .i64 c, .int .i64 q, .int .i64 i, .slice oa l.length cap, .map (some b)] w (BuildPost (buildR c q i D l) w) := by
  have HD := Lib.hid hD
  have HL := Lib.hid hl
  have HOK := Lib.hid hok
  have HM := Lib.hid hm
  have HP := Lib.hid hp
  have HF := Lib.hid hf
  have H0 := Lib.hid h0
  have hpos : 0 < l.length := List.length_pos_iff.2 h0
  have hl0 : ((l.length : Int) == 0) = false := by rw [beq_eq_false_iff_ne]; omega
  have hb0 : Below w.heap.size w (w.alloc (.cells #[.int .i64 0, .int .i64 0, .int .i64 0, .string ⟨#[]⟩, .string ⟨#[]⟩, .int .i64 0, .int .i64 0, .int .i64 0, .string ⟨#[]⟩, .int .i64 0, .int .i64 0, .slice none 0 0] 34)) := below_alloc w _
  have HB0 := Lib.hid hb0
  have HR0 := Lib.hid (heap_alloc_new w (.cells #[.int .i64 0, .int .i64 0, .int .i64 0, .string ⟨#[]⟩, .string ⟨#[]⟩, .int .i64 0, .int .i64 0, .int .i64 0, .string ⟨#[]⟩, .int .i64 0, .int .i64 0, .slice none 0 0] 34))
  have HS0 : Hid ((w.alloc (.cells #[.int .i64 0, .int .i64 0, .int .i64 0, .string ⟨#[]⟩, .string ⟨#[]⟩, .int .i64 0, .int .i64 0, .int .i64 0, .string ⟨#[]⟩, .int .i64 0, .int .i64 0, .slice none 0 0] 34)).heap.size = w.heap.size + 1) := Lib.hid (by simp)
  clear hD hl hok hm hp hf h0 hb0
  go_enter Tryd.func8, Tryd.ntmps8
  go_wp2_with fail
  generalize w.alloc (.cells #[.int .i64 0, .int .i64 0, .int .i64 0, .string ⟨#[]⟩, .string ⟨#[]⟩, .int .i64 0, .int .i64 0, .int .i64 0, .string ⟨#[]⟩, .int .i64 0, .int .i64 0, .slice none 0 0] 34) = w0 at *
  obtain ⟨rb, hrb⟩ : ∃ rb, rb = w.heap.size := ⟨_, rfl⟩
  rw [← hrb] at HR0 HS0 ⊢
  have HRB := Lib.hid hrb
  clear hrb
  go_loopw [27] (fun j wr => ∃ k : Nat, k ≤ l.length ∧ j = .int .i64 (k : Int) ∧ (∀ x ∈ l.take k, missB D x = false) ∧ Below w0.heap.size w0 wr) (fun j _ => ((l.length : Int) - intOf j).toNat)
  case atStart => exact ⟨0, by omega, rfl, by simp, Below.refl _ _⟩
  case round =>
    obtain ⟨k, hk, rfl, hnm, hbel⟩ := hrel
    have HNM := Lib.hid hnm
    have HBEL := Lib.hid hbel
    have HBW : Hid (Below w.heap.size w wr) := Lib.hid (bstep HB0.out hbel)
    have HRES : Hid (wr.heap[rb]? = some (.cells #[.int .i64 0, .int .i64 0, .int .i64 0, .string ⟨#[]⟩, .string ⟨#[]⟩, .int .i64 0, .int .i64 0, .int .i64 0, .string ⟨#[]⟩, .int .i64 0, .int .i64 0, .slice none 0 0] 34 (0, 0))) := Lib.hid ((hbel.block rb (by have := HS0.out; omega)).trans HR0.out)
    clear hnm hbel
    have hl60 := HL.out
    by_cases hlt : k < l.length
    · have hlt1 : (k : Int) < (l.length : Int) := by omega
      obtain ⟨x, hx⟩ : ∃ x, l[k]? = some x := ⟨_, List.getElem?_eq_getElem hlt⟩
      obtain ⟨a, rfl, hab, d0, d1, d2, d3⟩ := (HP.out.below HBW.out) k x hx
      have HX := Lib.hid hx
      have HXO := Lib.hid (HOK.out x (List.mem_of_getElem? hx))
      have HMX : Hid (TxIs (wr.alloc (.cells #[.int .i64 x.o, .int .i64 x.n, .int .i64 x.a, .int .i64 x.f] 64)) b nb (txt D)) := Lib.hid (MapIs.alloc (MapIs.of_block HM.out (HBW.out.block b (MapIs.lt HM.out))) _)
      have HBX := Lib.hid (below_alloc wr (.cells #[.int .i64 x.o, .int .i64 x.n, .int .i64 x.a, .int .i64 x.f] 64))
      have HTK : Hid (missB D x = false → ∀ y ∈ l.take (k + 1), missB D y = false) := Lib.hid fun hm y hy => by
        rw [take_one' HX.out, List.mem_append] at hy
        rcases hy with hy | hy
        · exact HNM.out y hy
        · rw [List.mem_singleton.1 hy]; exact hm
      have hbn := i64_bd HXO.out.2.1
      have hbf := i64_bd HXO.out.2.2.2
      have HMISS : Hid (missB D x = match txt D x.a with | none => true | some s => shortB s x) := Lib.hid rfl
      clear hx hab
      cases ht : txt D x.a with
      | none =>
        have HG := Lib.hid ht
        have HE : Hid (buildR c q i D l = (zeroR, 60)) := Lib.hid (build_miss c q i HX.out (by rw [HMISS.out, ht]))
        clear ht hbn hbf
        go_wp2_with (first
          | (at_lookup; go_loud (refine wpList_map_look_none _ rfl _ _ 28 9 true rfl aMK Tryd.underlying28 _ (sZero _) b nb _ HMX.out (by rfl) x.a HXO.out.2.2.1 (by rfl) HG.out ?_; unfold sV; simp only [if_true]))
          | ((with_reducible (refine wpList_store_rowTo rfl 34 (Operand.tmp 10) (Operand.tmp 77) rfl rfl rb #[.int .i64 0, .int .i64 0, .int .i64 0, .string ⟨#[]⟩, .string ⟨#[]⟩, .int .i64 0, .int .i64 0, .int .i64 0, .string ⟨#[]⟩, .int .i64 0, .int .i64 0, .slice none 0 0] ?_ ?_ 34 #[.int .i64 0, .int .i64 0, .int .i64 0, .string ⟨#[]⟩, .string ⟨#[]⟩, .int .i64 0, .int .i64 0, .int .i64 0, .string ⟨#[]⟩, .int .i64 0, .int .i64 0, .slice none 0 0] ?_ ?_ ?_ ?_ ?_)); (· rfl); (· rfl); (· exact (heap_alloc_old _ _ (lt_of_block HRES.out)).trans HRES.out); (· exact opSize); (· rfl); (· simp [Value.oneCell'])))
        try simp only [Exit.inBlock, Exit.then]
        refine ret_row (p := 10) (u := 11) rfl rfl rfl (setRow_heap _ _ _ _ _ _ ((heap_alloc_old _ _ (lt_of_block HRES.out)).trans HRES.out)) Tryd.underlying34 rfl opSize ?_
        rw [HE.out]
        exact build_zero 60 _ _ (below_setRow (bstep HBW.out HBX.out) (by rw [HRB.out]; exact Nat.le_refl _) _)
      | some s =>
        have HG := Lib.hid ht
        have HSZ : Hid (s.size ≤ 3000) := Lib.hid (txt_size HD.out ht)
        have HMS : Hid (missB D x = shortB s x) := Lib.hid (by rw [HMISS.out, ht])
        have hsz := HSZ.out
        clear ht
        by_cases h1 : 0 < x.n
        · have hw : IntKind.i64.wrap ((s.size : Int) - x.n) = (s.size : Int) - x.n := IntWalk.i64_in _ (by omega)
          have hn1 : decide (x.n ≤ 0) = false := decide_eq_false (by omega)
          have HSB : Hid (shortB s x = decide ((s.size : Int) - x.n < x.f)) := Lib.hid (if_pos h1)
          by_cases h2 : (s.size : Int) - x.n < x.f
          · have HE : Hid (buildR c q i D l = (zeroR, 60)) := Lib.hid (build_miss c q i HX.out (by rw [HMS.out, HSB.out, decide_eq_true h2]))
            clear hbn hbf hsz
            go_wp2_with (first
              | (at_lookup; go_loud (refine wpList_map_look_some _ rfl _ _ 28 9 true rfl aMK Tryd.underlying28 _ (sZero _) b nb _ HMX.out (by rfl) x.a HXO.out.2.2.1 (by rfl) s HG.out (.string s) rfl ?_; simp only [if_true]))
              | ((with_reducible (refine wpList_store_rowTo rfl 34 (Operand.tmp 10) (Operand.tmp 77) rfl rfl rb #[.int .i64 0, .int .i64 0, .int .i64 0, .string ⟨#[]⟩, .string ⟨#[]⟩, .int .i64 0, .int .i64 0, .int .i64 0, .string ⟨#[]⟩, .int .i64 0, .int .i64 0, .slice none 0 0] ?_ ?_ 34 #[.int .i64 0, .int .i64 0, .int .i64 0, .string ⟨#[]⟩, .string ⟨#[]⟩, .int .i64 0, .int .i64 0, .int .i64 0, .string ⟨#[]⟩, .int .i64 0, .int .i64 0, .slice none 0 0] ?_ ?_ ?_ ?_ ?_)); (· rfl); (· rfl); (· exact (heap_alloc_old _ _ (lt_of_block HRES.out)).trans HRES.out); (· exact opSize); (· rfl); (· simp [Value.oneCell'])))
            try simp only [Exit.inBlock, Exit.then]
            refine ret_row (p := 10) (u := 11) rfl rfl rfl (setRow_heap _ _ _ _ _ _ ((heap_alloc_old _ _ (lt_of_block HRES.out)).trans HRES.out)) Tryd.underlying34 rfl opSize ?_
            rw [HE.out]
            exact build_zero 60 _ _ (below_setRow (bstep HBW.out HBX.out) (by rw [HRB.out]; exact Nat.le_refl _) _)
          · have HE := Lib.hid (HTK.out (by rw [HMS.out, HSB.out, decide_eq_false h2]))
            have h3 : decide ((s.size : Int) - x.n < x.f) = false := decide_eq_false h2
            clear hbn hbf hsz h2
            go_wp2_with (at_lookup; go_loud (refine wpList_map_look_some _ rfl _ _ 28 9 true rfl aMK Tryd.underlying28 _ (sZero _) b nb _ HMX.out (by rfl) x.a HXO.out.2.2.1 (by rfl) s HG.out (.string s) rfl ?_; simp only [if_true]))
            exact ⟨⟨k + 1, by omega, by simp, HE.out, bstep HBEL.out HBX.out⟩, by simp [intOf]; omega⟩
        · have hn1 : x.n ≤ 0 := by omega
          have hn0 : decide (0 < x.n) = false := decide_eq_false h1
          have HSB : Hid (shortB s x = decide ((s.size : Int) < x.f ∧ (s.size : Int) < x.f + x.n)) := Lib.hid (if_neg h1)
          by_cases h2 : (s.size : Int) < x.f
          · have hw : IntKind.i64.wrap (x.f + x.n) = x.f + x.n := IntWalk.i64_in _ (by omega)
            by_cases h3 : (s.size : Int) < x.f + x.n
            · have HE : Hid (buildR c q i D l = (zeroR, 60)) := Lib.hid (build_miss c q i HX.out (by rw [HMS.out, HSB.out, decide_eq_true ⟨h2, h3⟩]))
              clear hbn hbf hsz h1
              go_wp2_with (first
                | (at_lookup; go_loud (refine wpList_map_look_some _ rfl _ _ 28 9 true rfl aMK Tryd.underlying28 _ (sZero _) b nb _ HMX.out (by rfl) x.a HXO.out.2.2.1 (by rfl) s HG.out (.string s) rfl ?_; simp only [if_true]))
                | ((with_reducible (refine wpList_store_rowTo rfl 34 (Operand.tmp 10) (Operand.tmp 77) rfl rfl rb #[.int .i64 0, .int .i64 0, .int .i64 0, .string ⟨#[]⟩, .string ⟨#[]⟩, .int .i64 0, .int .i64 0, .int .i64 0, .string ⟨#[]⟩, .int .i64 0, .int .i64 0, .slice none 0 0] ?_ ?_ 34 #[.int .i64 0, .int .i64 0, .int .i64 0, .string ⟨#[]⟩, .string ⟨#[]⟩, .int .i64 0, .int .i64 0, .int .i64 0, .string ⟨#[]⟩, .int .i64 0, .int .i64 0, .slice none 0 0] ?_ ?_ ?_ ?_ ?_)); (· rfl); (· rfl); (· exact (heap_alloc_old _ _ (lt_of_block HRES.out)).trans HRES.out); (· exact opSize); (· rfl); (· simp [Value.oneCell'])))
              try simp only [Exit.inBlock, Exit.then]
              refine ret_row (p := 10) (u := 11) rfl rfl rfl (setRow_heap _ _ _ _ _ _ ((heap_alloc_old _ _ (lt_of_block HRES.out)).trans HRES.out)) Tryd.underlying34 rfl opSize ?_
              rw [HE.out]
              exact build_zero 60 _ _ (below_setRow (bstep HBW.out HBX.out) (by rw [HRB.out]; exact Nat.le_refl _) _)
            · have HE := Lib.hid (HTK.out (by rw [HMS.out, HSB.out, decide_eq_false (fun q => h3 q.2)]))
              have h4 : decide ((s.size : Int) < x.f + x.n) = false := decide_eq_false h3
              clear hbn hbf hsz h3 h1
              go_wp2_with (at_lookup; go_loud (refine wpList_map_look_some _ rfl _ _ 28 9 true rfl aMK Tryd.underlying28 _ (sZero _) b nb _ HMX.out (by rfl) x.a HXO.out.2.2.1 (by rfl) s HG.out (.string s) rfl ?_; simp only [if_true]))
              exact ⟨⟨k + 1, by omega, by simp, HE.out, bstep HBEL.out HBX.out⟩, by simp [intOf]; omega⟩
          · have HE := Lib.hid (HTK.out (by rw [HMS.out, HSB.out, decide_eq_false (fun q => h2 q.1)]))
            have h4 : decide ((s.size : Int) < x.f) = false := decide_eq_false h2
            clear hbn hbf hsz h2 h1
            go_wp2_with (at_lookup; go_loud (refine wpList_map_look_some _ rfl _ _ 28 9 true rfl aMK Tryd.underlying28 _ (sZero _) b nb _ HMX.out (by rfl) x.a HXO.out.2.2.1 (by rfl) s HG.out (.string s) rfl ?_; simp only [if_true]))
            exact ⟨⟨k + 1, by omega, by simp, HE.out, bstep HBEL.out HBX.out⟩, by simp [intOf]; omega⟩
    · obtain rfl : k = l.length := by omega
      have HNA : Hid (∀ x ∈ l, missB D x = false) := Lib.hid (by have := HNM.out; rwa [List.take_length] at this)
      clear HNM hlt
      obtain ⟨j0, hj, hj0, hj1, hj2⟩ := info_parts mvinfo
      obtain ⟨s0, hs0, hs1, hs2, hs3⟩ := info_parts strinfo
      obtain ⟨wo, rfl⟩ : ∃ wo, wo = wr := ⟨_, rfl⟩
      obtain ⟨ob, hob⟩ : ∃ ob, ob = wo.heap.size := ⟨_, rfl⟩
      have HOB0 : Hid ((wo.alloc (.cells #[.int .i64 c, .int .i64 q, .int .i64 13, .string ⟨#[]⟩, .string ⟨#[]⟩, .int .i64 0, .int .i64 0, .int .i64 0, .string ⟨#[]⟩, .int .i64 0, .int .i64 i, .slice none 0 0] 34)).heap[ob]? = some (.cells #[.int .i64 c, .int .i64 q, .int .i64 13, .string ⟨#[]⟩, .string ⟨#[]⟩, .int .i64 0, .int .i64 0, .int .i64 0, .string ⟨#[]⟩, .int .i64 0, .int .i64 i, .slice none 0 0] 34 (0, 0))) := Lib.hid (by rw [hob]; exact heap_alloc_new wo _)
      have HBA : Hid (Below wo.heap.size wo (wo.alloc (.cells #[.int .i64 c, .int .i64 q, .int .i64 13, .string ⟨#[]⟩, .string ⟨#[]⟩, .int .i64 0, .int .i64 0, .int .i64 0, .string ⟨#[]⟩, .int .i64 0, .int .i64 i, .slice none 0 0] 34))) := Lib.hid (below_alloc wo _)
      go_wp2_with fail
      rw [← hob]
      generalize wo.alloc (.cells #[.int .i64 c, .int .i64 q, .int .i64 13, .string ⟨#[]⟩, .string ⟨#[]⟩, .int .i64 0, .int .i64 0, .int .i64 0, .string ⟨#[]⟩, .int .i64 0, .int .i64 i, .slice none 0 0] 34) = w1 at *
      have HOB := Lib.hid hob
      clear hob
      go_loopw [17, 18, 85] (fun vt va j wq => ∃ (k : Nat) (oa2 : Option Addr) (c2 : Nat), k ≤ l.length ∧ j = .int .i64 (k : Int) ∧ va = .int .i64 (mvF (l.take k)).2 ∧ wq.heap[ob]? = some (.cells #[.int .i64 c, .int .i64 q, .int .i64 13, .string ⟨#[]⟩, .string ⟨#[]⟩, .int .i64 0, .int .i64 0, .int .i64 0, .string ⟨#[]⟩, .int .i64 0, .int .i64 i, .slice oa2 k c2] 34 (0, 0)) ∧ RowK 69 encM 4 (ob + 1) wq (.slice oa2 k c2) (mvF (l.take k)).1 ∧ RowK 9 encS 1 (ob + 1) wq vt (txF D (l.take k)) ∧ (∀ g, vt.ownBlock = some g → (Value.slice oa2 k c2).ownBlock ≠ some g) ∧ (∀ x ∈ l.take k, badB x = false) ∧ Below wo.heap.size wo wq) (fun _ _ j _ => ((l.length : Int) - intOf j).toNat)
      case atStart => exact ⟨0, none, 0, by omega, rfl, rfl, HOB0.out, RowK.nil _ _, RowK.nil _ _, (fun g h => by cases h), by simp, HBA.out⟩
      case round =>
        obtain ⟨k, oa2, c2, hk, rfl, rfl, hbx, hrm, hrt, hne, hnb, hbel⟩ := hrel
        have HBX := Lib.hid hbx
        have HRM := Lib.hid hrm
        have HRT := Lib.hid hrt
        have HNE := Lib.hid hne
        have HNB := Lib.hid hnb
        have HBEL := Lib.hid hbel
        have HBW2 : Hid (Below w.heap.size w wr) := Lib.hid (HBW.out.trans (hbel.mono HBW.out.size))
        have HRES2 : Hid (wr.heap[rb]? = some (.cells #[.int .i64 0, .int .i64 0, .int .i64 0, .string ⟨#[]⟩, .string ⟨#[]⟩, .int .i64 0, .int .i64 0, .int .i64 0, .string ⟨#[]⟩, .int .i64 0, .int .i64 0, .slice none 0 0] 34 (0, 0))) := Lib.hid ((hbel.block rb (lt_of_block HRES.out)).trans HRES.out)
        have HBLT : Hid (b < ob) := Lib.hid (by have := MapIs.lt HM.out; have := HBW.out.size; have := HOB.out; omega)
        clear hbx hrm hrt hne hnb hbel
        by_cases hlt : k < l.length
        · have hlt1 : (k : Int) < (l.length : Int) := by omega
          obtain ⟨x, hx⟩ : ∃ x, l[k]? = some x := ⟨_, List.getElem?_eq_getElem hlt⟩
          obtain ⟨a, rfl, hab, d0, d1, d2, d3⟩ := (HP.out.below HBW2.out) k x hx
          have HX := Lib.hid hx
          have HXO := Lib.hid (HOK.out x (List.mem_of_getElem? hx))
          have HNMX := Lib.hid (HNA.out x (List.mem_of_getElem? hx))
          have HAB := Lib.hid hab
          clear hx hab
          cases hbad : badB x with
          | true =>
            have HE : Hid (buildR c q i D l = (zeroR, 11)) := Lib.hid (build_bad c q i HNA.out HX.out hbad)
            have hb2 : x.f < 0 ∨ (0 ≤ x.f ∧ x.n < 1) := by have := of_decide_eq_true hbad; omega
            clear hbad
            rcases hb2 with h1 | ⟨h1, h2⟩
            · go_wp2_with ((with_reducible (refine wpList_store_rowTo rfl 34 (Operand.tmp 10) (Operand.tmp 97) rfl rfl rb #[.int .i64 0, .int .i64 0, .int .i64 0, .string ⟨#[]⟩, .string ⟨#[]⟩, .int .i64 0, .int .i64 0, .int .i64 0, .string ⟨#[]⟩, .int .i64 0, .int .i64 0, .slice none 0 0] ?_ ?_ 34 #[.int .i64 0, .int .i64 0, .int .i64 0, .string ⟨#[]⟩, .string ⟨#[]⟩, .int .i64 0, .int .i64 0, .int .i64 0, .string ⟨#[]⟩, .int .i64 0, .int .i64 0, .slice none 0 0] ?_ ?_ ?_ ?_ ?_)); (· rfl); (· rfl); (· exact (heap_alloc_old _ _ (lt_of_block HRES2.out)).trans HRES2.out); (· exact opSize); (· rfl); (· simp [Value.oneCell']))
              try simp only [Exit.inBlock, Exit.then]
              refine ret_row (p := 10) (u := 11) rfl rfl rfl (setRow_heap _ _ _ _ _ _ ((heap_alloc_old _ _ (lt_of_block HRES2.out)).trans HRES2.out)) Tryd.underlying34 rfl opSize ?_
              rw [HE.out]
              exact build_zero 11 _ _ (below_setRow (bstep HBW2.out (below_alloc wr _)) (by rw [HRB.out]; exact Nat.le_refl _) _)
            · have h3 : decide (x.f < 0) = false := decide_eq_false (by omega)
              go_wp2_with ((with_reducible (refine wpList_store_rowTo rfl 34 (Operand.tmp 10) (Operand.tmp 97) rfl rfl rb #[.int .i64 0, .int .i64 0, .int .i64 0, .string ⟨#[]⟩, .string ⟨#[]⟩, .int .i64 0, .int .i64 0, .int .i64 0, .string ⟨#[]⟩, .int .i64 0, .int .i64 0, .slice none 0 0] ?_ ?_ 34 #[.int .i64 0, .int .i64 0, .int .i64 0, .string ⟨#[]⟩, .string ⟨#[]⟩, .int .i64 0, .int .i64 0, .int .i64 0, .string ⟨#[]⟩, .int .i64 0, .int .i64 0, .slice none 0 0] ?_ ?_ ?_ ?_ ?_)); (· rfl); (· rfl); (· exact (heap_alloc_old _ _ (lt_of_block HRES2.out)).trans HRES2.out); (· exact opSize); (· rfl); (· simp [Value.oneCell']))
              try simp only [Exit.inBlock, Exit.then]
              refine ret_row (p := 10) (u := 11) rfl rfl rfl (setRow_heap _ _ _ _ _ _ ((heap_alloc_old _ _ (lt_of_block HRES2.out)).trans HRES2.out)) Tryd.underlying34 rfl opSize ?_
              rw [HE.out]
              exact build_zero 11 _ _ (below_setRow (bstep HBW2.out (below_alloc wr _)) (by rw [HRB.out]; exact Nat.le_refl _) _)
          | false =>
            have HT : Hid (((datF D (l.take k)).size : Int) = (mvF (l.take k)).2) := Lib.hid (dat_at fun y hy => ⟨HNA.out y (List.mem_of_mem_take hy), HNB.out y hy⟩)
            have hds := dat_size HD.out (l.take k)
            have hlk : (l.take k).length ≤ k := List.length_take_le _ _
            have HTK := Lib.hid (take_one' HX.out)
            have HMS : Hid (mvF (l.take k ++ [x]) = ((mvF (l.take k)).1 ++ [⟨x.a, x.f, x.n, (mvF (l.take k)).2⟩], (mvF (l.take k)).2 + x.n)) := Lib.hid (mvF_snoc _ _)
            have HTS : Hid (txF D (l.take k ++ [x]) = txF D (l.take k) ++ [piece D x]) := Lib.hid (txF_snoc _ _ _)
            have HML : Hid ((mvF (l.take k)).1.length = k) := Lib.hid (by rw [mvF_len, List.length_take]; omega)
            have HNB2 : Hid (∀ y ∈ l.take k ++ [x], badB y = false) := Lib.hid fun y hy => by
              rcases List.mem_append.1 hy with hy | hy
              · exact HNB.out y hy
              · rw [List.mem_singleton.1 hy]; exact hbad
            obtain ⟨s, hs, q1, q2, q3⟩ := fits HNMX.out hbad
            have HSZ : Hid (s.size ≤ 3000) := Lib.hid (txt_size HD.out hs)
            have HTL : Hid ((txF D (l.take k)).length ≤ k) := Lib.hid (by unfold txF; rw [List.length_map]; exact hlk)
            have hT0 : 0 ≤ (mvF (l.take k)).2 ∧ (mvF (l.take k)).2 ≤ 180000 := by
              have h1 := HT.out
              have h2 : 3000 * (l.take k).length ≤ 3000 * 60 := Nat.mul_le_mul_left _ (by omega)
              omega
            have HPC : Hid (piece D x = s.extract x.f.toNat (x.f + x.n).toNat) := Lib.hid (by unfold piece; rw [hs]; rfl)
            have HG := Lib.hid hs
            clear hbad hds hlk hs HT HNMX
            generalize mvF (l.take k) = mv at *
            generalize txF D (l.take k) = tx at *
            obtain ⟨ot, ct, rfl, _⟩ := HRT.out.form
            obtain ⟨ml, T⟩ := mv
            obtain ⟨xo, xn, xa, xf⟩ := x
            simp only at d0 d1 d2 d3 q1 q2 q3 HMS HPC HML hT0 HG HXO
            obtain ⟨f, rfl⟩ : ∃ f : Nat, xf = (f : Int) := ⟨xf.toNat, by omega⟩
            obtain ⟨m, rfl⟩ : ∃ m : Nat, xn = (m : Int) := ⟨xn.toNat, by omega⟩
            have hsz := HSZ.out
            have hfm : f + m ≤ s.size := by omega
            have hw1 : IntKind.i64.wrap ((f : Int) + (m : Int)) = ((f + m : Nat) : Int) := by rw [IntWalk.i64_in _ (by omega)]; omega
            have hw2 : IntKind.i64.wrap (T + (m : Int)) = T + (m : Int) := IntWalk.i64_in _ (by omega)
            have hd1 : decide ((f : Int) < 0) = false := decide_eq_false (by omega)
            have hd2 : decide ((m : Int) < 1) = false := decide_eq_false (by omega)
            have hz1 : ((f : Nat) : Int) ≤ ((f + m : Nat) : Int) := by omega
            have hz2 : ((f + m : Nat) : Int) ≤ (s.size : Int) := by omega
            have HW0 : Hid (Below wr.heap.size wr (wr.alloc (.cells #[.int .i64 xo, .int .i64 (m : Int), .int .i64 xa, .int .i64 (f : Int)] 64))) := Lib.hid (below_alloc wr _)
            have hbx1 : (wr.alloc (.cells #[.int .i64 xo, .int .i64 (m : Int), .int .i64 xa, .int .i64 (f : Int)] 64)).heap[ob]? = some (.cells #[.int .i64 c, .int .i64 q, .int .i64 13, .string ⟨#[]⟩, .string ⟨#[]⟩, .int .i64 0, .int .i64 0, .int .i64 0, .string ⟨#[]⟩, .int .i64 0, .int .i64 i, .slice oa2 k c2] 34 (0, 0)) := (heap_alloc_old _ _ (lt_of_block HBX.out)).trans HBX.out
            have HBX1 := Lib.hid hbx1
            have e11 := (new_cells hbx1 11 (by simp)).1
            simp only [List.getElem_toArray, List.getElem_cons_zero, List.getElem_cons_succ] at e11
            have HOWM : Hid (RowK 69 encM 4 (ob + 1) (wr.alloc (.cells #[.int .i64 xo, .int .i64 (m : Int), .int .i64 xa, .int .i64 (f : Int)] 64)) (.slice oa2 k c2) ml) := Lib.hid (HRM.out.grow HW0.out)
            have hlo : ob + 1 ≤ wr.heap.size := lt_of_block HBX.out
            have HRMO : Hid (wr.ownsRow (ob + 1) 69 4 (.slice oa2 k c2) k (ml.flatMap encM)) := Lib.hid (by have := HRM.out; unfold RowK at this; rw [HML.out] at this; exact this)
            have HOWB := Lib.hid (own_base HRMO.out).1
            clear hbx1 q1 q2 q3
            have HRMO1 : Hid ((wr.alloc (.cells #[.int .i64 xo, .int .i64 (m : Int), .int .i64 xa, .int .i64 (f : Int)] 64)).ownsRow (ob + 1) 69 4 (.slice oa2 k c2) k (ml.flatMap encM)) := Lib.hid (HRMO.out.alloc _)
            have HNBX : Hid (some wr.heap.size ≠ (Value.slice oa2 k c2).ownBlock) := Lib.hid (by
              intro e
              cases oa2 with
              | none => simp [Value.ownBlock] at e
              | some ad => have := (HOWB.out ad rfl).2; simp [Value.ownBlock] at e; omega)
            have HNEO : Hid ((Value.slice ot tx.length ct).ownBlock ≠ some ob) := Lib.hid (by
              intro e
              cases ot with
              | none => simp [Value.ownBlock] at e
              | some ad => have := ((own_base HRT.out).1 ad rfl).1; simp [Value.ownBlock] at e; omega)
            have HPC2 : Hid (piece D ⟨xo, (m : Int), xa, (f : Int)⟩ = s.extract f (f + m)) := Lib.hid (by
              have := HPC.out
              rw [Int.toNat_natCast, show ((f : Int) + (m : Int)).toNat = f + m by omega] at this
              exact this)
            have HSB : Hid ((wr.alloc (.cells #[.int .i64 xo, .int .i64 (m : Int), .int .i64 xa, .int .i64 (f : Int)] 64)).heap.size = wr.heap.size + 1) := Lib.hid (by simp)
            have tok1 : True := trivial
            go_wp2_with (first
              | (at_builtin; have _t := tok1; clear _t tok1; go_loud (refine wpList_append_newH rfl _ _ 32 rfl (ob + 1) 69 j0 (.agg #[.int .i64 0, .int .i64 0, .int .i64 0, .int .i64 0]) 4 32 Tryd.underlying32 hj hj0 hj1 hj2 rfl (by decide) (.slice oa2 k c2) k (ml.flatMap encM) (by rfl) HRMO1.out _ 1 1 (by rfl) rfl (encM_one [⟨xa, (f : Int), (m : Int), T⟩]) (by unfold maxLen; omega) (by omega) (by simp; omega) (by simp) ?_; intro oa5 c5 w5 hown5 hb5 hg5 hw5; have HB5 := Lib.hid hb5; have HG5 := Lib.hid hg5; have HW5 := Lib.hid hw5; have HR5 : Hid (RowK 69 encM 4 (ob + 1) w5 (.slice oa5 (k + 1) c5) (ml ++ [⟨xa, (f : Int), (m : Int), T⟩])) := Lib.hid (RowK.snoc (enc := encM) (l := ml) (⟨xa, (f : Int), (m : Int), T⟩ : Mv) rfl HML.out.symm hown5); have hbx5 : w5.heap[ob]? = some (.cells #[.int .i64 c, .int .i64 q, .int .i64 13, .string ⟨#[]⟩, .string ⟨#[]⟩, .int .i64 0, .int .i64 0, .int .i64 0, .string ⟨#[]⟩, .int .i64 0, .int .i64 i, .slice oa2 k c2] 34 (0, 0)) := (hb5.block ob (Nat.lt_succ_self _)).trans HBX1.out; have HBX5 := Lib.hid hbx5; have g11 := (new_cells hbx5 11 (by simp)).1; have f11 := Lib.frozen_of_heap hbx5 11; simp only [List.getElem_toArray, List.getElem_cons_zero, List.getElem_cons_succ] at g11; have HXB5 : Hid (w5.heap[wr.heap.size]? = some (.cells #[.int .i64 xo, .int .i64 (m : Int), .int .i64 xa, .int .i64 (f : Int)] 64 (0, 0))) := Lib.hid ((hg5.block wr.heap.size (by simp) (HNBX.out)).trans (heap_alloc_new wr _)); have HM6 : Hid (TxIs (w5.setCell ⟨ob, 11, none⟩ (.slice oa5 (k + 1) c5)) b nb (txt D)) := Lib.hid (MapIs.of_block HM.out (((Below.heap_setCell w5 ⟨ob, 11, none⟩ _ b (by have := HBLT.out; show b ≠ ob; omega)).trans (hb5.block b (by have := HBLT.out; omega))).trans ((heap_alloc_old _ _ (by have := HBLT.out; omega)).trans (HBW2.out.block b (MapIs.lt HM.out))))); have hxb6 : (w5.setCell ⟨ob, 11, none⟩ (.slice oa5 (k + 1) c5)).heap[wr.heap.size]? = some (.cells #[.int .i64 xo, .int .i64 (m : Int), .int .i64 xa, .int .i64 (f : Int)] 64 (0, 0)) := (Below.heap_setCell w5 ⟨ob, 11, none⟩ _ wr.heap.size (by show wr.heap.size ≠ ob; omega)).trans HXB5.out; have p1 := (new_cells hxb6 1 (by simp)).1; have p2 := (new_cells hxb6 2 (by simp)).1; have p3 := (new_cells hxb6 3 (by simp)).1; simp only [List.getElem_toArray, List.getElem_cons_zero, List.getElem_cons_succ] at p1 p2 p3; have HRT6 : Hid (RowK 9 encS 1 (ob + 1) (w5.setCell ⟨ob, 11, none⟩ (.slice oa5 (k + 1) c5)) (.slice ot tx.length ct) tx) := Lib.hid (Only.keepRow ((Only.refl ob w5).setCell 11 _) (RowK.other (HRT.out.grow HW0.out) hg5 HNE.out) HNEO.out); have HBX6 : Hid ((w5.setCell ⟨ob, 11, none⟩ (.slice oa5 (k + 1) c5)).heap[ob]? = some (.cells #[.int .i64 c, .int .i64 q, .int .i64 13, .string ⟨#[]⟩, .string ⟨#[]⟩, .int .i64 0, .int .i64 0, .int .i64 0, .string ⟨#[]⟩, .int .i64 0, .int .i64 i, .slice oa5 (k + 1) c5] 34 (0, 0))) := Lib.hid (box_set hbx5 rfl); have HXB6 := Lib.hid hxb6; have HOW5 := Lib.hid hown5; have HS6 : Hid ((w5.setCell ⟨ob, 11, none⟩ (.slice oa5 (k + 1) c5)).heap.size = w5.heap.size) := Lib.hid (by simp); have HNE5 : Hid (∀ g, (Value.slice oa5 (k + 1) c5).ownBlock = some g → (Value.slice ot tx.length ct).ownBlock ≠ some g) := Lib.hid (fun g hg hq => by rcases hw5 with e | e; (· exact HNE.out g hq (e.symm.trans hg)); (· have h1 := e.symm.trans hg; injection h1 with h1; have h2 := (own_rng HRT.out g hq).2; have h3 := HSB.out; omega)); have HR6 : Hid (RowK 69 encM 4 (ob + 1) (w5.setCell ⟨ob, 11, none⟩ (.slice oa5 (k + 1) c5)) (.slice oa5 (k + 1) c5) (ml ++ [⟨xa, (f : Int), (m : Int), T⟩])) := Lib.hid (Only.keepRow ((Only.refl ob w5).setCell 11 _) HR5.out (fun e => by have := (own_rng hown5 ob e).1; omega)); have hs6 : ob + 1 ≤ (w5.setCell ⟨ob, 11, none⟩ (.slice oa5 (k + 1) c5)).heap.size := lt_of_block HBX6.out; clear hown5 hb5 hg5 hw5 hbx5 hxb6 e11))
              | (at_lookup; go_loud (refine wpList_map_look_some _ rfl _ _ 28 9 false rfl aMK Tryd.underlying28 _ (sZero _) b nb _ HM6.out (by rfl) xa HXO.out.2.2.1 (by rfl) s HG.out (.string s) rfl ?_; simp only [Bool.false_eq_true, if_false]))
              | (at_builtin; go_loud (refine wpList_append_newH rfl _ _ 71 rfl (ob + 1) 9 s0 (.string ByteArray.empty) 1 16 Tryd.underlying71 hs0 hs1 hs2 hs3 rfl (by decide) (.slice ot tx.length ct) tx.length (tx.flatMap encS) (by rfl) HRT6.out _ 1 1 (by rfl) rfl (by simp [Value.oneCell']) (by have := HTL.out; unfold maxLen; omega) (by have := HTL.out; omega) hs6 (by simp) ?_; intro oa7 c7 w7 hown7 hb7 hg7 hw7; have HT7 : Hid (RowK 9 encS 1 (ob + 1) w7 (.slice oa7 (tx.length + 1) c7) (tx ++ [piece D ⟨xo, (m : Int), xa, (f : Int)⟩])) := Lib.hid (RowK.snoc (enc := encS) (l := tx) (piece D ⟨xo, (m : Int), xa, (f : Int)⟩) (by rw [HPC2.out]; rfl) rfl hown7); have HM7 : Hid (RowK 69 encM 4 (ob + 1) w7 (.slice oa5 (k + 1) c5) (ml ++ [⟨xa, (f : Int), (m : Int), T⟩])) := Lib.hid (RowK.other HR6.out hg7 HNE5.out); have HBX7 : Hid (w7.heap[ob]? = some (.cells #[.int .i64 c, .int .i64 q, .int .i64 13, .string ⟨#[]⟩, .string ⟨#[]⟩, .int .i64 0, .int .i64 0, .int .i64 0, .string ⟨#[]⟩, .int .i64 0, .int .i64 i, .slice oa5 (k + 1) c5] 34 (0, 0))) := Lib.hid ((hb7.block ob (Nat.lt_succ_self _)).trans HBX6.out); have HNE7 : Hid (∀ g, (Value.slice oa7 (tx.length + 1) c7).ownBlock = some g → (Value.slice oa5 (k + 1) c5).ownBlock ≠ some g) := Lib.hid (fun g hg hq => by rcases hw7 with e | e; (· exact HNE5.out g hq (e.symm.trans hg)); (· have h1 := e.symm.trans hg; injection h1 with h1; have h2 := (own_rng HOW5.out g hq).2; have h3 := HS6.out; omega)); have hxb7 : w7.heap[wr.heap.size]? = some (.cells #[.int .i64 xo, .int .i64 (m : Int), .int .i64 xa, .int .i64 (f : Int)] 64 (0, 0)) := (hg7.block wr.heap.size (by have := HS6.out; have := HB5.out.size; have := HSB.out; omega) (fun e => by have := (own_rng HRT.out _ e.symm).2; omega)).trans HXB6.out; have r1 := (new_cells hxb7 1 (by simp)).1; simp only [List.getElem_toArray, List.getElem_cons_zero, List.getElem_cons_succ] at r1; have HB7 := Lib.hid hb7; clear hown7 hb7 hg7 hw7 hxb7 p1 p2 p3)))
            have hwo : wo.heap.size ≤ ob := by have := HOB.out; omega
            exact ⟨⟨k + 1, oa5, c5, by omega, by simp, by rw [HTK.out, HMS.out], HBX7.out, by rw [HTK.out, HMS.out]; exact HM7.out, by rw [HTK.out, HTS.out]; exact HT7.out, HNE7.out, by rw [HTK.out]; exact HNB2.out,
              (((bstep HBEL.out HW0.out).trans (HB5.out.mono (by omega))).setCell (p := ⟨ob, 11, none⟩) hwo _).trans (HB7.out.mono (by omega))⟩, by simp [intOf]; omega⟩
        · obtain rfl : k = l.length := by omega
          have HNBA : Hid (∀ x ∈ l, badB x = false) := Lib.hid (by have := HNB.out; rwa [List.take_length] at this)
          rw [List.take_length] at HRM HRT
          have HTXL : Hid ((txF D l).length = l.length) := Lib.hid (by unfold txF; rw [List.length_map])
          have HML : Hid ((mvF l).1.length = l.length) := Lib.hid (mvF_len l)
          have HRMO : Hid (wr.ownsRow (ob + 1) 69 4 (.slice oa2 l.length c2) l.length ((mvF l).1.flatMap encM)) := Lib.hid (by have := HRM.out; unfold RowK at this; rw [HML.out] at this; exact this)
          obtain ⟨ot, ct, rfl, _⟩ := HRT.out.form
          have HEND := Lib.hid (build_end c q i H0.out HNA.out HNBA.out)
          have HJD := Lib.hid (join_dat D l)
          have HDS : Hid ((datF D l).size ≤ 180000) := Lib.hid (by
            have h1 := dat_size HD.out l
            have h2 : 3000 * l.length ≤ 3000 * 60 := Nat.mul_le_mul_left _ HL.out
            omega)
          have HFIT : Hid (Fit (recR c q i D l)) := Lib.hid ⟨by show (0 : Nat) ≤ _; omega, by show (0 : Nat) ≤ _; omega, by show (datF D l).size ≤ _; have := HDS.out; omega, by show (mvF l).1.length ≤ _; rw [HML.out]; have := HL.out; omega⟩
          have HGOOD : Hid (∀ W, Fl W → MvAt W oa2 (mvF l).1 → Calls Tryd.prog 22 #[.agg #[.int .i64 c, .int .i64 q, .int .i64 13, .string ⟨#[]⟩, .string ⟨#[]⟩, .int .i64 0, .int .i64 0, .int .i64 0, .string (datF D l), .int .i64 0, .int .i64 i, .slice oa2 l.length c2]] W (GoodPost (recR c q i D l) W)) := Lib.hid fun W h1 h2 => good_any (recR c q i D l) HFIT.out oa2 l.length c2 HML.out.symm W h1 h2
          have HPOSTM : Hid (∀ W, MvAt W oa2 (mvF l).1 → Below w.heap.size w W → BuildPost (recR c q i D l, 0) w (.returned (.tuple #[.agg #[.int .i64 c, .int .i64 q, .int .i64 13, .string ⟨#[]⟩, .string ⟨#[]⟩, .int .i64 0, .int .i64 0, .int .i64 0, .string (datF D l), .int .i64 0, .int .i64 i, .slice oa2 l.length c2], .int .i64 0])) W) := Lib.hid fun W h1 h2 => ⟨oa2, l.length, c2, rfl, HML.out.symm, (fun h => by have := (own_base HRMO.out).2 h; omega), h1, h2⟩
          have HMVR : Hid (MvAt wr oa2 (mvF l).1) := Lib.hid (mv_own HRMO.out HML.out.symm)
          have hlo : ob + 1 ≤ wr.heap.size := lt_of_block HBX.out
          have HLO := Lib.hid hlo
          have HROB : Hid (rb < ob) := Lib.hid (by have := HRB.out; have := HBW.out.size; have := HOB.out; have := lt_of_block HRES.out; omega)
          generalize datF D l = dat at *
          clear hlt hk
          cases hg : goodB (recR c q i D l) with
          | true =>
            have HG := Lib.hid hg
            have HE : Hid (buildR c q i D l = (recR c q i D l, 0)) := Lib.hid (by rw [HEND.out, hg]; rfl)
            clear hg
            go_wp2_with (first
              | ((with_reducible (refine wpList_store_rowTo rfl 34 (Operand.tmp 10) (Operand.tmp 138) rfl rfl rb #[.int .i64 c, .int .i64 q, .int .i64 13, .string ⟨#[]⟩, .string ⟨#[]⟩, .int .i64 0, .int .i64 0, .int .i64 0, .string dat, .int .i64 0, .int .i64 i, .slice oa2 l.length c2] ?_ ?_ 34 #[.int .i64 0, .int .i64 0, .int .i64 0, .string ⟨#[]⟩, .string ⟨#[]⟩, .int .i64 0, .int .i64 0, .int .i64 0, .string ⟨#[]⟩, .int .i64 0, .int .i64 0, .slice none 0 0] ?_ ?_ ?_ ?_ ?_)); (· rfl); (· rfl); (· exact HRES9.out); (· exact opSize); (· rfl); (· simp [Value.oneCell']))
              | (go_at_call 21; go_loud (refine (joined_any (B := ob + 1) ot _ ct (txF D l) dat HJD.out (by have := HDS.out; omega) rfl (by have := HTXL.out; have := HL.out; omega) _ HRT.out).mono ?_; rintro e w8 ⟨rfl, hb8⟩; have hbx8 : w8.heap[ob]? = some (.cells #[.int .i64 c, .int .i64 q, .int .i64 13, .string ⟨#[]⟩, .string ⟨#[]⟩, .int .i64 0, .int .i64 0, .int .i64 0, .string ⟨#[]⟩, .int .i64 0, .int .i64 i, .slice oa2 l.length c2] 34 (0, 0)) := (hb8.block ob hlo).trans HBX.out; have g8 := (new_cells hbx8 8 (by simp)).1; have f8 := Lib.frozen_of_heap hbx8 8; simp only [List.getElem_toArray, List.getElem_cons_zero, List.getElem_cons_succ] at g8; have hbx9 : (w8.setCell ⟨ob, 8, none⟩ (.string dat)).heap[ob]? = some (.cells #[.int .i64 c, .int .i64 q, .int .i64 13, .string ⟨#[]⟩, .string ⟨#[]⟩, .int .i64 0, .int .i64 0, .int .i64 0, .string dat, .int .i64 0, .int .i64 i, .slice oa2 l.length c2] 34 (0, 0)) := box_set hbx8 rfl; have HBX9 := Lib.hid hbx9; have HBW8 : Hid (Below w.heap.size w (w8.setCell ⟨ob, 8, none⟩ (.string dat))) := Lib.hid ((bstep HBW2.out hb8).setCell (p := ⟨ob, 8, none⟩) (by have := HBW.out.size; have := HOB.out; show w.heap.size ≤ ob; omega) _); have HMV8 : Hid (MvAt (w8.setCell ⟨ob, 8, none⟩ (.string dat)) oa2 (mvF l).1) := Lib.hid ((HMVR.out.grow hb8).only ((Only.refl ob w8).setCell 8 _) (fun a ha => by have := ((own_base HRMO.out).1 a ha).1; omega)); have HRES8 : Hid ((w8.setCell ⟨ob, 8, none⟩ (.string dat)).heap[rb]? = some (.cells #[.int .i64 0, .int .i64 0, .int .i64 0, .string ⟨#[]⟩, .string ⟨#[]⟩, .int .i64 0, .int .i64 0, .int .i64 0, .string ⟨#[]⟩, .int .i64 0, .int .i64 0, .slice none 0 0] 34 (0, 0))) := Lib.hid ((Below.heap_setCell w8 ⟨ob, 8, none⟩ _ rb (by have := HROB.out; show rb ≠ ob; omega)).trans ((hb8.block rb (by have := HROB.out; omega)).trans HRES2.out)); obtain ⟨y0, y1, y2, y3, y4, y5, y6, y7, y8, y9, y10, y11⟩ := cells12 hbx9; clear hb8 hbx8 hbx9))
              | (go_at_call 22; go_loud (refine (HGOOD.out _ (HF.out.keep HBW8.out) HMV8.out).mono ?_; rintro e w9 ⟨hge, hb9⟩; rw [HG.out] at hge; subst hge; have HB9 := Lib.hid hb9; have hbx9 : w9.heap[ob]? = some (.cells #[.int .i64 c, .int .i64 q, .int .i64 13, .string ⟨#[]⟩, .string ⟨#[]⟩, .int .i64 0, .int .i64 0, .int .i64 0, .string dat, .int .i64 0, .int .i64 i, .slice oa2 l.length c2] 34 (0, 0)) := (hb9.block ob (lt_of_block HBX9.out)).trans HBX9.out; have HRES9 : Hid (w9.heap[rb]? = some (.cells #[.int .i64 0, .int .i64 0, .int .i64 0, .string ⟨#[]⟩, .string ⟨#[]⟩, .int .i64 0, .int .i64 0, .int .i64 0, .string ⟨#[]⟩, .int .i64 0, .int .i64 0, .slice none 0 0] 34 (0, 0))) := Lib.hid ((hb9.block rb (lt_of_block HRES8.out)).trans HRES8.out); obtain ⟨z0, z1, z2, z3, z4, z5, z6, z7, z8, z9, z10, z11⟩ := cells12 hbx9; clear hb9 hbx9 y0 y1 y2 y3 y4 y5 y6 y7 y8 y9 y10 y11)))
            try simp only [Exit.inBlock, Exit.then]
            refine ret_row (p := 10) (u := 11) rfl rfl rfl (setRow_heap _ _ _ _ _ _ HRES9.out) Tryd.underlying34 rfl opSize ?_
            rw [HE.out]
            exact HPOSTM.out _ ((HMV8.out.grow HB9.out).only (setRow_only _ _ _) (fun a ha => by have := ((own_base HRMO.out).1 a ha).1; have := HROB.out; omega)) (below_setRow (bstep HBW8.out HB9.out) (by rw [HRB.out]; exact Nat.le_refl _) _)
          | false =>
            have HG := Lib.hid hg
            have HE : Hid (buildR c q i D l = (zeroR, 11)) := Lib.hid (by rw [HEND.out, hg]; rfl)
            clear hg
            go_wp2_with (first
              | ((with_reducible (refine wpList_store_rowTo rfl 34 (Operand.tmp 10) (Operand.tmp 137) rfl rfl rb #[.int .i64 0, .int .i64 0, .int .i64 0, .string ⟨#[]⟩, .string ⟨#[]⟩, .int .i64 0, .int .i64 0, .int .i64 0, .string ⟨#[]⟩, .int .i64 0, .int .i64 0, .slice none 0 0] ?_ ?_ 34 #[.int .i64 0, .int .i64 0, .int .i64 0, .string ⟨#[]⟩, .string ⟨#[]⟩, .int .i64 0, .int .i64 0, .int .i64 0, .string ⟨#[]⟩, .int .i64 0, .int .i64 0, .slice none 0 0] ?_ ?_ ?_ ?_ ?_)); (· rfl); (· rfl); (· exact HRES9.out); (· exact opSize); (· rfl); (· simp [Value.oneCell']))
              | (go_at_call 21; go_loud (refine (joined_any (B := ob + 1) ot _ ct (txF D l) dat HJD.out (by have := HDS.out; omega) rfl (by have := HTXL.out; have := HL.out; omega) _ HRT.out).mono ?_; rintro e w8 ⟨rfl, hb8⟩; have hbx8 : w8.heap[ob]? = some (.cells #[.int .i64 c, .int .i64 q, .int .i64 13, .string ⟨#[]⟩, .string ⟨#[]⟩, .int .i64 0, .int .i64 0, .int .i64 0, .string ⟨#[]⟩, .int .i64 0, .int .i64 i, .slice oa2 l.length c2] 34 (0, 0)) := (hb8.block ob hlo).trans HBX.out; have g8 := (new_cells hbx8 8 (by simp)).1; have f8 := Lib.frozen_of_heap hbx8 8; simp only [List.getElem_toArray, List.getElem_cons_zero, List.getElem_cons_succ] at g8; have hbx9 : (w8.setCell ⟨ob, 8, none⟩ (.string dat)).heap[ob]? = some (.cells #[.int .i64 c, .int .i64 q, .int .i64 13, .string ⟨#[]⟩, .string ⟨#[]⟩, .int .i64 0, .int .i64 0, .int .i64 0, .string dat, .int .i64 0, .int .i64 i, .slice oa2 l.length c2] 34 (0, 0)) := box_set hbx8 rfl; have HBX9 := Lib.hid hbx9; have HBW8 : Hid (Below w.heap.size w (w8.setCell ⟨ob, 8, none⟩ (.string dat))) := Lib.hid ((bstep HBW2.out hb8).setCell (p := ⟨ob, 8, none⟩) (by have := HBW.out.size; have := HOB.out; show w.heap.size ≤ ob; omega) _); have HMV8 : Hid (MvAt (w8.setCell ⟨ob, 8, none⟩ (.string dat)) oa2 (mvF l).1) := Lib.hid ((HMVR.out.grow hb8).only ((Only.refl ob w8).setCell 8 _) (fun a ha => by have := ((own_base HRMO.out).1 a ha).1; omega)); have HRES8 : Hid ((w8.setCell ⟨ob, 8, none⟩ (.string dat)).heap[rb]? = some (.cells #[.int .i64 0, .int .i64 0, .int .i64 0, .string ⟨#[]⟩, .string ⟨#[]⟩, .int .i64 0, .int .i64 0, .int .i64 0, .string ⟨#[]⟩, .int .i64 0, .int .i64 0, .slice none 0 0] 34 (0, 0))) := Lib.hid ((Below.heap_setCell w8 ⟨ob, 8, none⟩ _ rb (by have := HROB.out; show rb ≠ ob; omega)).trans ((hb8.block rb (by have := HROB.out; omega)).trans HRES2.out)); obtain ⟨y0, y1, y2, y3, y4, y5, y6, y7, y8, y9, y10, y11⟩ := cells12 hbx9; clear hb8 hbx8 hbx9))
              | (go_at_call 22; go_loud (refine (HGOOD.out _ (HF.out.keep HBW8.out) HMV8.out).mono ?_; rintro e w9 ⟨hge, hb9⟩; rw [HG.out] at hge; subst hge; have HB9 := Lib.hid hb9; have hbx9 : w9.heap[ob]? = some (.cells #[.int .i64 c, .int .i64 q, .int .i64 13, .string ⟨#[]⟩, .string ⟨#[]⟩, .int .i64 0, .int .i64 0, .int .i64 0, .string dat, .int .i64 0, .int .i64 i, .slice oa2 l.length c2] 34 (0, 0)) := (hb9.block ob (lt_of_block HBX9.out)).trans HBX9.out; have HRES9 : Hid (w9.heap[rb]? = some (.cells #[.int .i64 0, .int .i64 0, .int .i64 0, .string ⟨#[]⟩, .string ⟨#[]⟩, .int .i64 0, .int .i64 0, .int .i64 0, .string ⟨#[]⟩, .int .i64 0, .int .i64 0, .slice none 0 0] 34 (0, 0))) := Lib.hid ((hb9.block rb (lt_of_block HRES8.out)).trans HRES8.out); obtain ⟨z0, z1, z2, z3, z4, z5, z6, z7, z8, z9, z10, z11⟩ := cells12 hbx9; clear hb9 hbx9 y0 y1 y2 y3 y4 y5 y6 y7 y8 y9 y10 y11)))
            try simp only [Exit.inBlock, Exit.then]
            refine ret_row (p := 10) (u := 11) rfl rfl rfl (setRow_heap _ _ _ _ _ _ HRES9.out) Tryd.underlying34 rfl opSize ?_
            rw [HE.out]
            exact build_zero 11 _ _ (below_setRow (bstep HBW8.out HB9.out) (by rw [HRB.out]; exact Nat.le_refl _) _)
end Go.Proofs.YthnkpoagpjnopaaDoor.MovW
