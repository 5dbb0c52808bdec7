/- Lists of inodes in memory: what is read; copies. -/
import Derived.Test.YtappgelpigoknaaInbTrunc
import Derived.Test.YtappgelpigoknaaRowAt
import Derived.Test.YtappgelpigoknaaDraw
import Derived.Test.YtappgelpigoknaaAppDraw
namespace Go.Proofs.Ytappgelpigoknaa.InoW
set_option maxRecDepth 100000
open Go.RowKit InoP ExtW
def encI (y : IV) : List Value := [.int .i64 y.i, .int .i64 y.k, .int .i64 y.l, .int .i64 y.o, .int .i64 y.s, .slice y.oa y.n y.c]
theorem encI_len (y : IV) : (encI y).length = 6 := rfl
theorem encI_one (y : IV) : ∀ v ∈ encI y, v.oneCell' = true := by
  intro v hv; simp [encI] at hv; rcases hv with rfl | rfl | rfl | rfl | rfl | rfl <;> rfl
/-- what is read is the inode -/
structure IRead (w : World) (x : Ino) (y : IV) : Prop where
  i : y.i = x.i
  k : y.k = x.k
  l : y.l = x.l
  o : y.o = x.o
  s : y.s = x.s
  n : y.n = x.p.length
  pts : PtsAt w.heap.size y.oa x.p w
  nil : y.oa = none → y.n = 0 ∧ y.c = 0
theorem IRead.grow {w w' : World} {x : Ino} {y : IV} (h : IRead w x y) (k : Below w.heap.size w w') : IRead w' x y := { h with pts := h.pts.grow k }
theorem IRel.read {w : World} {tb b : Nat} {x : Ino} {y : IV} (h : IRel w tb b x y) : IRead w x y := ⟨h.i, h.k, h.l, h.o, h.s, h.n, h.pts, h.nil⟩
/-- each is read so -/
def IReads (w : World) (xs : List Ino) (ys : List IV) : Prop := ys.length = xs.length ∧ ∀ (i : Nat) (x : Ino) (y : IV), xs[i]? = some x → ys[i]? = some y → IRead w x y
theorem IReads.grow {w w' : World} {xs : List Ino} {ys : List IV} (h : IReads w xs ys) (k : Below w.heap.size w w') : IReads w' xs ys := ⟨h.1, fun i x y hx hy => (h.2 i x y hx hy).grow k⟩
theorem IReads.nil (w : World) : IReads w [] [] := ⟨rfl, fun i x y h => by simp at h⟩
theorem IReads.snoc {w : World} {xs : List Ino} {ys : List IV} (h : IReads w xs ys) {x : Ino} {y : IV} (hr : IRead w x y) : IReads w (xs ++ [x]) (ys ++ [y]) := by
  refine ⟨by simp [h.1], fun i a b ha hb => ?_⟩
  by_cases hi : i < xs.length
  · rw [List.getElem?_append_left hi] at ha
    rw [List.getElem?_append_left (by rw [h.1]; exact hi)] at hb
    exact h.2 i a b ha hb
  · have hi2 : i = xs.length := by have := (List.getElem?_eq_some_iff.1 ha).1; simp at this; omega
    subst hi2
    have e1 : x = a := by simpa using ha
    have e2 : y = b := by rw [← h.1] at hb; simpa using hb
    rw [← e1, ← e2]; exact hr
/-- a list that came in, or was made -/
structure IList (w : World) (oa : Option Addr) (xs : List Ino) (ys : List IV) : Prop where
  at_ : KAt encI 6 w.heap.size oa ys w
  read : IReads w xs ys
theorem IList.grow {w w' : World} {oa : Option Addr} {xs : List Ino} {ys : List IV} (h : IList w oa xs ys) (k : Below w.heap.size w w') : IList w' oa xs ys := ⟨h.at_.grow k, h.read.grow k⟩
theorem iv_at {B : Nat} {oa : Option Addr} {ys : List IV} {w : World} (h : KAt encI 6 B oa ys w) {i : Nat} {y : IV} (hy : ys[i]? = some y) :
    ∃ a, oa = some a ∧ a.block < B ∧ w.cell? (a.add (i * 6)) = some (.int .i64 y.i) ∧ w.cell? ⟨(a.add (i * 6)).block, (a.add (i * 6)).off + 1, none⟩ = some (.int .i64 y.k) ∧ w.cell? ⟨(a.add (i * 6)).block, (a.add (i * 6)).off + 2, none⟩ = some (.int .i64 y.l) ∧
      w.cell? ⟨(a.add (i * 6)).block, (a.add (i * 6)).off + 3, none⟩ = some (.int .i64 y.o) ∧ w.cell? ⟨(a.add (i * 6)).block, (a.add (i * 6)).off + 4, none⟩ = some (.int .i64 y.s) ∧ w.cell? ⟨(a.add (i * 6)).block, (a.add (i * 6)).off + 5, none⟩ = some (.slice y.oa y.n y.c) := by
  obtain ⟨a, h1, h2, h3⟩ := h i y hy
  exact ⟨a, h1, h2, h3 0 _ rfl, h3 1 _ rfl, h3 2 _ rfl, h3 3 _ rfl, h3 4 _ rfl, h3 5 _ rfl⟩
theorem ino_info : (Try.prog.info? 62).map (fun i => (i.zero, i.size, i.bytes)) = some (some (.agg #[.int .i64 0, .int .i64 0, .int .i64 0, .int .i64 0, .int .i64 0, .slice none 0 0]), 6, 64) := by kernel_rfl
theorem take_snocI {α : Type} {l : List α} {k : Nat} {x : α} (h : l[k]? = some x) : l.take (k + 1) = l.take k ++ [x] := by
  rw [List.take_add_one, h]; rfl
/-- a row of the call's own, when another block is set -/
theorem row_setI {α : Type} {enc : α → List Value} {k B c i : Nat} {T : TypeId} {w : World} {v : Value} {l : List α} (h : RowK T enc k B w v l) (hc : v.ownBlock ≠ some c) (u : Value) : RowK T enc k B (w.setCell ⟨c, i, none⟩ u) v l :=
  ((Only.refl c w).setCell i u).keepRow h hc
theorem row_farI {α : Type} {enc : α → List Value} {k B : Nat} {T : TypeId} {w : World} {v : Value} {l : List α} (h : RowK T enc k B w v l) {c : Nat} (hc : w.heap.size ≤ c) : v.ownBlock ≠ some c := fun e => by
  have := World.ownsRow.lt h c e; omega
theorem alloc_size (w : World) (o : Obj) : (w.alloc o).heap.size = w.heap.size + 1 := by simp
theorem wpList_append_newH {P : Program} {ops : Array Oper} {rest : List Oper} {o : Oper} {a : Act} {Q : Exit → Act → World → Prop} (hgd : o.guard = none) (s x : Operand) (t : TypeId)
    (ho : o.op = .call { callee := .builtin .append, args := #[s, x], argTypes := #[t, t] })
    (base : Nat) (e : TypeId) (i : TypeInfo) (z : Value) (size bytes : Nat) (ht : P.underlying t = some (.slice e)) (hi : P.info? e = some i) (hz : i.zero = some z)
    (hsize : i.size = size) (hby : i.bytes = bytes) (hzs : z.cells.size = size) (hsz : 0 < size)
    {W : World} (v : Value) (n : Nat) (xs : List Value) (hs : a.eval s = v) (hown : W.ownsRow base e size v n xs)
    {cs : Array Value} {T : TypeId} (b m c : Nat) (hx : a.eval x = .slice (some ⟨b, 0, none⟩) m c) (hl : cs.size = m * size) (h1 : ∀ u ∈ cs.toList, u.oneCell' = true)
    (h63 : n + m ≤ maxLen) (hbytes : (n + m) * bytes ≤ 140737488355328) (hbase : base ≤ W.heap.size) (hb : W.heap.size = b)
    (h : ∀ oa cap w', w'.ownsRow base e size (.slice oa (n + m) cap) (n + m) (xs ++ cs.toList) → Below base W w' → W.grownBy w' v.ownBlock → ((Value.slice oa (n + m) cap).ownBlock = v.ownBlock ∨ (Value.slice oa (n + m) cap).ownBlock = some (W.heap.size + 1)) → wpList P ops Q rest (a.put o.dst (.slice oa (n + m) cap)) w') :
    wpList P ops Q (o :: rest) a (W.alloc (.cells cs T)) := by
  subst hb
  have hown' : (W.alloc (.cells cs T)).ownsRow base e size v n xs := hown.alloc _
  refine wpList_append_own_at (W.alloc (.cells cs T)) hgd s x t ho base e i z size bytes ht hi hz hsize hby hzs hsz v n xs hs hown' ⟨W.heap.size, 0, none⟩ m c cs.toList hx (by simpa using hl) (World.news_of_block (heap_alloc_new W _)) h1 h63 hbytes (by simp; omega) ?_
  intro v' w' h2 h3 _ h5
  have h4 : W.grownBy w' v.ownBlock := grown_from_alloc h3
  obtain ⟨oa, cap, rfl⟩ := row_form h2
  exact h oa cap w' h2 (below_of_grown h4 hown hbase) h4 (by simpa using h5)
/-- a list of the call's own -/
structure RowI (T : TypeId) (B : Nat) (w : World) (v : Value) (xs : List Ino) (zs : List IV) : Prop where
  row : RowK T encI 6 B w v zs
  read : IReads w xs zs
  far : ∀ (i : Nat) (x : Ino) (z : IV), xs[i]? = some x → zs[i]? = some z → x.p ≠ [] → ∀ a, z.oa = some a → v.ownBlock ≠ some a.block
theorem RowI.nil (T : TypeId) (B : Nat) (w : World) : RowI T B w (.slice none 0 0) [] [] := ⟨RowK.nil _ _, IReads.nil _, fun i x z h => by simp at h⟩
theorem RowI.grow {T : TypeId} {B : Nat} {w w' : World} {v : Value} {xs : List Ino} {zs : List IV} (h : RowI T B w v xs zs) (k : Below w.heap.size w w') : RowI T B w' v xs zs := ⟨h.row.grow k, h.read.grow k, h.far⟩
theorem RowI.list {T : TypeId} {B n cap : Nat} {w : World} {oa : Option Addr} {xs : List Ino} {zs : List IV} (h : RowI T B w (.slice oa n cap) xs zs) : IList w oa xs zs := ⟨RowK.pts encI_len (by omega) h.row, h.read⟩
theorem pts_grown {oa : Option Addr} {l : List Pt} {w w' : World} {r : Option Nat} (h : PtsAt w.heap.size oa l w) (hg : w.grownBy w' r) (hne : l ≠ [] → ∀ a, oa = some a → r ≠ some a.block) : PtsAt w'.heap.size oa l w' := by
  intro i x hx
  have hl : l ≠ [] := fun e => by rw [e] at hx; simp at hx
  obtain ⟨a, h1, h2, d0, d1, d2, d3⟩ := h i x hx
  have hb : w'.heap[a.block]? = w.heap[a.block]? := hg.block _ h2 (fun e => hne hl a h1 e.symm)
  have hc : ∀ q : Addr, q.block = a.block → w'.cell? q = w.cell? q := fun q hq => by unfold World.cell?; rw [hq, hb]
  exact ⟨a, h1, Nat.lt_of_lt_of_le h2 hg.size, (hc (a.add (i * 4)) (add_block _ _)).trans d0, (hc ⟨(a.add (i * 4)).block, (a.add (i * 4)).off + 1, none⟩ (add_block _ _)).trans d1,
    (hc ⟨(a.add (i * 4)).block, (a.add (i * 4)).off + 2, none⟩ (add_block _ _)).trans d2, (hc ⟨(a.add (i * 4)).block, (a.add (i * 4)).off + 3, none⟩ (add_block _ _)).trans d3⟩
theorem IRead.lt {w : World} {x : Ino} {z : IV} (h : IRead w x z) (hp : x.p ≠ []) : ∀ a, z.oa = some a → a.block < w.heap.size := fun a ha => by
  obtain ⟨y, l, hy⟩ : ∃ y l, x.p = y :: l := by
    cases hq : x.p with
    | nil => exact absurd hq hp
    | cons y l => exact ⟨y, l, rfl⟩
  obtain ⟨a', h1, h2, _⟩ := h.pts 0 y (by rw [hy]; rfl)
  rw [ha] at h1; injection h1 with h1
  rw [h1]; exact h2
/-- one more: its parts lie behind all that was there when the row stood in wr -/
theorem RowI.snoc {T : TypeId} {B n cz cap5 : Nat} {wr W6 w5 : World} {oz oa5 : Option Addr} {xs : List Ino} {zs : List IV} {x : Ino} {y : IV} {cs : Array Value} (h : RowI T B wr (.slice oz n cz) xs zs) (hz : zs.length = n) (hb : Below wr.heap.size wr W6)
    (hy : IRead W6 x y) (hyb : x.p ≠ [] → ∀ a, y.oa = some a → wr.heap.size ≤ a.block) (hcs : cs.toList = encI y) (ho : w5.ownsRow B T 6 (.slice oa5 (n + 1) cap5) (n + 1) (zs.flatMap encI ++ cs.toList))
    (hg : W6.grownBy w5 (Value.slice oz n cz).ownBlock) (hv : (Value.slice oa5 (n + 1) cap5).ownBlock = (Value.slice oz n cz).ownBlock ∨ (Value.slice oa5 (n + 1) cap5).ownBlock = some (W6.heap.size + 1)) :
    RowI T B w5 (.slice oa5 (n + 1) cap5) (xs ++ [x]) (zs ++ [y]) := by
  have hold : ∀ g, (Value.slice oz n cz).ownBlock = some g → g < wr.heap.size := fun g e => (World.ownsRow.lt h.row g e).2
  have hyf : x.p ≠ [] → ∀ a, y.oa = some a → (Value.slice oz n cz).ownBlock ≠ some a.block := fun hp a ha e => by
    have := hold _ e; have := hyb hp a ha; omega
  have hr : IReads w5 xs zs := ⟨h.read.1, fun i a z ha hz' => by
    have q := (h.read.2 i a z ha hz').grow hb
    exact { q with pts := pts_grown q.pts hg (h.far i a z ha hz') }⟩
  refine ⟨RowK.snoc y hcs hz.symm ho, hr.snoc { hy with pts := pts_grown hy.pts hg hyf }, fun i a z ha hz' hp ad had => ?_⟩
  by_cases hi : i < xs.length
  · rw [List.getElem?_append_left hi] at ha
    rw [List.getElem?_append_left (by rw [h.read.1]; exact hi)] at hz'
    rcases hv with e | e
    · rw [e]; exact h.far i a z ha hz' hp ad had
    · rw [e]
      intro e2
      injection e2 with e2
      have := ((h.read.2 i a z ha hz').grow hb).lt hp ad had
      omega
  · have hi2 : i = xs.length := by have := (List.getElem?_eq_some_iff.1 ha).1; simp at this; omega
    subst hi2
    have e1 : x = a := by simpa using ha
    have e2 : y = z := by rw [← h.read.1] at hz'; simpa using hz'
    rw [← e1] at hp; rw [← e2] at had
    rcases hv with e | e
    · rw [e]; exact hyf hp ad had
    · rw [e]
      intro e3
      injection e3 with e3
      have := hy.lt hp ad had
      omega
theorem own_after {T : TypeId} {B k cz : Nat} {oz : Option Addr} {wr w2 : World} {zs : List IV} (h : RowK T encI 6 B wr (.slice oz k cz) zs) (hz : zs.length = k) (hb : Below wr.heap.size wr w2) (u : Value) :
    (w2.setCell ⟨wr.heap.size, 5, none⟩ u).ownsRow B T 6 (.slice oz k cz) k (zs.flatMap encI) := by
  have q := row_setI (i := 5) (h.grow hb) (row_farI h (Nat.le_refl _)) u
  unfold RowK at q
  rwa [hz] at q
theorem set_after {wr w2 : World} (hb : Below wr.heap.size wr w2) (u : Value) : Below wr.heap.size wr (w2.setCell ⟨wr.heap.size, 5, none⟩ u) := hb.setCell (p := ⟨wr.heap.size, 5, none⟩) (Nat.le_refl _) u
set_option maxHeartbeats 3200000 in
theorem copied_any (oa : Option Addr) (cap : Nat) (xs : List Ino) (ys : List IV) (hp : ∀ x ∈ xs, x.p.length ≤ 100000) (hl : xs.length ≤ 100000) (W : World) (h : IList W oa xs ys) :
    Calls Try.prog 21 #[.slice oa xs.length cap] W fun e w' => ∃ oa' cap' zs, e = .returned (.slice oa' xs.length cap') ∧ RowI 62 W.heap.size w' (.slice oa' xs.length cap') xs zs ∧ Below W.heap.size W w' := by
  obtain ⟨i0, hi, hz0, hz1, hz2⟩ := info_parts ino_info
  obtain ⟨j0, hj, gz0, gz1, gz2⟩ := info_parts partinfo
  have H := Lib.hid h
  have HPL := Lib.hid hp
  have hlen := h.read.1
  clear h hp
  go_enter Try.func21, Try.ntmps21
  go_wp2_with fail
  go_loopw [3, 4] (fun v i wr => ∃ (k : Nat) (zs : List IV), k ≤ xs.length ∧ i = .int .i64 (k : Int) ∧ RowI 62 W.heap.size wr v (xs.take k) zs ∧ Below W.heap.size W wr) (fun _ i _ => (xs.length - intOf i).toNat)
  case atStart => exact ⟨0, [], by omega, rfl, RowI.nil _ _ _, Below.refl _ _⟩
  case round =>
    obtain ⟨k, zs, hk, rfl, hrow, hbel⟩ := hrel
    have HB := Lib.hid hbel
    have HZ : Hid (zs.length = k) := Lib.hid (by rw [hrow.read.1, List.length_take]; omega)
    obtain ⟨oz, cz, rfl, hcz, _, _⟩ := hrow.row.form
    have hzk := HZ.out
    rw [hzk] at hrow hcz ⊢
    have HRI := Lib.hid hrow
    have HROW := Lib.hid hrow.row
    clear hbel hrow hzk
    by_cases hlt : k < xs.length
    · obtain ⟨x, hx⟩ : ∃ x, xs[k]? = some x := ⟨_, List.getElem?_eq_getElem hlt⟩
      obtain ⟨y, hy⟩ : ∃ y, ys[k]? = some y := ⟨_, List.getElem?_eq_getElem (by omega)⟩
      obtain ⟨yi, yk, yl, yo, ys', ya, yn, yc⟩ := y
      have HH := Lib.hid (H.out.grow HB.out)
      have hr := HH.out.read.2 k x _ hx hy
      obtain ⟨a, rfl, _, c0, c1, c2, c3, c4, c5⟩ := iv_at HH.out.at_ hy
      simp only at c0 c1 c2 c3 c4 c5
      obtain rfl : yn = x.p.length := hr.n
      have HR := Lib.hid hr
      have HPX : Hid (x.p.length ≤ 100000) := Lib.hid (HPL.out x (List.mem_of_getElem? hx))
      have HTX := Lib.hid (take_snocI hx)
      have HPB : Hid (PtsAt (wr.alloc (.cells #[.int .i64 yi, .int .i64 yk, .int .i64 yl, .int .i64 yo, .int .i64 ys', .slice ya x.p.length yc] 62)).heap.size ya x.p (wr.alloc (.cells #[.int .i64 yi, .int .i64 yk, .int .i64 yl, .int .i64 yo, .int .i64 ys', .slice ya x.p.length yc] 62))) := Lib.hid (hr.pts.grow (below_alloc wr _))
      clear hx hy hr
      go_wp2_with (first
        | (have hz := HR2.out; clear hz; at_builtin; go_loud (refine wpList_append_newH rfl _ _ 53 rfl W.heap.size 62 i0 (.agg #[.int .i64 0, .int .i64 0, .int .i64 0, .int .i64 0, .int .i64 0, .slice none 0 0]) 6 64 Try.underlying53 hi hz0 hz1 hz2 rfl (by decide) _ _ _ (by rfl) HOWN6.out _ 1 1 (by rfl) rfl (encI_one ⟨yi, yk, yl, yo, ys', oa2, x.p.length, cap2⟩) (by unfold maxLen; omega) (by omega) (by have := HB.out.size; have := HB6.out.size; omega) (by simp) ?_; intro oa5 cap5 w5 hown5 hbel5 hg5 hv5; have HV5 := Lib.hid hv5; have HS5 := Lib.hid hown5; have HB5 := Lib.hid hbel5; have HG5 := Lib.hid hg5; clear hown5 hbel5 hg5 hv5))
        | (at_builtin; go_loud (refine wpList_append_copy rfl _ _ 37 rfl 40 j0 (.agg #[.int .i64 0, .int .i64 0, .int .i64 0, .int .i64 0]) 4 32 Try.underlying37 hj gz0 gz1 gz2 rfl (by decide) (by rw [alloc_size]; rfl) ya x.p.length yc (cellsOf x.p) (by rfl) HR.out.nil (cells_len x.p) (pts_news HPB.out) (cells_onecell x.p) (by have := HPX.out; unfold maxLen; omega) (by have := HPX.out; omega) ?_; intro oa2 cap2 w2 hown2 hb2; have HR2 := Lib.hid hown2; have HB2 := Lib.hid hb2; have hbx : IBox w2 wr.heap.size ⟨yi, yk, yl, yo, ys', ya, x.p.length, yc⟩ := new_kept hb2; obtain ⟨b0, b1, b2, b3, b4, b5⟩ := hbx.cells; have f5 := Lib.frozen_of_heap hbx 5; have HOWN6 := Lib.hid (own_after HROW.out HZ.out (bstep (below_alloc wr _) hb2) (.slice oa2 x.p.length cap2)); have HB6 := Lib.hid (set_after (bstep (below_alloc wr (.cells #[.int .i64 yi, .int .i64 yk, .int .i64 yl, .int .i64 yo, .int .i64 ys', .slice ya x.p.length yc] 62)) hb2) (.slice oa2 x.p.length cap2)); clear c0 c1 c2 c3 c4 c5 hown2 hb2 hbx)))
      have hr6 : Row (wr.alloc (.cells #[.int .i64 yi, .int .i64 yk, .int .i64 yl, .int .i64 yo, .int .i64 ys', .slice ya x.p.length yc] 62)).heap.size (w2.setCell ⟨wr.heap.size, 5, none⟩ (.slice oa2 x.p.length cap2)) (.slice oa2 x.p.length cap2) x.p :=
        ((Only.refl wr.heap.size w2).setCell 5 _).keepRow HR2.out (fun e => by
          have hq := (row_base HR2.out).1
          cases oa2 with
          | none => simp [Value.ownBlock] at e
          | some ad => have := (hq ad rfl).1; simp [Value.ownBlock] at e; simp at this; omega)
      have hr0 := HR.out
      have hyr : IRead (w2.setCell ⟨wr.heap.size, 5, none⟩ (.slice oa2 x.p.length cap2)) x ⟨yi, yk, yl, yo, ys', oa2, x.p.length, cap2⟩ := ⟨hr0.i, hr0.k, hr0.l, hr0.o, hr0.s, rfl, hr6.pts, (row_base hr6).2.2⟩
      have hfin := HRI.out.snoc HZ.out HB6.out hyr (fun _ a ha => by have := ((row_base hr6).1 a ha).1; simp at this; omega) rfl HS5.out HG5.out HV5.out
      rw [← HTX.out] at hfin
      exact ⟨⟨k + 1, _, by omega, by simp, hfin, HB.out.trans ((HB6.out.mono HB.out.size).trans HB5.out)⟩, by simp [intOf]; omega⟩
    · obtain rfl : k = xs.length := by omega
      rw [List.take_length] at HRI
      go_wp2_with fail
      go_ret
      exact ⟨oz, cz, zs, rfl, HRI.out, HB.out⟩
end Go.Proofs.Ytappgelpigoknaa.InoW
