/- op.kept: a record of the fields that its kind names alone. -/
import Derived.Test.YthnkpoagpjnopaaDoorOpOnly
namespace Go.Proofs.YthnkpoagpjnopaaDoor.OpW
set_option maxRecDepth 100000
open Go.RowKit OpP
def fieldsOf (k : Int) : ByteArray :=
  if k == 4 || k == 6 then ⟨#[112, 116]⟩ else if k == 7 then ⟨#[112, 115]⟩ else if hasP k then ⟨#[112]⟩ else if k == 9 then ⟨#[104]⟩ else if k == 10 then ⟨#[104, 111, 100]⟩
  else if k == 11 || k == 12 then ⟨#[107]⟩ else if k == 13 then ⟨#[105, 109, 100]⟩ else if k == 14 then ⟨#[100, 115, 111]⟩ else ⟨#[]⟩
/-- the program's table of fields, in memory -/
def Fl (w : World) : Prop := ∀ k : Nat, 1 ≤ k → k ≤ 14 → w.cell? ⟨0, k, none⟩ = some (.string (fieldsOf k))
theorem Fl.keep {w w' : World} (h : Fl w) (k : Below w.heap.size w w') : Fl w' := fun j h1 h2 => by
  rw [← h j h1 h2]
  exact k.cell (World.block_lt_of_cell? _ _ (h j h1 h2))
def keepF (c : UInt8) (r o : Rec) : Rec :=
  if c = 112 then { o with p := r.p } else if c = 116 then { o with t := r.t } else if c = 115 then { o with sz := r.sz } else if c = 104 then { o with h := r.h } else if c = 111 then { o with o := r.o }
  else if c = 100 then { o with d := r.d } else if c = 107 then { o with tk := r.tk } else if c = 105 then { o with i := r.i } else if c = 109 then { o with m := r.m } else o
def keptL (l : List UInt8) (r : Rec) : Rec := l.foldl (fun o c => keepF c r o) ⟨r.cl, r.sq, r.k, ⟨#[]⟩, ⟨#[]⟩, 0, 0, 0, ⟨#[]⟩, 0, 0, []⟩
theorem keptL_snoc (l : List UInt8) (c : UInt8) (r : Rec) : keptL (l ++ [c]) r = keepF c r (keptL l r) := by unfold keptL; rw [List.foldl_append]; rfl
theorem kept_only (r : Rec) (h : 1 ≤ r.k ∧ r.k ≤ 14) : keptL (fieldsOf r.k).data.toList r = only r := by
  rcases kinds r.k h with e | e | e | e | e | e | e | e | e | e | e | e | e | e
  · rw [only_is1 r e, e, show (fieldsOf 1).data.toList = [112] from by decide]; simp [keptL, keepF, e]
  · rw [only_is2 r e, e, show (fieldsOf 2).data.toList = [112] from by decide]; simp [keptL, keepF, e]
  · rw [only_is3 r e, e, show (fieldsOf 3).data.toList = [112] from by decide]; simp [keptL, keepF, e]
  · rw [only_is4 r e, e, show (fieldsOf 4).data.toList = [112, 116] from by decide]; simp [keptL, keepF, e]
  · rw [only_is5 r e, e, show (fieldsOf 5).data.toList = [112] from by decide]; simp [keptL, keepF, e]
  · rw [only_is6 r e, e, show (fieldsOf 6).data.toList = [112, 116] from by decide]; simp [keptL, keepF, e]
  · rw [only_is7 r e, e, show (fieldsOf 7).data.toList = [112, 115] from by decide]; simp [keptL, keepF, e]
  · rw [only_is8 r e, e, show (fieldsOf 8).data.toList = [112] from by decide]; simp [keptL, keepF, e]
  · rw [only_is9 r e, e, show (fieldsOf 9).data.toList = [104] from by decide]; simp [keptL, keepF, e]
  · rw [only_is10 r e, e, show (fieldsOf 10).data.toList = [104, 111, 100] from by decide]; simp [keptL, keepF, e]
  · rw [only_is11 r e, e, show (fieldsOf 11).data.toList = [107] from by decide]; simp [keptL, keepF, e]
  · rw [only_is12 r e, e, show (fieldsOf 12).data.toList = [107] from by decide]; simp [keptL, keepF, e]
  · rw [only_is13 r e, e, show (fieldsOf 13).data.toList = [105, 109, 100] from by decide]; simp [keptL, keepF, e]
  · rw [only_is14 r e, e, show (fieldsOf 14).data.toList = [100, 115, 111] from by decide]; simp [keptL, keepF, e]
def IsF (c : UInt8) : Prop := c = 112 ∨ c = 116 ∨ c = 115 ∨ c = 104 ∨ c = 111 ∨ c = 100 ∨ c = 107 ∨ c = 105 ∨ c = 109
theorem isF_list (l : List UInt8) (h : (l.all fun c => c == 112 || c == 116 || c == 115 || c == 104 || c == 111 || c == 100 || c == 107 || c == 105 || c == 109) = true) : ∀ c ∈ l, IsF c := by
  intro c hc
  have := List.all_eq_true.1 h c hc
  simpa [IsF, or_assoc] using this
theorem fields_isF (k : Int) (h : 1 ≤ k ∧ k ≤ 14) : ∀ c ∈ (fieldsOf k).data.toList, IsF c := by
  apply isF_list
  rcases kinds k h with e | e | e | e | e | e | e | e | e | e | e | e | e | e <;> (rw [e]; decide)
theorem fields_size (k : Int) (h : 1 ≤ k ∧ k ≤ 14) : (fieldsOf k).size ≤ 3 := by
  rcases kinds k h with e | e | e | e | e | e | e | e | e | e | e | e | e | e <;> (rw [e]; decide)
theorem keepF_112 (r o : Rec) : keepF 112 r o = { o with p := r.p } := by unfold keepF; rw [if_pos rfl]
theorem keepF_116 (r o : Rec) : keepF 116 r o = { o with t := r.t } := by unfold keepF; rw [if_neg (by decide), if_pos rfl]
theorem keepF_115 (r o : Rec) : keepF 115 r o = { o with sz := r.sz } := by unfold keepF; rw [if_neg (by decide), if_neg (by decide), if_pos rfl]
theorem keepF_104 (r o : Rec) : keepF 104 r o = { o with h := r.h } := by unfold keepF; rw [if_neg (by decide), if_neg (by decide), if_neg (by decide), if_pos rfl]
theorem keepF_111 (r o : Rec) : keepF 111 r o = { o with o := r.o } := by unfold keepF; rw [if_neg (by decide), if_neg (by decide), if_neg (by decide), if_neg (by decide), if_pos rfl]
theorem keepF_100 (r o : Rec) : keepF 100 r o = { o with d := r.d } := by unfold keepF; rw [if_neg (by decide), if_neg (by decide), if_neg (by decide), if_neg (by decide), if_neg (by decide), if_pos rfl]
theorem keepF_107 (r o : Rec) : keepF 107 r o = { o with tk := r.tk } := by unfold keepF; rw [if_neg (by decide), if_neg (by decide), if_neg (by decide), if_neg (by decide), if_neg (by decide), if_neg (by decide), if_pos rfl]
theorem keepF_105 (r o : Rec) : keepF 105 r o = { o with i := r.i } := by unfold keepF; rw [if_neg (by decide), if_neg (by decide), if_neg (by decide), if_neg (by decide), if_neg (by decide), if_neg (by decide), if_neg (by decide), if_pos rfl]
theorem keepF_109 (r o : Rec) : keepF 109 r o = { o with m := r.m } := by unfold keepF; rw [if_neg (by decide), if_neg (by decide), if_neg (by decide), if_neg (by decide), if_neg (by decide), if_neg (by decide), if_neg (by decide), if_neg (by decide), if_pos rfl]
/-- the slice of the moves that are kept -/
def keptV (l : List UInt8) (v : Value) : Value := if (109 : UInt8) ∈ l then v else .slice none 0 0
theorem keptV_no {l : List UInt8} {c : UInt8} {v : Value} (h : c ≠ 109) : keptV (l ++ [c]) v = keptV l v := by
  unfold keptV
  by_cases hl : (109 : UInt8) ∈ l
  · rw [if_pos hl, if_pos (List.mem_append_left _ hl)]
  · rw [if_neg hl, if_neg]
    intro hm
    rcases List.mem_append.1 hm with hm | hm
    · exact hl hm
    · exact h (List.mem_singleton.1 hm).symm
theorem keptV_yes {l : List UInt8} {v : Value} : keptV (l ++ [109]) v = v := by unfold keptV; rw [if_pos (by simp)]
theorem keptV_only (r : Rec) (h : 1 ≤ r.k ∧ r.k ≤ 14) (oa : Option Addr) (n c : Nat) : keptV (fieldsOf r.k).data.toList (.slice oa n c) = .slice (onlyA r oa) (onlyN r n) (onlyN r c) := by
  unfold keptV onlyA onlyN
  rcases kinds r.k h with e | e | e | e | e | e | e | e | e | e | e | e | e | e <;> (rw [e]; rfl)
/-- the loop's invariant: the box, the result, what is kept so far -/
structure KeptAt (r : Rec) (v : Value) (s : ByteArray) (w : World) (k : Nat) (wr : World) : Prop where
  box : OBox wr w.heap.size r v
  res : wr.heap[w.heap.size + 1]? = some (.cells #[.int .i64 0, .int .i64 0, .int .i64 0, .string ⟨#[]⟩, .string ⟨#[]⟩, .int .i64 0, .int .i64 0, .int .i64 0, .string ⟨#[]⟩, .int .i64 0, .int .i64 0, .slice none 0 0] 34 (0, 0))
  out : ∃ u, OBox wr (w.heap.size + 2) (keptL (s.data.toList.take k) r) u ∧ u = keptV (s.data.toList.take k) v
  low : Below w.heap.size w wr
theorem box_set {w : World} {b i : Nat} {cs ds : Array Value} {t : TypeId} {u : Value} (h : w.heap[b]? = some (.cells cs t (0, 0))) (e : cs.setIfInBounds i u = ds) : (w.setCell ⟨b, i, none⟩ u).heap[b]? = some (.cells ds t (0, 0)) := by
  rw [heap_setCell_same w b i _ _ u h, ← e]
theorem KeptAt.set112 {r : Rec} {oa : Option Addr} {n c : Nat} {s : ByteArray} {w wr : World} {k : Nat} (h : KeptAt r (.slice oa n c) s w k wr) (hk : k < s.size) (hb : s[k] = 112) : KeptAt r (.slice oa n c) s w (k + 1) (wr.setCell ⟨w.heap.size + 2, 3, none⟩ (.string r.p)) := by
  obtain ⟨h1, h2, ⟨u, h3, h4⟩, h5⟩ := h
  have e : keptL (s.data.toList.take (k + 1)) r = { keptL (s.data.toList.take k) r with p := r.p } := by
    rw [List.take_succ_eq_append_getElem (by simpa using hk), keptL_snoc, ← keepF_112, ← hb]; rfl
  refine ⟨(Below.heap_setCell _ _ _ _ (by simp)).trans h1, (Below.heap_setCell _ _ _ _ (by simp)).trans h2, ⟨u, ?_, ?_⟩, h5.setCell (p := ⟨w.heap.size + 2, 3, none⟩) (by simp) _⟩
  · rw [e]; exact box_set h3 (by rfl)
  · rw [List.take_succ_eq_append_getElem (by simpa using hk), show s.data.toList[k] = 112 from hb, keptV_no (by decide)]; exact h4
theorem KeptAt.set116 {r : Rec} {oa : Option Addr} {n c : Nat} {s : ByteArray} {w wr : World} {k : Nat} (h : KeptAt r (.slice oa n c) s w k wr) (hk : k < s.size) (hb : s[k] = 116) : KeptAt r (.slice oa n c) s w (k + 1) (wr.setCell ⟨w.heap.size + 2, 4, none⟩ (.string r.t)) := by
  obtain ⟨h1, h2, ⟨u, h3, h4⟩, h5⟩ := h
  have e : keptL (s.data.toList.take (k + 1)) r = { keptL (s.data.toList.take k) r with t := r.t } := by
    rw [List.take_succ_eq_append_getElem (by simpa using hk), keptL_snoc, ← keepF_116, ← hb]; rfl
  refine ⟨(Below.heap_setCell _ _ _ _ (by simp)).trans h1, (Below.heap_setCell _ _ _ _ (by simp)).trans h2, ⟨u, ?_, ?_⟩, h5.setCell (p := ⟨w.heap.size + 2, 4, none⟩) (by simp) _⟩
  · rw [e]; exact box_set h3 (by rfl)
  · rw [List.take_succ_eq_append_getElem (by simpa using hk), show s.data.toList[k] = 116 from hb, keptV_no (by decide)]; exact h4
theorem KeptAt.set115 {r : Rec} {oa : Option Addr} {n c : Nat} {s : ByteArray} {w wr : World} {k : Nat} (h : KeptAt r (.slice oa n c) s w k wr) (hk : k < s.size) (hb : s[k] = 115) : KeptAt r (.slice oa n c) s w (k + 1) (wr.setCell ⟨w.heap.size + 2, 5, none⟩ (.int .i64 r.sz)) := by
  obtain ⟨h1, h2, ⟨u, h3, h4⟩, h5⟩ := h
  have e : keptL (s.data.toList.take (k + 1)) r = { keptL (s.data.toList.take k) r with sz := r.sz } := by
    rw [List.take_succ_eq_append_getElem (by simpa using hk), keptL_snoc, ← keepF_115, ← hb]; rfl
  refine ⟨(Below.heap_setCell _ _ _ _ (by simp)).trans h1, (Below.heap_setCell _ _ _ _ (by simp)).trans h2, ⟨u, ?_, ?_⟩, h5.setCell (p := ⟨w.heap.size + 2, 5, none⟩) (by simp) _⟩
  · rw [e]; exact box_set h3 (by rfl)
  · rw [List.take_succ_eq_append_getElem (by simpa using hk), show s.data.toList[k] = 115 from hb, keptV_no (by decide)]; exact h4
theorem KeptAt.set104 {r : Rec} {oa : Option Addr} {n c : Nat} {s : ByteArray} {w wr : World} {k : Nat} (h : KeptAt r (.slice oa n c) s w k wr) (hk : k < s.size) (hb : s[k] = 104) : KeptAt r (.slice oa n c) s w (k + 1) (wr.setCell ⟨w.heap.size + 2, 6, none⟩ (.int .i64 r.h)) := by
  obtain ⟨h1, h2, ⟨u, h3, h4⟩, h5⟩ := h
  have e : keptL (s.data.toList.take (k + 1)) r = { keptL (s.data.toList.take k) r with h := r.h } := by
    rw [List.take_succ_eq_append_getElem (by simpa using hk), keptL_snoc, ← keepF_104, ← hb]; rfl
  refine ⟨(Below.heap_setCell _ _ _ _ (by simp)).trans h1, (Below.heap_setCell _ _ _ _ (by simp)).trans h2, ⟨u, ?_, ?_⟩, h5.setCell (p := ⟨w.heap.size + 2, 6, none⟩) (by simp) _⟩
  · rw [e]; exact box_set h3 (by rfl)
  · rw [List.take_succ_eq_append_getElem (by simpa using hk), show s.data.toList[k] = 104 from hb, keptV_no (by decide)]; exact h4
theorem KeptAt.set111 {r : Rec} {oa : Option Addr} {n c : Nat} {s : ByteArray} {w wr : World} {k : Nat} (h : KeptAt r (.slice oa n c) s w k wr) (hk : k < s.size) (hb : s[k] = 111) : KeptAt r (.slice oa n c) s w (k + 1) (wr.setCell ⟨w.heap.size + 2, 7, none⟩ (.int .i64 r.o)) := by
  obtain ⟨h1, h2, ⟨u, h3, h4⟩, h5⟩ := h
  have e : keptL (s.data.toList.take (k + 1)) r = { keptL (s.data.toList.take k) r with o := r.o } := by
    rw [List.take_succ_eq_append_getElem (by simpa using hk), keptL_snoc, ← keepF_111, ← hb]; rfl
  refine ⟨(Below.heap_setCell _ _ _ _ (by simp)).trans h1, (Below.heap_setCell _ _ _ _ (by simp)).trans h2, ⟨u, ?_, ?_⟩, h5.setCell (p := ⟨w.heap.size + 2, 7, none⟩) (by simp) _⟩
  · rw [e]; exact box_set h3 (by rfl)
  · rw [List.take_succ_eq_append_getElem (by simpa using hk), show s.data.toList[k] = 111 from hb, keptV_no (by decide)]; exact h4
theorem KeptAt.set100 {r : Rec} {oa : Option Addr} {n c : Nat} {s : ByteArray} {w wr : World} {k : Nat} (h : KeptAt r (.slice oa n c) s w k wr) (hk : k < s.size) (hb : s[k] = 100) : KeptAt r (.slice oa n c) s w (k + 1) (wr.setCell ⟨w.heap.size + 2, 8, none⟩ (.string r.d)) := by
  obtain ⟨h1, h2, ⟨u, h3, h4⟩, h5⟩ := h
  have e : keptL (s.data.toList.take (k + 1)) r = { keptL (s.data.toList.take k) r with d := r.d } := by
    rw [List.take_succ_eq_append_getElem (by simpa using hk), keptL_snoc, ← keepF_100, ← hb]; rfl
  refine ⟨(Below.heap_setCell _ _ _ _ (by simp)).trans h1, (Below.heap_setCell _ _ _ _ (by simp)).trans h2, ⟨u, ?_, ?_⟩, h5.setCell (p := ⟨w.heap.size + 2, 8, none⟩) (by simp) _⟩
  · rw [e]; exact box_set h3 (by rfl)
  · rw [List.take_succ_eq_append_getElem (by simpa using hk), show s.data.toList[k] = 100 from hb, keptV_no (by decide)]; exact h4
theorem KeptAt.set107 {r : Rec} {oa : Option Addr} {n c : Nat} {s : ByteArray} {w wr : World} {k : Nat} (h : KeptAt r (.slice oa n c) s w k wr) (hk : k < s.size) (hb : s[k] = 107) : KeptAt r (.slice oa n c) s w (k + 1) (wr.setCell ⟨w.heap.size + 2, 9, none⟩ (.int .i64 r.tk)) := by
  obtain ⟨h1, h2, ⟨u, h3, h4⟩, h5⟩ := h
  have e : keptL (s.data.toList.take (k + 1)) r = { keptL (s.data.toList.take k) r with tk := r.tk } := by
    rw [List.take_succ_eq_append_getElem (by simpa using hk), keptL_snoc, ← keepF_107, ← hb]; rfl
  refine ⟨(Below.heap_setCell _ _ _ _ (by simp)).trans h1, (Below.heap_setCell _ _ _ _ (by simp)).trans h2, ⟨u, ?_, ?_⟩, h5.setCell (p := ⟨w.heap.size + 2, 9, none⟩) (by simp) _⟩
  · rw [e]; exact box_set h3 (by rfl)
  · rw [List.take_succ_eq_append_getElem (by simpa using hk), show s.data.toList[k] = 107 from hb, keptV_no (by decide)]; exact h4
theorem KeptAt.set105 {r : Rec} {oa : Option Addr} {n c : Nat} {s : ByteArray} {w wr : World} {k : Nat} (h : KeptAt r (.slice oa n c) s w k wr) (hk : k < s.size) (hb : s[k] = 105) : KeptAt r (.slice oa n c) s w (k + 1) (wr.setCell ⟨w.heap.size + 2, 10, none⟩ (.int .i64 r.i)) := by
  obtain ⟨h1, h2, ⟨u, h3, h4⟩, h5⟩ := h
  have e : keptL (s.data.toList.take (k + 1)) r = { keptL (s.data.toList.take k) r with i := r.i } := by
    rw [List.take_succ_eq_append_getElem (by simpa using hk), keptL_snoc, ← keepF_105, ← hb]; rfl
  refine ⟨(Below.heap_setCell _ _ _ _ (by simp)).trans h1, (Below.heap_setCell _ _ _ _ (by simp)).trans h2, ⟨u, ?_, ?_⟩, h5.setCell (p := ⟨w.heap.size + 2, 10, none⟩) (by simp) _⟩
  · rw [e]; exact box_set h3 (by rfl)
  · rw [List.take_succ_eq_append_getElem (by simpa using hk), show s.data.toList[k] = 105 from hb, keptV_no (by decide)]; exact h4
theorem KeptAt.set109 {r : Rec} {oa : Option Addr} {n c : Nat} {s : ByteArray} {w wr : World} {k : Nat} (h : KeptAt r (.slice oa n c) s w k wr) (hk : k < s.size) (hb : s[k] = 109) : KeptAt r (.slice oa n c) s w (k + 1) (wr.setCell ⟨w.heap.size + 2, 11, none⟩ (.slice oa n c)) := by
  obtain ⟨h1, h2, ⟨u, h3, h4⟩, h5⟩ := h
  have e : keptL (s.data.toList.take (k + 1)) r = { keptL (s.data.toList.take k) r with m := r.m } := by
    rw [List.take_succ_eq_append_getElem (by simpa using hk), keptL_snoc, ← keepF_109, ← hb]; rfl
  refine ⟨(Below.heap_setCell _ _ _ _ (by simp)).trans h1, (Below.heap_setCell _ _ _ _ (by simp)).trans h2, ⟨.slice oa n c, ?_, ?_⟩, h5.setCell (p := ⟨w.heap.size + 2, 11, none⟩) (by simp) _⟩
  · rw [e]; exact box_set h3 (by rfl)
  · rw [List.take_succ_eq_append_getElem (by simpa using hk), show s.data.toList[k] = 109 from hb, keptV_yes]
set_option maxHeartbeats 3200000 in
theorem kept_any (r : Rec) (hk : 1 ≤ r.k ∧ r.k ≤ 14) (oa : Option Addr) (n c : Nat) (w : World) (hf : Fl w) : Calls Tryd.prog 46 #[.agg #[.int .i64 r.cl, .int .i64 r.sq, .int .i64 r.k, .string r.p, .string r.t, .int .i64 r.sz, .int .i64 r.h, .int .i64 r.o, .string r.d, .int .i64 r.tk, .int .i64 r.i, .slice oa n c]] w (OnlyPost r oa n c w) := by
  have HK := Lib.hid (kept_only r hk)
  have HI := Lib.hid (fields_isF r.k hk)
  have HS : Hid ((fieldsOf r.k).size ≤ 3) := Lib.hid (fields_size r.k hk)
  obtain ⟨kn, hkn⟩ : ∃ kn : Nat, r.k = (kn : Int) := ⟨r.k.toNat, by omega⟩
  have H1 : 1 ≤ kn := by omega
  have H2 : kn ≤ 14 := by omega
  have HV := Lib.hid (keptV_only r hk oa n c)
  have hfc := hf kn H1 H2
  rw [← hkn] at hfc
  have hz := World.block_lt_of_cell? _ _ hfc
  have hss : (fieldsOf r.k).size ≤ 3 := HS.out
  have hkn1 : ((kn : Int)).toNat = kn := by omega
  generalize fieldsOf r.k = s at hfc HK HI HS hss HV
  have H0 : Hid (∀ a b : Value, KeptAt r (.slice oa n c) s w 0 (((w.alloc (.cells #[.int .i64 r.cl, .int .i64 r.sq, .int .i64 r.k, .string r.p, .string r.t, .int .i64 r.sz, .int .i64 r.h, .int .i64 r.o, .string r.d, .int .i64 r.tk, .int .i64 r.i, .slice oa n c] 34)).alloc (.cells #[.int .i64 0, .int .i64 0, .int .i64 0, .string ⟨#[]⟩, .string ⟨#[]⟩, .int .i64 0, .int .i64 0, .int .i64 0, .string ⟨#[]⟩, .int .i64 0, .int .i64 0, .slice none 0 0] 34)).alloc (.cells #[.int .i64 r.cl, .int .i64 r.sq, .int .i64 r.k, .string ⟨#[]⟩, .string ⟨#[]⟩, .int .i64 0, .int .i64 0, .int .i64 0, .string ⟨#[]⟩, .int .i64 0, .int .i64 0, .slice none 0 0] 34))) := Lib.hid fun _ _ =>
    ⟨(heap_alloc_old _ _ (by simp; omega)).trans ((heap_alloc_old _ _ (by simp)).trans (heap_alloc_new w _)), (heap_alloc_old _ _ (by simp)).trans (heap_alloc2_new w _ _),
      ⟨.slice none 0 0, (by have := heap_alloc_new ((w.alloc (.cells #[.int .i64 r.cl, .int .i64 r.sq, .int .i64 r.k, .string r.p, .string r.t, .int .i64 r.sz, .int .i64 r.h, .int .i64 r.o, .string r.d, .int .i64 r.tk, .int .i64 r.i, .slice oa n c] 34)).alloc (.cells #[.int .i64 0, .int .i64 0, .int .i64 0, .string ⟨#[]⟩, .string ⟨#[]⟩, .int .i64 0, .int .i64 0, .int .i64 0, .string ⟨#[]⟩, .int .i64 0, .int .i64 0, .slice none 0 0] 34)) (.cells #[.int .i64 r.cl, .int .i64 r.sq, .int .i64 r.k, .string ⟨#[]⟩, .string ⟨#[]⟩, .int .i64 0, .int .i64 0, .int .i64 0, .string ⟨#[]⟩, .int .i64 0, .int .i64 0, .slice none 0 0] 34); rw [alloc_size, alloc_size] at this; exact this), rfl⟩, three_new w _ _ _⟩
  have HKN : Hid (r.k = (kn : Int)) := Lib.hid hkn
  rw [hkn] at H0
  clear hk hf
  go_enter Tryd.func46, Tryd.ntmps46
  go_wp2_with fail
  clear hkn hfc hkn1
  go_loopw [19] (fun i wr => ∃ k : Nat, k ≤ s.size ∧ i = .int .i64 (k : Int) ∧ KeptAt r (.slice oa n c) s w k wr) (fun i _ => ((s.size : Int) - intOf i).toNat)
  case atStart => exact ⟨0, by omega, rfl, H0.out .nilIface .nilIface⟩
  case round =>
    obtain ⟨k, hk, rfl, hka⟩ := hrel
    have HA := Lib.hid hka
    obtain ⟨c0, c1, c2, c3, c4, c5, c6, c7, c8, c9, c10, c11⟩ := hka.box.cells
    by_cases hlt : k < s.size
    · have hk0 : (0 : Int) ≤ (k : Int) := by omega
      have hkl : (k : Int) < (s.size : Int) := by omega
      obtain ⟨u, ho, _⟩ := hka.out
      obtain ⟨d0, d1, d2, d3, d4, d5, d6, d7, d8, d9, d10, d11⟩ := ho.cells
      have fz := ho.free
      have hb : IsF s[k] := HI.out _ (List.getElem_mem (by simpa using hlt))
      clear hka ho
      rcases hb with hb | hb | hb | hb | hb | hb | hb | hb | hb
      · have HB := Lib.hid hb
        have fj := fz 3
        have q112 : ((s[k].toNat : Int) == 112) = true := by rw [hb]; rfl
        have q116 : ((s[k].toNat : Int) == 116) = false := by rw [hb]; rfl
        have q115 : ((s[k].toNat : Int) == 115) = false := by rw [hb]; rfl
        have q104 : ((s[k].toNat : Int) == 104) = false := by rw [hb]; rfl
        have q111 : ((s[k].toNat : Int) == 111) = false := by rw [hb]; rfl
        have q100 : ((s[k].toNat : Int) == 100) = false := by rw [hb]; rfl
        have q107 : ((s[k].toNat : Int) == 107) = false := by rw [hb]; rfl
        have q105 : ((s[k].toNat : Int) == 105) = false := by rw [hb]; rfl
        have q109 : ((s[k].toNat : Int) == 109) = false := by rw [hb]; rfl
        clear hb fz c0 c1 c2 c4 c5 c6 c7 c8 c9 c10 c11 d0 d1 d2 d4 d5 d6 d7 d8 d9 d10 d11
        go_wp2_with fail
        exact ⟨⟨k + 1, by omega, by simp, KeptAt.set112 HA.out hlt HB.out⟩, by simp [intOf]; omega⟩
      · have HB := Lib.hid hb
        have fj := fz 4
        have q112 : ((s[k].toNat : Int) == 112) = false := by rw [hb]; rfl
        have q116 : ((s[k].toNat : Int) == 116) = true := by rw [hb]; rfl
        have q115 : ((s[k].toNat : Int) == 115) = false := by rw [hb]; rfl
        have q104 : ((s[k].toNat : Int) == 104) = false := by rw [hb]; rfl
        have q111 : ((s[k].toNat : Int) == 111) = false := by rw [hb]; rfl
        have q100 : ((s[k].toNat : Int) == 100) = false := by rw [hb]; rfl
        have q107 : ((s[k].toNat : Int) == 107) = false := by rw [hb]; rfl
        have q105 : ((s[k].toNat : Int) == 105) = false := by rw [hb]; rfl
        have q109 : ((s[k].toNat : Int) == 109) = false := by rw [hb]; rfl
        clear hb fz c0 c1 c2 c3 c5 c6 c7 c8 c9 c10 c11 d0 d1 d2 d3 d5 d6 d7 d8 d9 d10 d11
        go_wp2_with fail
        exact ⟨⟨k + 1, by omega, by simp, KeptAt.set116 HA.out hlt HB.out⟩, by simp [intOf]; omega⟩
      · have HB := Lib.hid hb
        have fj := fz 5
        have q112 : ((s[k].toNat : Int) == 112) = false := by rw [hb]; rfl
        have q116 : ((s[k].toNat : Int) == 116) = false := by rw [hb]; rfl
        have q115 : ((s[k].toNat : Int) == 115) = true := by rw [hb]; rfl
        have q104 : ((s[k].toNat : Int) == 104) = false := by rw [hb]; rfl
        have q111 : ((s[k].toNat : Int) == 111) = false := by rw [hb]; rfl
        have q100 : ((s[k].toNat : Int) == 100) = false := by rw [hb]; rfl
        have q107 : ((s[k].toNat : Int) == 107) = false := by rw [hb]; rfl
        have q105 : ((s[k].toNat : Int) == 105) = false := by rw [hb]; rfl
        have q109 : ((s[k].toNat : Int) == 109) = false := by rw [hb]; rfl
        clear hb fz c0 c1 c2 c3 c4 c6 c7 c8 c9 c10 c11 d0 d1 d2 d3 d4 d6 d7 d8 d9 d10 d11
        go_wp2_with fail
        exact ⟨⟨k + 1, by omega, by simp, KeptAt.set115 HA.out hlt HB.out⟩, by simp [intOf]; omega⟩
      · have HB := Lib.hid hb
        have fj := fz 6
        have q112 : ((s[k].toNat : Int) == 112) = false := by rw [hb]; rfl
        have q116 : ((s[k].toNat : Int) == 116) = false := by rw [hb]; rfl
        have q115 : ((s[k].toNat : Int) == 115) = false := by rw [hb]; rfl
        have q104 : ((s[k].toNat : Int) == 104) = true := by rw [hb]; rfl
        have q111 : ((s[k].toNat : Int) == 111) = false := by rw [hb]; rfl
        have q100 : ((s[k].toNat : Int) == 100) = false := by rw [hb]; rfl
        have q107 : ((s[k].toNat : Int) == 107) = false := by rw [hb]; rfl
        have q105 : ((s[k].toNat : Int) == 105) = false := by rw [hb]; rfl
        have q109 : ((s[k].toNat : Int) == 109) = false := by rw [hb]; rfl
        clear hb fz c0 c1 c2 c3 c4 c5 c7 c8 c9 c10 c11 d0 d1 d2 d3 d4 d5 d7 d8 d9 d10 d11
        go_wp2_with fail
        exact ⟨⟨k + 1, by omega, by simp, KeptAt.set104 HA.out hlt HB.out⟩, by simp [intOf]; omega⟩
      · have HB := Lib.hid hb
        have fj := fz 7
        have q112 : ((s[k].toNat : Int) == 112) = false := by rw [hb]; rfl
        have q116 : ((s[k].toNat : Int) == 116) = false := by rw [hb]; rfl
        have q115 : ((s[k].toNat : Int) == 115) = false := by rw [hb]; rfl
        have q104 : ((s[k].toNat : Int) == 104) = false := by rw [hb]; rfl
        have q111 : ((s[k].toNat : Int) == 111) = true := by rw [hb]; rfl
        have q100 : ((s[k].toNat : Int) == 100) = false := by rw [hb]; rfl
        have q107 : ((s[k].toNat : Int) == 107) = false := by rw [hb]; rfl
        have q105 : ((s[k].toNat : Int) == 105) = false := by rw [hb]; rfl
        have q109 : ((s[k].toNat : Int) == 109) = false := by rw [hb]; rfl
        clear hb fz c0 c1 c2 c3 c4 c5 c6 c8 c9 c10 c11 d0 d1 d2 d3 d4 d5 d6 d8 d9 d10 d11
        go_wp2_with fail
        exact ⟨⟨k + 1, by omega, by simp, KeptAt.set111 HA.out hlt HB.out⟩, by simp [intOf]; omega⟩
      · have HB := Lib.hid hb
        have fj := fz 8
        have q112 : ((s[k].toNat : Int) == 112) = false := by rw [hb]; rfl
        have q116 : ((s[k].toNat : Int) == 116) = false := by rw [hb]; rfl
        have q115 : ((s[k].toNat : Int) == 115) = false := by rw [hb]; rfl
        have q104 : ((s[k].toNat : Int) == 104) = false := by rw [hb]; rfl
        have q111 : ((s[k].toNat : Int) == 111) = false := by rw [hb]; rfl
        have q100 : ((s[k].toNat : Int) == 100) = true := by rw [hb]; rfl
        have q107 : ((s[k].toNat : Int) == 107) = false := by rw [hb]; rfl
        have q105 : ((s[k].toNat : Int) == 105) = false := by rw [hb]; rfl
        have q109 : ((s[k].toNat : Int) == 109) = false := by rw [hb]; rfl
        clear hb fz c0 c1 c2 c3 c4 c5 c6 c7 c9 c10 c11 d0 d1 d2 d3 d4 d5 d6 d7 d9 d10 d11
        go_wp2_with fail
        exact ⟨⟨k + 1, by omega, by simp, KeptAt.set100 HA.out hlt HB.out⟩, by simp [intOf]; omega⟩
      · have HB := Lib.hid hb
        have fj := fz 9
        have q112 : ((s[k].toNat : Int) == 112) = false := by rw [hb]; rfl
        have q116 : ((s[k].toNat : Int) == 116) = false := by rw [hb]; rfl
        have q115 : ((s[k].toNat : Int) == 115) = false := by rw [hb]; rfl
        have q104 : ((s[k].toNat : Int) == 104) = false := by rw [hb]; rfl
        have q111 : ((s[k].toNat : Int) == 111) = false := by rw [hb]; rfl
        have q100 : ((s[k].toNat : Int) == 100) = false := by rw [hb]; rfl
        have q107 : ((s[k].toNat : Int) == 107) = true := by rw [hb]; rfl
        have q105 : ((s[k].toNat : Int) == 105) = false := by rw [hb]; rfl
        have q109 : ((s[k].toNat : Int) == 109) = false := by rw [hb]; rfl
        clear hb fz c0 c1 c2 c3 c4 c5 c6 c7 c8 c10 c11 d0 d1 d2 d3 d4 d5 d6 d7 d8 d10 d11
        go_wp2_with fail
        exact ⟨⟨k + 1, by omega, by simp, KeptAt.set107 HA.out hlt HB.out⟩, by simp [intOf]; omega⟩
      · have HB := Lib.hid hb
        have fj := fz 10
        have q112 : ((s[k].toNat : Int) == 112) = false := by rw [hb]; rfl
        have q116 : ((s[k].toNat : Int) == 116) = false := by rw [hb]; rfl
        have q115 : ((s[k].toNat : Int) == 115) = false := by rw [hb]; rfl
        have q104 : ((s[k].toNat : Int) == 104) = false := by rw [hb]; rfl
        have q111 : ((s[k].toNat : Int) == 111) = false := by rw [hb]; rfl
        have q100 : ((s[k].toNat : Int) == 100) = false := by rw [hb]; rfl
        have q107 : ((s[k].toNat : Int) == 107) = false := by rw [hb]; rfl
        have q105 : ((s[k].toNat : Int) == 105) = true := by rw [hb]; rfl
        have q109 : ((s[k].toNat : Int) == 109) = false := by rw [hb]; rfl
        clear hb fz c0 c1 c2 c3 c4 c5 c6 c7 c8 c9 c11 d0 d1 d2 d3 d4 d5 d6 d7 d8 d9 d11
        go_wp2_with fail
        exact ⟨⟨k + 1, by omega, by simp, KeptAt.set105 HA.out hlt HB.out⟩, by simp [intOf]; omega⟩
      · have HB := Lib.hid hb
        have fj := fz 11
        have q112 : ((s[k].toNat : Int) == 112) = false := by rw [hb]; rfl
        have q116 : ((s[k].toNat : Int) == 116) = false := by rw [hb]; rfl
        have q115 : ((s[k].toNat : Int) == 115) = false := by rw [hb]; rfl
        have q104 : ((s[k].toNat : Int) == 104) = false := by rw [hb]; rfl
        have q111 : ((s[k].toNat : Int) == 111) = false := by rw [hb]; rfl
        have q100 : ((s[k].toNat : Int) == 100) = false := by rw [hb]; rfl
        have q107 : ((s[k].toNat : Int) == 107) = false := by rw [hb]; rfl
        have q105 : ((s[k].toNat : Int) == 105) = false := by rw [hb]; rfl
        have q109 : ((s[k].toNat : Int) == 109) = true := by rw [hb]; rfl
        clear hb fz c0 c1 c2 c3 c4 c5 c6 c7 c8 c9 c10 d0 d1 d2 d3 d4 d5 d6 d7 d8 d9 d10
        go_wp2_with fail
        exact ⟨⟨k + 1, by omega, by simp, KeptAt.set109 HA.out hlt HB.out⟩, by simp [intOf]; omega⟩
    · have HE : Hid (keptL (s.data.toList.take k) r = only r) := Lib.hid (by rw [List.take_of_length_le (by simp; omega)]; exact HK.out)
      obtain ⟨u, ho, hu⟩ := hka.out
      rw [HE.out] at ho
      have HR := Lib.hid hka.res
      have HL := Lib.hid hka.low
      have hk1 : ¬ ((k : Int) < (s.size : Int)) := by omega
      obtain ⟨d0, d1, d2, d3, d4, d5, d6, d7, d8, d9, d10, d11⟩ := ho.cells
      have hv : u = .slice (onlyA r oa) (onlyN r n) (onlyN r c) := by rw [hu, List.take_of_length_le (by simp; omega)]; exact HV.out
      subst hv
      clear hka ho hu c0 c1 c2 c3 c4 c5 c6 c7 c8 c9 c10 c11
      go_wp2_with (refine wpList_store_row rfl 34 (Operand.tmp 2) _ rfl (w.heap.size + 1) _ rfl rfl 34 _ HR.out opSize rfl (by simp [Value.oneCell']) ?_)
      refine ret_row1 (p := 2) rfl rfl rfl (setRow_heap _ _ _ _ _ _ HR.out) Tryd.underlying34 rfl opSize ?_
      exact ⟨rfl, below_setRow HL.out (show w.heap.size ≤ w.heap.size + 1 by omega) _⟩
end Go.Proofs.YthnkpoagpjnopaaDoor.OpW
