/- Several texts in one, of what this seat needs. -/
import Derived.Test.YtiffmigihhcgcaaGreatDoorPathNames
namespace Go.Proofs.YtiffmigihhcgcaaGreatDoor.PathW
open Go.RowKit
set_option maxRecDepth 100000
set_option maxHeartbeats 400000 in
theorem good_any (p : ByteArray) (hs : p.size ≤ 140737488355328) (w : World) :
    Calls Tryz.prog 48 #[.string p] w fun e w' => e = .returned (.bool (namesR p.data.toList).isSome) ∧ Below w.heap.size w w' := by
  go_enter Tryz.func48, Tryz.ntmps48
  go_wp2_with (go_at_call 57; refine (names_any _ hs _).mono ?_; rintro e w1 ⟨v, rfl, hs1, hb1⟩; have HB1 := Lib.hid hb1; clear hs1 hb1)
  go_ret
  exact ⟨rfl, HB1.out⟩
/-- Split's error -/
def splitE (p : List UInt8) : Int := if (namesR p).isSome = true then 0 else 11
/-- a slice of strings, read: from whatever address -/
def Rds (B : Nat) (w : World) (oa : Option Addr) (l : List (List UInt8)) : Prop := ∀ i (h : i < l.length), ∃ a, oa = some a ∧ a.block < B ∧ w.cell? (a.add i) = some (strV l[i])
theorem Rds.below {B : Nat} {w w' : World} {oa : Option Addr} {l : List (List UInt8)} (h : Rds B w oa l) (hb : Below B w w') : Rds B w' oa l := by
  intro i hi
  obtain ⟨a, h1, h2, h3⟩ := h i hi
  exact ⟨a, h1, h2, (hb.cell (by rw [add_block]; exact h2)).trans h3⟩
theorem Rds.of_strs {B : Nat} {w : World} {oa : Option Addr} {n cap : Nat} {l : List (List UInt8)} (h : Strs B w (.slice oa n cap) l) : Rds w.heap.size w oa l := by
  intro i hi
  rcases h.2 with ⟨_, h0⟩ | ⟨g, cap', cur, hv, hb, hg, _⟩
  · omega
  · have hc := World.ownsRow.cells h (g := g) (by simp [Value.ownBlock]; injection hv with h1; rw [h1]) i (strV l[i]) (by simp [hi])
    injection hv with h1
    exact ⟨⟨g, 0, none⟩, h1, lt_of_block hg, hc⟩
theorem Rds.take {B : Nat} {w : World} {oa : Option Addr} {l : List (List UInt8)} (h : Rds B w oa l) (k : Nat) : Rds B w oa (l.take k) := by
  intro i hi
  have hi2 : i < l.length := by rw [List.length_take] at hi; omega
  obtain ⟨a, h1, h2, h3⟩ := h i hi2
  exact ⟨a, h1, h2, by rw [List.getElem_take]; exact h3⟩
theorem all_take (l : List (List UInt8)) (k : Nat) (h : k < l.length) : (l.take (k + 1)).all nameB = ((l.take k).all nameB && nameB l[k]) := by
  rw [List.take_succ_eq_append_getElem h, List.all_append]; simp
theorem strV_size (x : List UInt8) : (⟨x.toArray⟩ : ByteArray).size = x.length := by simp [ByteArray.size]
def joinS (l : List (List UInt8)) : ByteArray := match joinR l with | some s => ⟨s.toArray⟩ | none => ⟨#[]⟩
def joinE (l : List (List UInt8)) : Int := match joinR l with | some _ => 0 | none => 11
theorem join_len (l : List (List UInt8)) (h : l.length ≤ 8) (ha : l.all nameB = true) : (Lib.join l [47]).length ≤ 100 := by
  have h1 := congrArg List.length (join_slash l)
  rw [List.length_cons] at h1
  have h2 : (joinP l).length ≤ 1 + l.length * 9 := by
    unfold joinP
    split
    · simp
    · rw [joinT, List.length_flatten, List.map_map]
      have key : ∀ m : List (List UInt8), m.all nameB = true → (m.map (List.length ∘ fun x => 47 :: x)).sum ≤ m.length * 9 := by
        intro m
        induction m with
        | nil => simp
        | cons x r ih =>
          intro hm
          simp only [List.all_cons, Bool.and_eq_true] at hm
          have hx : x.length ≤ 8 := by
            have := hm.1; unfold nameB at this; simp only [Bool.and_eq_true, decide_eq_true_eq] at this; exact this.1.2
          have := ih hm.2
          simp only [List.map_cons, List.sum_cons, Function.comp_apply, List.length_cons]
          omega
      have := key l ha
      omega
  omega
end Go.Proofs.YtiffmigihhcgcaaGreatDoor.PathW

namespace Go.Proofs.YtiffmigihhcgcaaGreatDoor.PathW
open Go.RowKit
set_option maxRecDepth 100000
/-- names are short -/
theorem names_short (p : List UInt8) : ∀ x ∈ (namesR p).getD [], x.length ≤ 9223372036854775807 := by
  intro x hx
  cases h : namesR p with
  | none => rw [h] at hx; simp at hx
  | some l =>
    rw [h] at hx
    have := List.all_eq_true.1 (join_names p l h).2.2 x hx
    unfold nameB at this; simp only [Bool.and_eq_true, decide_eq_true_eq] at this; omega
theorem names_few (p : List UInt8) : ((namesR p).getD []).length ≤ 8 := by
  cases h : namesR p with
  | none => simp
  | some l => exact (join_names p l h).2.1
theorem Strs.cap {B : Nat} {w : World} {oa : Option Addr} {n cap : Nat} {l : List (List UInt8)} (h : Strs B w (.slice oa n cap) l) : n = l.length ∧ l.length ≤ cap := by
  rcases h.2 with ⟨hv, h0⟩ | ⟨g, cap', cur, hv, _, _, hn, _⟩
  · injection hv with h1 h2 h3; subst h2; subst h3; omega
  · injection hv with h1 h2 h3; subst h2; subst h3; exact ⟨rfl, hn⟩
/-- what Up answers: directory, name, is there one -/
def upR (p : List UInt8) : List UInt8 × List UInt8 × Bool := match namesR p with
  | none => ([], [], false)
  | some l => if l = [] then ([], [], false) else (joinP (l.take (l.length - 1)), l.getD (l.length - 1) [], true)
theorem join_take (l : List (List UInt8)) (k : Nat) (h8 : l.length ≤ 8) (ha : l.all nameB = true) : joinS (l.take k) = ⟨(joinP (l.take k)).toArray⟩ ∧ joinE (l.take k) = 0 := by
  have h : joinR (l.take k) = some (joinP (l.take k)) := by
    rw [joinR, if_pos ⟨by rw [List.length_take]; omega, List.all_eq_true.2 fun x hx => List.all_eq_true.1 ha x (List.mem_of_mem_take hx)⟩]
  rw [joinS, joinE, h]; exact ⟨rfl, rfl⟩
end Go.Proofs.YtiffmigihhcgcaaGreatDoor.PathW

namespace Go.Proofs.YtiffmigihhcgcaaGreatDoor.PathW
open Go.RowKit
set_option maxRecDepth 100000
def insideR (p q : List UInt8) : Bool := match namesR p, namesR q with
  | some a, some b => decide (b.length ≤ a.length) && (a.take b.length == b)
  | _, _ => false
end Go.Proofs.YtiffmigihhcgcaaGreatDoor.PathW

namespace Go.Proofs.YtiffmigihhcgcaaGreatDoor.PathW
open Go.RowKit
set_option maxRecDepth 100000
theorem joinT_take (l : List (List UInt8)) (k : Nat) (h : k < l.length) : joinT (l.take (k + 1)) = joinT (l.take k) ++ 47 :: l[k] := by
  rw [List.take_succ_eq_append_getElem h, joinT, List.map_append, List.flatten_append]; simp [joinT]
theorem nameB_len (x : List UInt8) (h : nameB x = true) : x.length ≤ 8 := by
  unfold nameB at h; simp only [Bool.and_eq_true, decide_eq_true_eq] at h; exact h.1.2
theorem joinT_len (l : List (List UInt8)) (h : l.all nameB = true) : (joinT l).length ≤ l.length * 9 := by
  induction l with
  | nil => simp [joinT]
  | cons x r ih =>
    simp only [List.all_cons, Bool.and_eq_true] at h
    have h1 := ih h.2
    have h2 := nameB_len x h.1
    have : joinT (x :: r) = 47 :: x ++ joinT r := rfl
    rw [this]; simp only [List.length_append, List.length_cons]; omega
theorem rname_is (s : ByteArray) (b : Bool) (hb : nameB s.data.toList = b) (hs : s.size ≤ 9223372036854775807) (w : World) :
    Calls Tryz.prog 86 #[.string s] w fun e w' => e = .returned (.bool b) ∧ w = w' := by
  rw [← hb]; exact rname_any s hs w
set_option maxHeartbeats 800000 in
theorem rjoin_any (oa : Option Addr) (cap : Nat) (l : List (List UInt8)) (hl : l.length ≤ 140737488355328) (hz : ∀ x ∈ l, x.length ≤ 9223372036854775807) (w : World) (h : Rds w.heap.size w oa l) :
    Calls Tryz.prog 66 #[.slice oa l.length cap] w fun e w' => e = .returned (.tuple #[.string (joinS l), .int .i64 (joinE l)]) ∧ w = w' := by
  by_cases h8 : l.length ≤ 8
  · have d : decide (8 < (l.length : Int)) = false := decide_eq_false (by omega)
    have HR := Lib.hid h
    have HZ := Lib.hid hz
    clear h hz
    go_enter Tryz.func66, Tryz.ntmps66
    go_wp2_with fail
    clear d
    go_loop [4, 5] (fun s i => ∃ (k : Nat) (t : ByteArray), k ≤ l.length ∧ i = .int .i64 k ∧ s = .string t ∧ t.data.toList = joinT (l.take k) ∧ (l.take k).all nameB = true) (fun _ i => l.length - (intOf i).toNat)
    case atStart => exact ⟨0, ⟨#[]⟩, Nat.zero_le _, rfl, rfl, rfl, rfl⟩
    case round =>
      obtain ⟨k, t, hk, rfl, rfl, ht, hall⟩ := hrel
      have htl := joinT_len _ hall
      have hts : t.size ≤ 72 := by
        have := congrArg List.length ht
        rw [list_size] at this
        rw [List.length_take] at htl; omega
      have HA := Lib.hid hall
      have HT := Lib.hid ht
      clear hall ht htl
      by_cases hlt : k < l.length
      · have HTA := Lib.hid (all_take l k hlt)
        have HTJ := Lib.hid (joinT_take l k hlt)
        obtain ⟨a, rfl, _, hc⟩ := HR.out k hlt
        have HS : Hid ((⟨l[k].toArray⟩ : ByteArray).size ≤ 9223372036854775807) := Lib.hid (by rw [strV_size]; have := HZ.out l[k] (List.getElem_mem _); omega)
        have hsz2 : nameB l[k] = true → (⟨l[k].toArray⟩ : ByteArray).size ≤ 8 := fun h => by rw [strV_size]; exact nameB_len _ h
        unfold strV at hc
        have hxd : (⟨l[k].toArray⟩ : ByteArray).data.toList = l[k] := rfl
        generalize (⟨l[k].toArray⟩ : ByteArray) = X at *
        have HXD := Lib.hid hxd
        have HTN : Hid ((t ++ ((⟨#[47]⟩ : ByteArray) ++ X)).data.toList = joinT (l.take (k + 1))) := Lib.hid (by
          rw [ByteArray.data_append, Array.toList_append, ByteArray.data_append, Array.toList_append, HTJ.out, HT.out, hxd]; rfl)
        clear hxd
        cases hn : nameB l[k] with
        | true =>
          have hsz8 : X.size ≤ 8 := hsz2 hn
          have HN := Lib.hid hn
          clear hn hsz2
          go_wp2_with (go_at_call 86; refine (rname_is _ true (by rw [HXD.out]; exact HN.out) HS.out _).mono ?_; rintro e w1 ⟨rfl, rfl⟩)
          exact ⟨⟨k + 1, _, by omega, by go_num, rfl, HTN.out, by rw [HTA.out, HA.out, HN.out]; rfl⟩, by simp [intOf]; omega⟩
        | false =>
          have HN := Lib.hid hn
          have HX : Hid (joinS l = ⟨#[]⟩ ∧ joinE l = 11) := Lib.hid (by
            have : l.all nameB = false := by
              rw [List.all_eq_false]
              exact ⟨l[k], List.getElem_mem _, by rw [hn]; simp⟩
            rw [joinS, joinE, joinR, if_neg (by rw [this]; simp)]; exact ⟨rfl, rfl⟩)
          clear hn hsz2
          go_wp2_with (go_at_call 86; refine (rname_is _ false (by rw [HXD.out]; exact HN.out) HS.out _).mono ?_; rintro e w1 ⟨rfl, rfl⟩)
          go_ret2
          exact ⟨by rw [HX.out.1, HX.out.2]; rfl, rfl⟩
      · have HK : Hid (l.take k = l) := Lib.hid (List.take_of_length_le (by omega))
        have HX : Hid (joinS l = ⟨(joinP l).toArray⟩ ∧ joinE l = 0) := Lib.hid (by
          have := HA.out; rw [HK.out] at this
          rw [joinS, joinE, joinR, if_pos ⟨h8, this⟩]; exact ⟨rfl, rfl⟩)
        by_cases h0 : l = []
        · have ht0 : t = ⟨#[]⟩ := by
            apply ByteArray.ext; apply Array.toList_inj.1
            rw [HT.out, HK.out, h0]; rfl
          subst ht0
          have HP : Hid (joinP l = [47]) := Lib.hid (by rw [joinP, if_pos h0])
          clear h0
          go_wp2
          go_ret2
          exact ⟨by rw [HX.out.1, HX.out.2, HP.out]; rfl, rfl⟩
        · have hpos : 0 < t.size := by
            have h1 := congrArg List.length HT.out
            rw [list_size, HK.out] at h1
            cases hq : l with
            | nil => exact absurd hq h0
            | cons x r =>
              rw [hq] at h1
              have : joinT (x :: r) = 47 :: x ++ joinT r := rfl
              rw [this] at h1; simp at h1; omega
          obtain ⟨n1, n2⟩ := some_bytes hpos
          have HP : Hid ((⟨(joinP l).toArray⟩ : ByteArray) = t) := Lib.hid (by
            apply ByteArray.ext; apply Array.toList_inj.1
            rw [HT.out, HK.out, joinP, if_neg h0])
          clear h0 hpos
          go_wp2
          go_ret2
          exact ⟨by rw [HX.out.1, HX.out.2, HP.out]; rfl, rfl⟩
  · have d : decide (8 < (l.length : Int)) = true := decide_eq_true (by omega)
    have HR : Hid (joinS l = ⟨#[]⟩ ∧ joinE l = 11) := Lib.hid (by rw [joinS, joinE, joinR, if_neg (by omega)]; exact ⟨rfl, rfl⟩)
    clear h hz h8
    go_enter Tryz.func66, Tryz.ntmps66
    go_wp2
    go_ret2
    exact ⟨by rw [HR.out.1, HR.out.2]; rfl, rfl⟩
end Go.Proofs.YtiffmigihhcgcaaGreatDoor.PathW

namespace Go.Proofs.YtiffmigihhcgcaaGreatDoor.PathW
open Go.RowKit
set_option maxRecDepth 100000
theorem segs_len (q : List UInt8) : (segs q).length ≤ q.length + 1 ∧ ∀ x ∈ segs q, x.length ≤ q.length := by
  induction q with
  | nil => simp [segs]
  | cons c q ih =>
    by_cases hc : c = 47
    · subst hc
      rw [segs_slash]
      refine ⟨by simp; exact ih.1, fun x hx => ?_⟩
      rcases List.mem_cons.1 hx with rfl | hx
      · simp
      · have := ih.2 x hx; simp; omega
    · cases h : segs q with
      | nil => exact absurd h (segs_ne q)
      | cons s r =>
        rw [segs_other c q s r hc h]
        rw [h] at ih
        refine ⟨by have := ih.1; simp at this ⊢; omega, fun x hx => ?_⟩
        rcases List.mem_cons.1 hx with rfl | hx
        · have := ih.2 s (by simp); simp; exact this
        · have := ih.2 x (by simp [hx]); simp; omega
theorem mem_range_drop (P : List UInt8) (a b : Nat) (h : ∀ j, a ≤ j → j < b → P.getD j 0 ≠ 47) : ∀ c ∈ (P.drop a).take (b - a), c ≠ 47 := by
  intro c hc
  obtain ⟨j, hj, rfl⟩ := List.mem_iff_getElem.1 hc
  rw [List.length_take, List.length_drop] at hj
  rw [List.getElem_take, List.getElem_drop]
  have := h (a + j) (by omega) (by omega)
  rwa [List.getD_eq_getElem?_getD, List.getElem?_eq_getElem (by omega)] at this
theorem seg_step (P : List UInt8) (a b : Nat) (hab : a ≤ b) (hb : b < P.length) (h : ∀ j, a ≤ j → j < b → P.getD j 0 ≠ 47) (hs : P.getD b 0 = 47) :
    segs (P.drop a) = (P.drop a).take (b - a) :: segs (P.drop (b + 1)) := by
  have e : P.drop a = (P.drop a).take (b - a) ++ 47 :: P.drop (b + 1) := by
    conv => lhs; rw [← List.take_append_drop (b - a) (P.drop a)]
    congr 1
    rw [List.drop_drop, show a + (b - a) = b by omega, List.drop_eq_getElem_cons hb]
    rw [List.getD_eq_getElem?_getD, List.getElem?_eq_getElem hb] at hs
    congr 1
  conv => lhs; rw [e]
  exact segs_name _ (mem_range_drop P a b h) _
theorem seg_last (P : List UInt8) (a : Nat) (h : ∀ j, a ≤ j → j < P.length → P.getD j 0 ≠ 47) : segs (P.drop a) = [(P.drop a).take (P.length - a)] := by
  have e : (P.drop a).take (P.length - a) = P.drop a := List.take_of_length_le (by rw [List.length_drop]; omega)
  have := mem_range_drop P a P.length h
  rw [e] at this ⊢
  exact segs_name1 _ this
theorem ext_mid (q : ByteArray) (a b : Nat) : (q.extract a b).data.toList = (q.data.toList.drop a).take (b - a) := by
  rw [ByteArray.data_extract, Array.toList_extract, List.extract_eq_take_drop]
theorem getD_at (q : ByteArray) (j : Nat) (h : j < q.size) : q.data.toList.getD j 0 = q[j] := by
  rw [List.getD_eq_getElem?_getD, List.getElem?_eq_getElem (by simpa using h)]; rfl
theorem names_segs (q : List UInt8) (hq : q ≠ []) : namesR (47 :: q) = if joinE (segs q) = 0 then some (segs q) else none := by
  rw [namesR, if_neg (by simpa using hq)]
  simp only
  by_cases h : (segs q).length ≤ 8 ∧ (segs q).all nameB = true
  · rw [if_pos ⟨trivial, h⟩, joinE, joinR, if_pos h]; rfl
  · rw [if_neg (fun e => h e.2), joinE, joinR, if_neg h]; rfl
/-- what the loop holds -/
def SplitI (P : List UInt8) (a i : Nat) (acc : List (List UInt8)) : Prop :=
  1 ≤ a ∧ a ≤ i ∧ acc.length ≤ i ∧ (∀ j, a ≤ j → j < i → P.getD j 0 ≠ 47) ∧ ((i ≤ P.length ∧ acc ++ segs (P.drop a) = segs (P.drop 1)) ∨ (i = P.length + 1 ∧ acc = segs (P.drop 1)))
theorem splitI_skip {P : List UInt8} {a i : Nat} {acc : List (List UInt8)} (h : SplitI P a i acc) (hi : i < P.length) (hc : P.getD i 0 ≠ 47) : SplitI P a (i + 1) acc := by
  obtain ⟨h1, h2, h3, h4, h5⟩ := h
  refine ⟨h1, by omega, by omega, fun j ha hj => ?_, ?_⟩
  · by_cases e : j = i
    · subst e; exact hc
    · exact h4 j ha (by omega)
  · rcases h5 with h5 | h5
    · exact .inl ⟨by omega, h5.2⟩
    · omega
theorem splitI_cut {P : List UInt8} {a i : Nat} {acc : List (List UInt8)} (h : SplitI P a i acc) (hi : i < P.length) (hc : P.getD i 0 = 47) : SplitI P (i + 1) (i + 1) (acc ++ [(P.drop a).take (i - a)]) := by
  obtain ⟨h1, h2, h3, h4, h5⟩ := h
  refine ⟨by omega, by omega, by simp; omega, fun j ha hj => by omega, ?_⟩
  rcases h5 with h5 | h5
  · refine .inl ⟨by omega, ?_⟩
    rw [← h5.2, seg_step P a i h2 hi h4 hc, List.append_assoc]; rfl
  · omega
theorem splitI_end {P : List UInt8} {a i : Nat} {acc : List (List UInt8)} (h : SplitI P a i acc) (hi : i = P.length) : SplitI P (i + 1) (i + 1) (acc ++ [(P.drop a).take (i - a)]) := by
  obtain ⟨h1, h2, h3, h4, h5⟩ := h
  subst hi
  refine ⟨by omega, by omega, by simp; omega, fun j ha hj => by omega, ?_⟩
  rcases h5 with h5 | h5
  · refine .inr ⟨rfl, ?_⟩
    rw [← h5.2, seg_last P a h4]
  · omega
theorem splitI_done {P : List UInt8} {a i : Nat} {acc : List (List UInt8)} (h : SplitI P a i acc) (hi : P.length < i) : acc = segs (P.drop 1) := by
  obtain ⟨h1, h2, h3, h4, h5⟩ := h
  rcases h5 with h5 | h5
  · omega
  · exact h5.2
theorem splitI_le {P : List UInt8} {a i : Nat} {acc : List (List UInt8)} (h : SplitI P a i acc) : 1 ≤ a ∧ a ≤ i ∧ i ≤ P.length + 1 ∧ acc.length ≤ P.length + 1 := by
  obtain ⟨h1, h2, h3, h4, h5⟩ := h
  rcases h5 with h5 | h5 <;> exact ⟨h1, h2, by omega, by omega⟩
theorem rjoin_is (oa : Option Addr) (n cap : Nat) (l : List (List UInt8)) (hn : n = l.length) (hl : l.length ≤ 140737488355328) (hz : ∀ x ∈ l, x.length ≤ 9223372036854775807) (s : ByteArray) (e0 : Int) (hs : joinS l = s ∧ joinE l = e0) (w : World) (h : Rds w.heap.size w oa l) :
    Calls Tryz.prog 66 #[.slice oa n cap] w fun e w' => e = .returned (.tuple #[.string s, .int .i64 e0]) ∧ w = w' := by
  subst hn
  rw [← hs.1, ← hs.2]
  exact rjoin_any oa cap l hl hz w h
set_option maxHeartbeats 1600000 in
theorem rsplit_other (p : ByteArray) (q : List UInt8) (hp : p.data.toList = 47 :: q) (hq : q ≠ []) (hs : p.size ≤ 1000000) (w : World) :
    Calls Tryz.prog 53 #[.string p] w fun e w' => ∃ v, e = .returned (.tuple #[v, .int .i64 (splitE p.data.toList)]) ∧ Strs w.heap.size w' v ((namesR p.data.toList).getD []) ∧ Below w.heap.size w w' := by
  obtain ⟨i0, hi, hz0, hz1, hz2⟩ := info_parts strinfo
  have hlen := list_size p
  have hpos : 1 < p.size := by
    rw [← hlen, hp]
    cases q with
    | nil => exact absurd rfl hq
    | cons a b => simp
  have hne : (p.toList == [47]) = false := by rw [Lib.toList_data, beq_eq_false_iff_ne, hp]; simpa using hq
  obtain ⟨n1, n2⟩ := some_bytes (s := p) (by omega)
  have hp0 : 0 < p.size := by omega
  have h0 : p[0] = 47 := by
    have := getD_at p 0 (by omega)
    rw [hp] at this; exact this.symm
  have hc0 : ((p[0].toNat : Int) != 47) = false := by rw [h0]; rfl
  have hd1 : p.data.toList.drop 1 = q := by rw [hp]; rfl
  have HSE : Hid (splitE p.data.toList = joinE (segs q)) := Lib.hid (by
    rw [splitE, hp, names_segs q hq]
    by_cases h : joinE (segs q) = 0
    · rw [if_pos h, h]; rfl
    · rw [if_neg h]
      unfold joinE at h ⊢
      split at h
      · exact absurd rfl h
      · rfl)
  have HNS : Hid (namesR p.data.toList = if joinE (segs q) = 0 then some (segs q) else none) := Lib.hid (by rw [hp]; exact names_segs q hq)
  have HSL : Hid ((segs q).length ≤ 1000001 ∧ ∀ x ∈ segs q, x.length ≤ 1000001) := Lib.hid (by
    have h1 := segs_len q
    have h2 : q.length ≤ 1000000 := by rw [← hd1, List.length_drop, hlen]; omega
    exact ⟨by omega, fun x hx => by have := h1.2 x hx; omega⟩)
  have HD1 := Lib.hid hd1
  have HLEN := Lib.hid hlen
  have GET := Lib.hid (getD_at p)
  have HI0 : Hid (SplitI p.data.toList 1 1 []) := Lib.hid ⟨by omega, by omega, by simp, fun j h1 h2 => by omega, .inl ⟨by omega, by simp⟩⟩
  clear hp hq hlen h0 hd1
  go_enter Tryz.func53, Tryz.ntmps53
  go_wp2_with fail
  clear hne n1 n2 hc0
  go_loopw [4, 5, 6] (fun l a i wr => ∃ (x k : Nat) (acc : List (List UInt8)), i = .int .i64 (k : Int) ∧ a = .int .i64 (x : Int) ∧ SplitI p.data.toList x k acc ∧ Strs w.heap.size wr l acc ∧ Below w.heap.size w wr) (fun _ _ i _ => p.size + 1 - (intOf i).toNat)
  case atStart => exact ⟨1, 1, [], rfl, rfl, HI0.out, ⟨rfl, .inl ⟨rfl, rfl⟩⟩, Below.refl _ _⟩
  case round =>
    obtain ⟨x, k, acc, rfl, rfl, hI, hstr, hbel⟩ := hrel
    obtain ⟨oa, cap, rfl⟩ := hstr.form
    have hle := splitI_le hI
    rw [HLEN.out] at hle
    obtain ⟨hx1, hxk, hk1, hacc⟩ := hle
    have HOWN : Hid (wr.ownsRow w.heap.size 9 1 (.slice oa acc.length cap) acc.length (acc.map strV)) := Lib.hid hstr
    have HB := Lib.hid hbel
    have HI := Lib.hid hI
    have HSV : Hid (Value.string (p.extract x k) = strV ((p.data.toList.drop x).take (k - x))) := Lib.hid (by rw [str_list, ext_mid])
    clear hI hstr hbel
    by_cases hlt : k < p.size
    · have hG := GET.out k hlt
      by_cases hc : p[k] = 47
      · have hb : ((p[k].toNat : Int) == 47) = true := by rw [hc]; rfl
        have HI2 := Lib.hid (splitI_cut HI.out (by rw [HLEN.out]; exact hlt) (hG.trans hc))
        have hks : ((k : Int) == (p.size : Int)) = false := by rw [beq_eq_false_iff_ne]; omega
        clear hc hG
        go_wp2_with (at_builtin; refine wpList_append_new rfl _ _ 44 rfl w.heap.size 9 i0 (.string ⟨#[]⟩) 1 16 Tryz.underlying44 hi hz0 hz1 hz2 rfl (by decide) _ _ _ (by rfl) HOWN.out 1 1 (by rfl) rfl (by simp; rfl) (by unfold maxLen; omega) (by omega) HB.out.size ?_; intro oa2 cap2 w5 hown5 hbel5 _; have HS5 := Lib.hid hown5; have HB5 := Lib.hid (HB.out.trans hbel5); clear hown5 hbel5)
        exact ⟨⟨k + 1, k + 1, _, by go_num, by go_num, HI2.out, Strs.snoc HSV.out HS5.out, HB5.out⟩, by simp [intOf]; omega⟩
      · have hb : ((p[k].toNat : Int) == 47) = false := by
          rw [beq_eq_false_iff_ne]
          intro h
          exact hc (UInt8.toNat_inj.1 (by have : (47 : UInt8).toNat = 47 := rfl; omega))
        have HI2 := Lib.hid (splitI_skip HI.out (by rw [HLEN.out]; exact hlt) (by rw [hG]; exact hc))
        have hks : ((k : Int) == (p.size : Int)) = false := by rw [beq_eq_false_iff_ne]; omega
        clear hc hG
        go_wp2
        exact ⟨⟨x, k + 1, acc, by go_num, rfl, HI2.out, HOWN.out, HB.out⟩, by simp [intOf]; omega⟩
    · by_cases hke : k = p.size
      · have HI2 := Lib.hid (splitI_end HI.out (by rw [HLEN.out]; exact hke))
        have hks : ((k : Int) == (p.size : Int)) = true := by rw [beq_iff_eq]; omega
        have hkp : (k : Int) ≤ (p.size : Int) := by omega
        have hkm : p.size + 1 - k = 1 := by omega
        have HKM := Lib.hid hkm
        clear hlt hke hkm
        go_wp2_with (at_builtin; refine wpList_append_new rfl _ _ 44 rfl w.heap.size 9 i0 (.string ⟨#[]⟩) 1 16 Tryz.underlying44 hi hz0 hz1 hz2 rfl (by decide) _ _ _ (by rfl) HOWN.out 1 1 (by rfl) rfl (by simp; rfl) (by unfold maxLen; omega) (by omega) HB.out.size ?_; intro oa2 cap2 w5 hown5 hbel5 _; have HS5 := Lib.hid hown5; have HB5 := Lib.hid (HB.out.trans hbel5); clear hown5 hbel5)
        exact ⟨⟨k + 1, k + 1, _, by go_num, by go_num, HI2.out, Strs.snoc HSV.out HS5.out, HB5.out⟩, by have := HKM.out; simp [intOf]; omega⟩
      · have HX : Hid (acc = segs q) := Lib.hid (by rw [← HD1.out]; exact splitI_done HI.out (by rw [HLEN.out]; omega))
        have HRD : Hid (Rds wr.heap.size wr oa acc) := Lib.hid (Rds.of_strs (n := acc.length) (cap := cap) HOWN.out)
        have hkp : (p.size : Int) < (k : Int) := by omega
        clear hlt hke
        have HJ : Hid (∀ W : World, Rds W.heap.size W oa acc → Calls Tryz.prog 66 #[.slice oa acc.length cap] W fun e w' => e = .returned (.tuple #[.string (joinS acc), .int .i64 (joinE acc)]) ∧ W = w') := Lib.hid fun W hW =>
          rjoin_any oa cap acc (by omega) (fun y hy => by have := HSL.out.2 y (by rw [← HX.out]; exact hy); omega) W hW
        by_cases hj : joinE (segs q) = 0
        · have HJE : Hid (joinE acc = 0) := Lib.hid (by rw [HX.out, hj])
          have HN : Hid (namesR p.data.toList = some acc ∧ splitE p.data.toList = 0) := Lib.hid (by rw [HNS.out, HSE.out, if_pos hj, HX.out, hj]; exact ⟨rfl, rfl⟩)
          clear hj
          go_wp2_with (go_at_call 66; refine (HJ.out _ HRD.out).mono ?_; rintro e w1 ⟨he, rfl⟩; rw [HJE.out] at he; subst he)
          go_ret2
          exact ⟨_, by rw [HN.out.2]; rfl, by rw [HN.out.1]; exact HOWN.out, HB.out⟩
        · have HJE : Hid (joinE acc = 11) := Lib.hid (by
            rw [HX.out]
            unfold joinE at hj ⊢
            split at hj
            · exact absurd rfl hj
            · rfl)
          have HN : Hid (namesR p.data.toList = none ∧ splitE p.data.toList = 11) := Lib.hid (by rw [HNS.out, HSE.out, if_neg hj, ← HX.out, HJE.out]; exact ⟨rfl, rfl⟩)
          clear hj
          go_wp2_with (go_at_call 66; refine (HJ.out _ HRD.out).mono ?_; rintro e w1 ⟨he, rfl⟩; rw [HJE.out] at he; subst he)
          go_ret2
          exact ⟨_, by rw [HN.out.2]; rfl, by rw [HN.out.1]; exact ⟨rfl, .inl ⟨rfl, rfl⟩⟩, HB.out⟩
set_option maxHeartbeats 400000 in
theorem rsplit_root (w : World) : Calls Tryz.prog 53 #[.string ⟨#[47]⟩] w fun e w' => e = .returned (.tuple #[.slice none 0 0, .int .i64 0]) ∧ w = w' := by
  go_enter Tryz.func53, Tryz.ntmps53
  go_wp2
  go_ret2
  exact ⟨rfl, rfl⟩
set_option maxHeartbeats 400000 in
theorem rsplit_bad (p : ByteArray) (h : p.size = 0 ∨ ∃ h : 0 < p.size, p[0] ≠ 47) (w : World) : Calls Tryz.prog 53 #[.string p] w fun e w' => e = .returned (.tuple #[.slice none 0 0, .int .i64 11]) ∧ w = w' := by
  rcases h with h | ⟨h, h'⟩
  · obtain ⟨n1, n2, n3⟩ := no_bytes h
    have hq : ByteArray.toList p = [] := n1
    have hne : (p.toList == [47]) = false := by rw [n1]; rfl
    clear h hq
    go_enter Tryz.func53, Tryz.ntmps53
    go_wp2
    go_ret2
    exact ⟨rfl, rfl⟩
  · obtain ⟨n1, n2⟩ := some_bytes h
    have hb : ((p[0].toNat : Int) != 47) = true := by
      rw [bne_iff_ne]
      intro e
      exact h' (UInt8.toNat_inj.1 (by have : (47 : UInt8).toNat = 47 := rfl; omega))
    have hne : (p.toList == [47]) = false := by
      rw [Lib.toList_data, beq_eq_false_iff_ne]
      intro e
      have := getD_at p 0 h
      rw [e] at this
      exact h' this.symm
    clear h'
    go_enter Tryz.func53, Tryz.ntmps53
    go_wp2
    go_ret2
    exact ⟨rfl, rfl⟩
theorem rsplit_any (p : ByteArray) (hs : p.size ≤ 1000000) (w : World) :
    Calls Tryz.prog 53 #[.string p] w fun e w' => ∃ v, e = .returned (.tuple #[v, .int .i64 (splitE p.data.toList)]) ∧ Strs w.heap.size w' v ((namesR p.data.toList).getD []) ∧ Below w.heap.size w w' := by
  have hlen := list_size p
  cases hp : p.data.toList with
  | nil =>
    rw [hp] at hlen
    refine (rsplit_bad p (.inl hlen.symm) w).mono ?_
    rintro e w' ⟨rfl, rfl⟩
    exact ⟨_, rfl, ⟨rfl, .inl ⟨rfl, rfl⟩⟩, Below.refl _ _⟩
  | cons c q =>
    have hpos : 0 < p.size := by rw [← hlen, hp]; simp
    have h0 : p[0] = c := by
      have := getD_at p 0 hpos
      rw [hp] at this; exact this.symm
    by_cases hc : c = 47
    · subst hc
      by_cases hq : q = []
      · subst hq
        obtain rfl : p = ⟨#[47]⟩ := by apply ByteArray.ext; apply Array.toList_inj.1; exact hp
        refine (rsplit_root w).mono ?_
        rintro e w' ⟨rfl, rfl⟩
        exact ⟨.slice none 0 0, rfl, ⟨rfl, .inl ⟨rfl, rfl⟩⟩, Below.refl _ _⟩
      · rw [← hp]
        exact rsplit_other p q hp hq hs w
    · have hn : namesR (c :: q) = none := by
        rw [namesR, if_neg (by intro e; injection e with e1 _; exact hc e1)]
        simp [hc]
      refine (rsplit_bad p (.inr ⟨hpos, by rw [h0]; exact hc⟩) w).mono ?_
      rintro e w' ⟨rfl, rfl⟩
      exact ⟨_, by rw [splitE, hn]; rfl, by rw [hn]; exact ⟨rfl, .inl ⟨rfl, rfl⟩⟩, Below.refl _ _⟩
end Go.Proofs.YtiffmigihhcgcaaGreatDoor.PathW

namespace Go.Proofs.YtiffmigihhcgcaaGreatDoor.PathW
open Go.RowKit
set_option maxRecDepth 100000
theorem splitE_ok (p : List UInt8) : (splitE p == 0) = (namesR p).isSome := by
  unfold splitE
  cases h : (namesR p).isSome <;> simp
theorem rsplit_none (p : ByteArray) (hs : p.size ≤ 1000000) (h : namesR p.data.toList = none) (w : World) :
    Calls Tryz.prog 53 #[.string p] w fun e w' => ∃ v, e = .returned (.tuple #[v, .int .i64 11]) ∧ Strs w.heap.size w' v [] ∧ Below w.heap.size w w' := by
  have := rsplit_any p hs w
  rwa [h, splitE, h] at this
theorem rsplit_some (p : ByteArray) (hs : p.size ≤ 1000000) (l : List (List UInt8)) (h : namesR p.data.toList = some l) (w : World) :
    Calls Tryz.prog 53 #[.string p] w fun e w' => ∃ v, e = .returned (.tuple #[v, .int .i64 0]) ∧ Strs w.heap.size w' v l ∧ Below w.heap.size w w' := by
  have := rsplit_any p hs w
  rwa [h, splitE, h] at this
set_option maxHeartbeats 400000 in
theorem rgood_any (p : ByteArray) (hs : p.size ≤ 1000000) (w : World) :
    Calls Tryz.prog 43 #[.string p] w fun e w' => e = .returned (.bool (namesR p.data.toList).isSome) ∧ Below w.heap.size w w' := by
  cases hN : namesR p.data.toList with
  | none =>
    have HS := Lib.hid (rsplit_none p hs hN)
    clear hN
    go_enter Tryz.func43, Tryz.ntmps43
    go_wp2_with (go_at_call 53; refine (HS.out _).mono ?_; rintro e w1 ⟨v, rfl, hs1, hb1⟩; have HB1 := Lib.hid hb1; clear hs1 hb1)
    go_ret
    exact ⟨rfl, HB1.out⟩
  | some l =>
    have HS := Lib.hid (rsplit_some p hs l hN)
    clear hN
    go_enter Tryz.func43, Tryz.ntmps43
    go_wp2_with (go_at_call 53; refine (HS.out _).mono ?_; rintro e w1 ⟨v, rfl, hs1, hb1⟩; have HB1 := Lib.hid hb1; clear hs1 hb1)
    go_ret
    exact ⟨rfl, HB1.out⟩
theorem below_new {w w1 : World} {o : Obj} (hb : Below (w.alloc o).heap.size (w.alloc o) w1) : Below w.heap.size w w1 := bstep (below_alloc w o) hb
theorem set3 {w w1 : World} {x y z : Value} (h : Below w.heap.size w w1) : Below w.heap.size w (((w1.setCell ⟨w.heap.size, 0, none⟩ x).setCell ⟨w.heap.size, 1, none⟩ y).setCell ⟨w.heap.size, 2, none⟩ z) :=
  ((h.setCell (p := ⟨w.heap.size, 0, none⟩) (Nat.le_refl _) _).setCell (p := ⟨w.heap.size, 1, none⟩) (Nat.le_refl _) _).setCell (p := ⟨w.heap.size, 2, none⟩) (Nat.le_refl _) _
theorem res3 {w1 : World} {b : Nat} {x0 y0 z0 : Value} (h0 : w1.cell? ⟨b, 0, none⟩ = some x0) (h1 : w1.cell? ⟨b, 1, none⟩ = some y0) (h2 : w1.cell? ⟨b, 2, none⟩ = some z0) (x y z : Value) :
    (((w1.setCell ⟨b, 0, none⟩ x).setCell ⟨b, 1, none⟩ y).setCell ⟨b, 2, none⟩ z).cell? ⟨b, 0, none⟩ = some x ∧ (((w1.setCell ⟨b, 0, none⟩ x).setCell ⟨b, 1, none⟩ y).setCell ⟨b, 2, none⟩ z).cell? ⟨b, 1, none⟩ = some y ∧ (((w1.setCell ⟨b, 0, none⟩ x).setCell ⟨b, 1, none⟩ y).setCell ⟨b, 2, none⟩ z).cell? ⟨b, 2, none⟩ = some z := by
  have e01 : (⟨b, 0, none⟩ : Addr) ≠ ⟨b, 1, none⟩ := by simp
  have e02 : (⟨b, 0, none⟩ : Addr) ≠ ⟨b, 2, none⟩ := by simp
  have e12 : (⟨b, 1, none⟩ : Addr) ≠ ⟨b, 2, none⟩ := by simp
  refine ⟨?_, ?_, ?_⟩
  · rw [World.cell?_setCell_other _ _ _ _ e02.symm, World.cell?_setCell_other _ _ _ _ e01.symm, World.cell?_setCell_same _ _ _ h0]
  · rw [World.cell?_setCell_other _ _ _ _ e12.symm, World.cell?_setCell_same _ _ _ (by rw [World.cell?_setCell_other _ _ _ _ e01]; exact h1)]
  · rw [World.cell?_setCell_same _ _ _ (by rw [World.cell?_setCell_other _ _ _ _ e12, World.cell?_setCell_other _ _ _ _ e02]; exact h2)]
def rupV (p : List UInt8) : Value := .agg #[.string ⟨(upR p).1.toArray⟩, .string ⟨(upR p).2.1.toArray⟩, .bool (upR p).2.2]
end Go.Proofs.YtiffmigihhcgcaaGreatDoor.PathW
