/- The document's names: at, Find, List, Of, ahead; Same, Own; the program's List. -/
import Derived.Test.YtffigodlfmnbpaaDirSome
namespace Go.Proofs.Ytffigodlfmnbpaa.DirW
open Go.RowKit DirP
open PathW (nameB)
/-- the document's names in block qb, their list from block B on -/
structure QAt (w : World) (qb B : Nat) (v : Value) (L : List En) : Prop where
  head : w.heap[qb]? = some (.cells #[v] 44 (0, 0))
  row : RowK 66 encE 3 B w v L
  good : DGood L
def QIs (w : World) (qb B : Nat) (L : List En) : Prop := ∃ v, QAt w qb B v L
theorem QAt.lt {w : World} {qb B : Nat} {v : Value} {L : List En} (h : QAt w qb B v L) : qb < w.heap.size := lt_of_block h.head
theorem QAt.v0 {w : World} {qb B : Nat} {v : Value} {L : List En} (h : QAt w qb B v L) : w.cell? ⟨qb, 0, none⟩ = some v ∧ w.frozen? ⟨qb, 0, none⟩ = false := new_cells h.head 0 (by simp)
theorem QIs.lt {w : World} {qb B : Nat} {L : List En} (h : QIs w qb B L) : qb < w.heap.size := by obtain ⟨v, h⟩ := h; exact h.lt
theorem QIs.good {w : World} {qb B : Nat} {L : List En} (h : QIs w qb B L) : DGood L := by obtain ⟨v, h⟩ := h; exact h.good
theorem QIs.head {w : World} {qb B : Nat} {L : List En} (h : QIs w qb B L) : ∃ v, w.heap[qb]? = some (.cells #[v] 44 (0, 0)) := by obtain ⟨v, h⟩ := h; exact ⟨v, h.head⟩
theorem QIs.grow {w w' : World} {qb B : Nat} {L : List En} (h : QIs w qb B L) (k : Below w.heap.size w w') : QIs w' qb B L := by
  obtain ⟨v, h⟩ := h
  exact ⟨v, (k.block qb h.lt).trans h.head, h.row.grow k, h.good⟩
/-- calls that write two blocks, of another kind -/
theorem QIs.only2 {w w' : World} {qb B b c : Nat} {L : List En} (h : QIs w qb B L) (k : Only2 b c w w') (hb : ∃ es cl, w.heap[b]? = some (.map es cl)) (hc : ∃ es cl, w.heap[c]? = some (.map es cl)) : QIs w' qb B L := by
  obtain ⟨v, h⟩ := h
  obtain ⟨e1, l1, hb⟩ := hb
  obtain ⟨e2, l2, hc⟩ := hc
  have key : ∀ (x : Nat) (cs : Array Value) (t : TypeId) (m : Nat × Nat), w.heap[x]? = some (.cells cs t m) → w'.heap[x]? = some (.cells cs t m) := fun x cs t m hx =>
    k.heap hx (by rintro rfl; rw [hb] at hx; cases hx) (by rintro rfl; rw [hc] at hx; cases hx)
  refine ⟨v, key _ _ _ _ h.head, ⟨h.row.1, ?_⟩, h.good⟩
  rcases h.row.2 with ⟨e, hn⟩ | ⟨g, cap, cur, e, hB, hg, r⟩
  · exact .inl ⟨e, hn⟩
  · exact .inr ⟨g, cap, cur, e, hB, key _ _ _ _ hg, r⟩
def atN : List En → Int × ByteArray → Nat → Int
  | [], _, _ => -1
  | a :: l, x, k => if a.key = x then k else atN l x (k + 1)
def atI (L : List En) (x : Int × ByteArray) : Int := atN L x 0
theorem atN_none : ∀ {L : List En} {x : Int × ByteArray} {k : Nat}, lk L x = none → atN L x k = -1
  | [], _, _, _ => rfl
  | a :: l, x, k, h => by
    have h' := (lk_none (a :: l) x).1 h
    unfold atN
    rw [if_neg (h' a (by simp))]
    exact atN_none ((lk_none l x).2 fun b hb => h' b (by simp [hb]))
theorem atN_some : ∀ {L : List En} {x : Int × ByteArray} {k : Nat} {i : Int}, lk L x = some i → ∃ j : Nat, atN L x k = ((k + j : Nat) : Int) ∧ L[j]? = some ⟨x.1, x.2, i⟩
  | [], x, k, i, h => by simp [lk, Sl.look] at h
  | a :: l, x, k, i, h => by
    unfold atN
    by_cases e : a.key = x
    · refine ⟨0, by rw [if_pos e]; simp, ?_⟩
      simp only [lk, Sl.look, List.find?_cons, e, decide_true, Option.map_some, Option.some.injEq] at h
      subst h e
      rfl
    · have h' : lk l x = some i := by
        simpa only [lk, Sl.look, List.find?_cons, e, decide_false] using h
      obtain ⟨j, h1, h2⟩ := atN_some (k := k + 1) h'
      exact ⟨j + 1, by rw [if_neg e, h1]; congr 1; omega, by simpa using h2⟩
theorem at_none {L : List En} {x : Int × ByteArray} (h : lk L x = none) : atI L x = -1 := atN_none h
theorem at_some {L : List En} {x : Int × ByteArray} {i : Int} (h : lk L x = some i) : ∃ j : Nat, atI L x = (j : Int) ∧ L[j]? = some ⟨x.1, x.2, i⟩ := by
  obtain ⟨j, h1, h2⟩ := atN_some (k := 0) h
  exact ⟨j, by rw [Nat.zero_add] at h1; exact h1, h2⟩
theorem at_drop {L : List En} {k : Nat} {a : En} (h : L[k]? = some a) (x : Int × ByteArray) : atN (L.drop k) x k = if a.key = x then (k : Int) else atN (L.drop (k + 1)) x (k + 1) := by
  have hk : k < L.length := (List.getElem?_eq_some_iff.1 h).1
  rw [List.drop_eq_getElem_cons hk]
  have : L[k] = a := by rw [List.getElem?_eq_getElem hk] at h; exact Option.some.inj h
  rw [this]; rfl
theorem take_snoc {α : Type} {l : List α} {k : Nat} {x : α} (h : l[k]? = some x) : l.take (k + 1) = l.take k ++ [x] := by
  rw [List.take_add_one, h]; rfl
theorem filt_snoc {L : List En} {k : Nat} {x : En} (h : L[k]? = some x) (p : En → Bool) : (L.take (k + 1)).filter p = (L.take k).filter p ++ if p x = true then [x] else [] := by
  rw [take_snoc h, List.filter_append]
  by_cases e : p x = true
  · rw [if_pos e, List.filter_cons_of_pos e]; rfl
  · rw [if_neg e, List.filter_cons_of_neg e]; rfl
theorem str_beq {s t : ByteArray} : (s.toList == t.toList) = decide (s = t) := by
  rw [Bool.eq_iff_iff, beq_iff_eq, decide_eq_true_iff]
  exact ⟨str_eq, fun e => by rw [e]⟩
set_option maxHeartbeats 800000 in
theorem at_any (qb B : Nat) (L : List En) (hlen : L.length ≤ 100000) (d : Int) (s : ByteArray) (w : World) (h : QIs w qb B L) :
    Calls Try.prog 29 #[.pointer (some ⟨qb, 0, none⟩), .int .i64 d, .string s] w fun e w' => e = .returned (.int .i64 (atI L (d, s))) ∧ w = w' := by
  obtain ⟨v, h⟩ := h
  obtain ⟨oa, cap, rfl, hc, hc2, _⟩ := h.row.form
  have HP := Lib.hid (h.row.pts en_len (by omega))
  obtain ⟨p0, _⟩ := h.v0
  clear h
  go_enter Try.func29, Try.ntmps29
  go_wp2
  go_loop [7] (fun i => ∃ k : Nat, k ≤ L.length ∧ i = .int .i64 (k : Int) ∧ atI L (d, s) = atN (L.drop k) (d, s) k) (fun i => ((L.length : Int) - intOf i).toNat)
  case atStart => exact ⟨0, by omega, rfl, rfl⟩
  case round =>
    obtain ⟨k, hk, rfl, hat⟩ := hrel
    have HAT := Lib.hid hat
    clear hat
    by_cases hlt : k < L.length
    · obtain ⟨x, hx⟩ : ∃ x, L[k]? = some x := ⟨_, List.getElem?_eq_getElem hlt⟩
      obtain ⟨a, rfl, hab, c0, c1, c2⟩ := en_at HP.out hx
      have HX := Lib.hid (at_drop hx (d, s))
      clear hx
      by_cases e1 : x.d = d
      · have d1 : (x.d == d) = true := by rw [beq_iff_eq]; exact e1
        by_cases e2 : x.s = s
        · have d2 : (x.s.toList == s.toList) = true := by rw [str_beq]; exact decide_eq_true e2
          have HK : Hid (x.key = (d, s)) := Lib.hid (by unfold En.key; rw [e1, e2])
          clear e1 e2
          go_wp2
          go_ret
          exact ⟨ret_int (by rw [HAT.out, HX.out, if_pos HK.out]), rfl⟩
        · have d2 : (x.s.toList == s.toList) = false := by rw [str_beq]; exact decide_eq_false e2
          have HK : Hid (x.key ≠ (d, s)) := Lib.hid (by unfold En.key; simp [e2])
          clear e1 e2
          go_wp2
          go_round
          case rel => exact ⟨k + 1, by omega, by simp, by rw [HAT.out, HX.out, if_neg HK.out]⟩
          case measure => simp [intOf]; omega
      · have d1 : (x.d == d) = false := by simpa using e1
        have HK : Hid (x.key ≠ (d, s)) := Lib.hid (by unfold En.key; simp [e1])
        clear e1
        go_wp2
        go_round
        case rel => exact ⟨k + 1, by omega, by simp, by rw [HAT.out, HX.out, if_neg HK.out]⟩
        case measure => simp [intOf]; omega
    · obtain rfl : k = L.length := by omega
      rw [List.drop_length] at HAT
      go_wp2
      go_ret
      exact ⟨ret_int (by rw [HAT.out]; rfl), rfl⟩
set_option maxHeartbeats 800000 in
theorem rfind_any (qb B : Nat) (L : List En) (hlen : L.length ≤ 100000) (d : Int) (s : ByteArray) (w : World) (h : QIs w qb B L) :
    Calls Try.prog 17 #[.pointer (some ⟨qb, 0, none⟩), .int .i64 d, .string s] w fun e w' => e = .returned (.tuple #[.int .i64 (fiI L d s), .bool (fiB L d s)]) ∧ w = w' := by
  have HQ := Lib.hid h
  have HLEN := Lib.hid hlen
  obtain ⟨v, h⟩ := h
  obtain ⟨oa, cap, rfl, hc, hc2, _⟩ := h.row.form
  have HP := Lib.hid (h.row.pts en_len (by omega))
  obtain ⟨p0, _⟩ := h.v0
  clear h
  cases hl : lk L (d, s) with
  | none =>
    have HE : Hid (fiI L d s = 0 ∧ fiB L d s = false) := Lib.hid (by unfold fiI fiB; rw [hl]; exact ⟨rfl, rfl⟩)
    have HA := Lib.hid (at_none hl)
    clear hl
    go_enter Try.func17, Try.ntmps17
    go_wp2_with (go_at_call 29; refine (at_any _ _ _ HLEN.out _ _ _ HQ.out).mono ?_; rintro e w2 ⟨rfl, rfl⟩; rw [HA.out])
    go_ret2
    exact ⟨by rw [HE.out.1, HE.out.2]; rfl, rfl⟩
  | some i =>
    have HE : Hid (fiI L d s = i ∧ fiB L d s = true) := Lib.hid (by unfold fiI fiB; rw [hl]; exact ⟨rfl, rfl⟩)
    obtain ⟨j, hj, hx⟩ := at_some hl
    have HA := Lib.hid hj
    obtain ⟨a, rfl, hab, c0, c1, c2⟩ := en_at HP.out hx
    have hjl : j < L.length := (List.getElem?_eq_some_iff.1 hx).1
    simp only at c2
    clear hl hj hx
    go_enter Try.func17, Try.ntmps17
    go_wp2_with (go_at_call 29; refine (at_any _ _ _ HLEN.out _ _ _ HQ.out).mono ?_; rintro e w2 ⟨rfl, rfl⟩; rw [HA.out])
    go_ret2
    exact ⟨by rw [HE.out.1, HE.out.2]; rfl, rfl⟩
def encS (s : ByteArray) : List Value := [.string s]
theorem st_len (s : ByteArray) : (encS s).length = 1 := rfl
theorem st_one (s : ByteArray) : ∀ v ∈ encS s, v.oneCell' = true := by intro v hv; simp [encS] at hv; rw [hv]; rfl
theorem str_info : (Try.prog.info? 9).map (fun i => (i.zero, i.size, i.bytes)) = some (some (.string ByteArray.empty), 1, 16) := by kernel_rfl
theorem ren_info : (Try.prog.info? 66).map (fun i => (i.zero, i.size, i.bytes)) = some (some (.agg #[.int .i64 0, .string ByteArray.empty, .int .i64 0]), 3, 32) := by kernel_rfl
/-- the names in a directory -/
def namesL (L : List En) (d : Int) : List ByteArray := (L.filter fun a => decide (a.d = d)).map (·.s)
theorem names_snoc {L : List En} {k : Nat} {x : En} (h : L[k]? = some x) (d : Int) : namesL (L.take (k + 1)) d = namesL (L.take k) d ++ if x.d = d then [x.s] else [] := by
  unfold namesL
  rw [filt_snoc h, List.map_append]
  by_cases e : x.d = d <;> simp [e]
theorem names_len (L : List En) (d : Int) : (namesL L d).length = cnt L d := by
  unfold namesL cnt
  rw [List.length_map, List.countP_eq_length_filter]
theorem cnt_le (L : List En) (d : Int) : cnt L d ≤ L.length := List.countP_le_length
set_option maxHeartbeats 1600000 in
theorem rlist_any (qb B : Nat) (L : List En) (hlen : L.length ≤ 100000) (d : Int) (w : World) (h : QIs w qb B L) :
    Calls Try.prog 20 #[.pointer (some ⟨qb, 0, none⟩), .int .i64 d] w fun e w' => ∃ v, e = .returned v ∧ RowK 9 encS 1 w.heap.size w' v (namesL L d) ∧ Below w.heap.size w w' := by
  obtain ⟨i0, hi, hz0, hz1, hz2⟩ := info_parts str_info
  obtain ⟨v, h⟩ := h
  obtain ⟨oa, cap, rfl, hc, hc2, _⟩ := h.row.form
  have HP := Lib.hid (h.row.pts en_len (by omega))
  have HQ0 := Lib.hid h.v0.1
  clear h
  go_enter Try.func20, Try.ntmps20
  go_wp2_with fail
  go_loopw [5, 6] (fun v i wr => ∃ k : Nat, k ≤ L.length ∧ i = .int .i64 (k : Int) ∧ RowK 9 encS 1 w.heap.size wr v (namesL (L.take k) d) ∧ Below w.heap.size w wr) (fun _ i _ => ((L.length : Int) - intOf i).toNat)
  case atStart => exact ⟨0, by omega, rfl, RowK.nil _ _, Below.refl _ _⟩
  case round =>
    obtain ⟨k, hk, rfl, hrow, hbel⟩ := hrel
    have HB := Lib.hid hbel
    have hsz := hbel.size
    have p0 := cell_step hbel HQ0.out
    clear hbel
    by_cases hlt : k < L.length
    · obtain ⟨x, hx⟩ : ∃ x, L[k]? = some x := ⟨_, List.getElem?_eq_getElem hlt⟩
      obtain ⟨a, rfl, hab, c0, c1, c2⟩ := en_at (HP.out.below HB.out) hx
      have HN := Lib.hid (names_snoc hx d)
      have hnl : (namesL (L.take k) d).length ≤ 100000 := by
        rw [names_len]
        have := cnt_le (L.take k) d
        have : (L.take k).length ≤ k := List.length_take_le _ _
        omega
      obtain ⟨xd, xs, xi⟩ := x
      simp only at c0 c1 c2 HN
      obtain ⟨oa2, cap2, rfl, hcc, _, _⟩ := hrow.form
      generalize namesL (L.take k) d = J at hrow HN hnl hcc
      have HOWN : Hid (wr.ownsRow w.heap.size 9 1 (.slice oa2 J.length cap2) J.length (J.flatMap encS)) := Lib.hid hrow
      have HX := Lib.hid hx
      clear hrow hx
      by_cases he : xd = d
      · have hd : (xd == d) = true := by rw [beq_iff_eq]; exact he
        have HN2 : Hid (namesL (L.take (k + 1)) d = J ++ [xs]) := Lib.hid (by rw [HN.out, if_pos he])
        clear he
        go_wp2_with (at_builtin; go_loud (refine wpList_append_newB rfl _ _ 48 rfl w.heap.size 9 i0 (.string ByteArray.empty) 1 16 Try.underlying48 hi hz0 hz1 hz2 rfl (by decide) _ _ _ (by rfl) HOWN.out _ 1 1 (by rfl) rfl (st_one xs) (by unfold maxLen; omega) (by omega) hsz (by simp) ?_; intro oa6 cap6 w6 hown6 hbel6 _; have HS6 := Lib.hid hown6; have HB6 := Lib.hid hbel6; clear hown6 hbel6))
        exact ⟨⟨k + 1, by omega, by simp, by rw [HN2.out]; exact RowK.snoc (enc := encS) (l := J) xs rfl rfl HS6.out, HB.out.trans HB6.out⟩, by simp [intOf]; omega⟩
      · have hd : (xd == d) = false := by simpa using he
        have HN2 : Hid (namesL (L.take (k + 1)) d = J) := Lib.hid (by rw [HN.out, if_neg he]; simp)
        clear he
        go_wp2_with fail
        exact ⟨⟨k + 1, by omega, by simp, by rw [HN2.out]; exact HOWN.out, HB.out⟩, by simp [intOf]; omega⟩
    · obtain rfl : k = L.length := by omega
      rw [List.take_length] at hrow
      have HR := Lib.hid hrow
      clear hrow
      go_wp2_with fail
      go_ret
      exact ⟨_, rfl, HR.out, HB.out⟩
set_option maxHeartbeats 1600000 in
theorem rof_any (qb B : Nat) (L : List En) (hlen : L.length ≤ 100000) (d : Int) (w : World) (h : QIs w qb B L) :
    Calls Try.prog 23 #[.pointer (some ⟨qb, 0, none⟩), .int .i64 d] w fun e w' => ∃ v, e = .returned v ∧ RowK 66 encE 3 w.heap.size w' v (L.filter fun a => decide (a.i = d)) ∧ Below w.heap.size w w' := by
  obtain ⟨i0, hi, hz0, hz1, hz2⟩ := info_parts ren_info
  obtain ⟨v, h⟩ := h
  obtain ⟨oa, cap, rfl, hc, hc2, _⟩ := h.row.form
  have HP := Lib.hid (h.row.pts en_len (by omega))
  have HQ0 := Lib.hid h.v0.1
  clear h
  go_enter Try.func23, Try.ntmps23
  go_wp2_with fail
  go_loopw [5, 6] (fun v i wr => ∃ k : Nat, k ≤ L.length ∧ i = .int .i64 (k : Int) ∧ RowK 66 encE 3 w.heap.size wr v ((L.take k).filter fun a => decide (a.i = d)) ∧ Below w.heap.size w wr) (fun _ i _ => ((L.length : Int) - intOf i).toNat)
  case atStart => exact ⟨0, by omega, rfl, RowK.nil _ _, Below.refl _ _⟩
  case round =>
    obtain ⟨k, hk, rfl, hrow, hbel⟩ := hrel
    have HB := Lib.hid hbel
    have hsz := hbel.size
    have p0 := cell_step hbel HQ0.out
    clear hbel
    by_cases hlt : k < L.length
    · obtain ⟨x, hx⟩ : ∃ x, L[k]? = some x := ⟨_, List.getElem?_eq_getElem hlt⟩
      obtain ⟨a, rfl, hab, c0, c1, c2⟩ := en_at (HP.out.below HB.out) hx
      have HN := Lib.hid (filt_snoc hx (fun a => decide (a.i = d)))
      have hnl : ((L.take k).filter fun a => decide (a.i = d)).length ≤ 100000 := by
        have := List.length_filter_le (fun a : En => decide (a.i = d)) (L.take k)
        have : (L.take k).length ≤ k := List.length_take_le _ _
        omega
      obtain ⟨xd, xs, xi⟩ := x
      simp only at c0 c1 c2 HN
      obtain ⟨oa2, cap2, rfl, hcc, _, _⟩ := hrow.form
      generalize (L.take k).filter (fun a => decide (a.i = d)) = J at hrow HN hnl hcc
      have HOWN : Hid (wr.ownsRow w.heap.size 66 3 (.slice oa2 J.length cap2) J.length (J.flatMap encE)) := Lib.hid hrow
      have HX := Lib.hid hx
      clear hrow hx
      by_cases he : xi = d
      · have hd : (xi == d) = true := by rw [beq_iff_eq]; exact he
        have HN2 : Hid ((L.take (k + 1)).filter (fun a => decide (a.i = d)) = J ++ [⟨xd, xs, xi⟩]) := Lib.hid (by rw [HN.out, if_pos (by simp [he])])
        clear he
        go_wp2_with (at_builtin; go_loud (refine wpList_append_newB rfl _ _ 42 rfl w.heap.size 66 i0 (.agg #[.int .i64 0, .string ByteArray.empty, .int .i64 0]) 3 32 Try.underlying42 hi hz0 hz1 hz2 rfl (by decide) _ _ _ (by rfl) HOWN.out _ 1 1 (by rfl) rfl (en_one ⟨xd, xs, xi⟩) (by unfold maxLen; omega) (by omega) hsz (by simp) ?_; intro oa6 cap6 w6 hown6 hbel6 _; have HS6 := Lib.hid hown6; have HB6 := Lib.hid hbel6; clear hown6 hbel6))
        exact ⟨⟨k + 1, by omega, by simp, by rw [HN2.out]; exact RowK.snoc (enc := encE) (l := J) (⟨xd, xs, xi⟩ : En) rfl rfl HS6.out, HB.out.trans HB6.out⟩, by simp [intOf]; omega⟩
      · have hd : (xi == d) = false := by simpa using he
        have HN2 : Hid ((L.take (k + 1)).filter (fun a => decide (a.i = d)) = J) := Lib.hid (by rw [HN.out, if_neg (by simp [he])]; simp)
        clear he
        go_wp2_with fail
        exact ⟨⟨k + 1, by omega, by simp, by rw [HN2.out]; exact HOWN.out, HB.out⟩, by simp [intOf]; omega⟩
    · obtain rfl : k = L.length := by omega
      rw [List.take_length] at hrow
      have HR := Lib.hid hrow
      clear hrow
      go_wp2_with fail
      go_ret
      exact ⟨_, rfl, HR.out, HB.out⟩
end Go.Proofs.Ytffigodlfmnbpaa.DirW
