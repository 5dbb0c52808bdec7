/- The reference's handles: at, Count, Of, Lease, Renew. -/
import Derived.Test.YtjfdbcmmmoipcaaHanOps
namespace Go.Proofs.Ytjfdbcmmmoipcaa.HanW
open Go.RowKit HanP
def qCells (v : Value) (ls : List Int) : Array Value := (v :: ls.map (Value.int .i64)).toArray
/-- the document's handles in block qb, their list from block B on -/
structure QAt (w : World) (qb B : Nat) (v : Value) (L : List Ha) (ls : List Int) : Prop where
  head : w.heap[qb]? = some (.cells (qCells v ls) 48 (0, 0))
  row : RowK 67 encHa 3 B w v L
  good : HGood L ls
def QIs (w : World) (qb B : Nat) (L : List Ha) (ls : List Int) : Prop := ∃ v, QAt w qb B v L ls
theorem QAt.lt {w : World} {qb B : Nat} {v : Value} {L : List Ha} {ls : List Int} (h : QAt w qb B v L ls) : qb < w.heap.size := lt_of_block h.head
theorem QAt.v0 {w : World} {qb B : Nat} {v : Value} {L : List Ha} {ls : List Int} (h : QAt w qb B v L ls) : w.cell? ⟨qb, 0, none⟩ = some v ∧ w.frozen? ⟨qb, 0, none⟩ = false := by
  refine ⟨?_, Lib.frozen_of_heap h.head _⟩
  rw [Lib.cell_of_heap h.head]; simp [qCells]
theorem QAt.lease {w : World} {qb B : Nat} {v : Value} {L : List Ha} {ls : List Int} (h : QAt w qb B v L ls) {c : Nat} (hc : c < 8) : w.cell? ⟨qb, 1 + c, none⟩ = some (.int .i64 (ls.getD c 0)) ∧ w.frozen? ⟨qb, 1 + c, none⟩ = false := by
  have h8 := h.good.l8
  refine ⟨?_, Lib.frozen_of_heap h.head _⟩
  rw [Lib.cell_of_heap h.head, Nat.add_comm]
  have : c < ls.length := by omega
  simp [qCells, List.getD, this]
theorem QAt.ne {w : World} {qb B : Nat} {v : Value} {L : List Ha} {ls : List Int} (h : QAt w qb B v L ls) : v.ownBlock ≠ some qb := by
  rcases h.row.2 with ⟨e, _⟩ | ⟨g, cap, cur, e, _, hg, _⟩
  · rw [e]; simp [Value.ownBlock]
  · rw [e]
    simp only [Value.ownBlock]
    intro e2
    injection e2 with e2
    rw [e2, h.head] at hg
    injection hg with hg
    injection hg with _ h6 _
    exact absurd h6 (by decide)
theorem QIs.lt {w : World} {qb B : Nat} {L : List Ha} {ls : List Int} (h : QIs w qb B L ls) : qb < w.heap.size := by obtain ⟨v, h⟩ := h; exact h.lt
theorem QIs.good {w : World} {qb B : Nat} {L : List Ha} {ls : List Int} (h : QIs w qb B L ls) : HGood L ls := by obtain ⟨v, h⟩ := h; exact h.good
theorem QIs.grow {w w' : World} {qb B : Nat} {L : List Ha} {ls : List Int} (h : QIs w qb B L ls) (k : Below w.heap.size w w') : QIs w' qb B L ls := by
  obtain ⟨v, h⟩ := h
  exact ⟨v, (k.block qb h.lt).trans h.head, h.row.grow k, h.good⟩
/-- a call that writes one block, of another kind -/
theorem QIs.only {w w' : World} {qb B c : Nat} {L : List Ha} {ls : List Int} (h : QIs w qb B L ls) (k : Only c w w') (h1 : qb ≠ c) (h2 : ∀ cs m, w.heap[c]? ≠ some (.cells cs 67 m)) : QIs w' qb B L ls := by
  obtain ⟨v, h⟩ := h
  refine ⟨v, Only.heap k h.head h1, k.keepRow h.row ?_, h.good⟩
  rcases h.row.2 with ⟨e, _⟩ | ⟨g, cap, cur, e, _, hg, _⟩
  · rw [e]; simp [Value.ownBlock]
  · rw [e]
    simp only [Value.ownBlock]
    intro e2
    injection e2 with e2
    rw [e2] at hg
    exact h2 _ _ hg
def atN : List Ha → Int × Int → Nat → Int
  | [], _, _ => -1
  | a :: l, x, k => if a.key = x then k else atN l x (k + 1)
def atI (L : List Ha) (x : Int × Int) : Int := atN L x 0
theorem atN_none : ∀ {L : List Ha} {x : Int × Int} {k : Nat}, HanP.look L x = none → atN L x k = -1
  | [], _, _, _ => rfl
  | a :: l, x, k, h => by
    have h' := (look_none (L := a :: l) x).1 h
    unfold atN
    rw [if_neg (h' a (by simp))]
    exact atN_none ((look_none x).2 fun b hb => h' b (by simp [hb]))
theorem atN_some : ∀ {L : List Ha} {x : Int × Int} {k : Nat} {i : Int}, HanP.look L x = some i → ∃ j : Nat, atN L x k = ((k + j : Nat) : Int) ∧ L[j]? = some ⟨x.1, x.2, i⟩
  | [], x, k, i, h => by simp [HanP.look] at h
  | a :: l, x, k, i, h => by
    unfold atN
    by_cases e : a.key = x
    · refine ⟨0, by rw [if_pos e]; simp, ?_⟩
      simp only [HanP.look, List.find?_cons, e, decide_true, Option.map_some, Option.some.injEq] at h
      subst h e
      rfl
    · have h' : HanP.look l x = some i := by
        simpa only [HanP.look, List.find?_cons, e, decide_false] using h
      obtain ⟨j, h1, h2⟩ := atN_some (k := k + 1) h'
      exact ⟨j + 1, by rw [if_neg e, h1]; congr 1; omega, by simpa using h2⟩
theorem at_none {L : List Ha} {x : Int × Int} (h : HanP.look L x = none) : atI L x = -1 := atN_none h
theorem at_some {L : List Ha} {x : Int × Int} {i : Int} (h : HanP.look L x = some i) : ∃ j : Nat, atI L x = (j : Int) ∧ L[j]? = some ⟨x.1, x.2, i⟩ := by
  obtain ⟨j, h1, h2⟩ := atN_some (k := 0) h
  exact ⟨j, by rw [Nat.zero_add] at h1; exact h1, h2⟩
theorem at_drop {L : List Ha} {k : Nat} {a : Ha} (h : L[k]? = some a) (x : Int × Int) : atN (L.drop k) x k = if a.key = x then (k : Int) else atN (L.drop (k + 1)) x (k + 1) := by
  have hk : k < L.length := (List.getElem?_eq_some_iff.1 h).1
  rw [List.drop_eq_getElem_cons hk]
  have : L[k] = a := by rw [List.getElem?_eq_getElem hk] at h; exact Option.some.inj h
  rw [this]; rfl
set_option maxHeartbeats 800000 in
theorem at_any (qb B : Nat) (L : List Ha) (ls : List Int) (c n : Int) (w : World) (h : QIs w qb B L ls) :
    Calls Try.prog 31 #[.pointer (some ⟨qb, 0, none⟩), .int .i64 c, .int .i64 n] w fun e w' => e = .returned (.int .i64 (atI L (c, n))) ∧ w = w' := by
  obtain ⟨v, h⟩ := h
  have hlen := h.good.len
  obtain ⟨oa, cap, rfl, hc, hc2, _⟩ := h.row.form
  have HP := Lib.hid (h.row.pts ha_len (by omega))
  obtain ⟨p0, _⟩ := h.v0
  clear h
  go_enter Try.func31, Try.ntmps31
  go_wp2
  go_loop [7] (fun i => ∃ k : Nat, k ≤ L.length ∧ i = .int .i64 (k : Int) ∧ atI L (c, n) = atN (L.drop k) (c, n) k) (fun i => ((L.length : Int) - intOf i).toNat)
  case atStart => exact ⟨0, by omega, rfl, rfl⟩
  case round =>
    obtain ⟨k, hk, rfl, hat⟩ := hrel
    have HAT := Lib.hid hat
    clear hat
    by_cases hlt : k < L.length
    · obtain ⟨x, hx⟩ : ∃ x, L[k]? = some x := ⟨_, List.getElem?_eq_getElem hlt⟩
      obtain ⟨a, rfl, hab, c0, c1, c2⟩ := ha_at HP.out hx
      have HX := Lib.hid (at_drop hx (c, n))
      clear hx
      by_cases e1 : x.c = c
      · by_cases e2 : x.n = n
        · have d1 : (x.c == c) = true := by rw [beq_iff_eq]; exact e1
          have d2 : (x.n == n) = true := by rw [beq_iff_eq]; exact e2
          have HK : Hid (x.key = (c, n)) := Lib.hid (by unfold Ha.key; rw [e1, e2])
          clear e1 e2
          go_wp2
          go_ret
          exact ⟨ret_int (by rw [HAT.out, HX.out, if_pos HK.out]), rfl⟩
        · have d1 : (x.c == c) = true := by rw [beq_iff_eq]; exact e1
          have d2 : (x.n == n) = false := by simpa using e2
          have HK : Hid (x.key ≠ (c, n)) := Lib.hid (by unfold Ha.key; simp [e2])
          clear e1 e2
          go_wp2
          go_round
          case rel => exact ⟨k + 1, by omega, by simp, by rw [HAT.out, HX.out, if_neg HK.out]⟩
          case measure => simp [intOf]; omega
      · have d1 : (x.c == c) = false := by simpa using e1
        have HK : Hid (x.key ≠ (c, n)) := Lib.hid (by unfold Ha.key; simp [e1])
        clear e1
        go_wp2
        go_round
        case rel => exact ⟨k + 1, by omega, by simp, by rw [HAT.out, HX.out, if_neg HK.out]⟩
        case measure => simp [intOf]; omega
    · obtain rfl : k = L.length := by omega
      rw [List.drop_length] at HAT
      go_wp2
      go_ret
      exact ⟨ret_int (by rw [HAT.out]; rfl), rfl⟩
set_option maxHeartbeats 800000 in
theorem rcount_any (qb B : Nat) (L : List Ha) (ls : List Int) (c : Int) (w : World) (h : QIs w qb B L ls) :
    Calls Try.prog 24 #[.pointer (some ⟨qb, 0, none⟩), .int .i64 c] w fun e w' => e = .returned (.int .i64 (count L c : Nat)) ∧ w = w' := by
  obtain ⟨v, h⟩ := h
  have hlen := h.good.len
  obtain ⟨oa, cap, rfl, hc, hc2, _⟩ := h.row.form
  have HP := Lib.hid (h.row.pts ha_len (by omega))
  obtain ⟨p0, _⟩ := h.v0
  clear h
  go_enter Try.func24, Try.ntmps24
  go_wp2
  go_loop [5, 6] (fun m i => ∃ k : Nat, k ≤ L.length ∧ i = .int .i64 (k : Int) ∧ m = .int .i64 (count (L.take k) c : Nat)) (fun _ i => ((L.length : Int) - intOf i).toNat)
  case atStart => exact ⟨0, by omega, rfl, rfl⟩
  case round =>
    obtain ⟨k, hk, rfl, rfl⟩ := hrel
    by_cases hlt : k < L.length
    · obtain ⟨x, hx⟩ : ∃ x, L[k]? = some x := ⟨_, List.getElem?_eq_getElem hlt⟩
      obtain ⟨a, rfl, hab, c0, c1, c2⟩ := ha_at HP.out hx
      have HC := Lib.hid (count_snoc hx c)
      have hcl := count_le (L.take k) c
      have hcl2 : (L.take k).length ≤ k := List.length_take_le _ _
      generalize count (L.take k) c = m at HC hcl ⊢
      clear hx
      by_cases he : x.c = c
      · have hd : (x.c == c) = true := by rw [beq_iff_eq]; exact he
        have HM : Hid (count (L.take (k + 1)) c = m + 1) := Lib.hid (by rw [HC.out, if_pos he])
        clear he
        go_wp2
        go_round
        case rel => exact ⟨k + 1, by omega, by simp, by rw [HM.out]; simp⟩
        case measure => simp [intOf]; omega
      · have hd : (x.c == c) = false := by simpa using he
        have HM : Hid (count (L.take (k + 1)) c = m) := Lib.hid (by rw [HC.out, if_neg he]; rfl)
        clear he
        go_wp2
        go_round
        case rel => exact ⟨k + 1, by omega, by simp, by rw [HM.out]⟩
        case measure => simp [intOf]; omega
    · obtain rfl : k = L.length := by omega
      rw [List.take_length]
      go_wp2
      go_ret
      exact ⟨rfl, rfl⟩
set_option maxHeartbeats 800000 in
theorem rof_any (qb B : Nat) (L : List Ha) (ls : List Int) (c n : Int) (w : World) (h : QIs w qb B L ls) :
    Calls Try.prog 23 #[.pointer (some ⟨qb, 0, none⟩), .int .i64 c, .int .i64 n] w fun e w' => e = .returned (.tuple #[.int .i64 (ofI L c n), .bool (ofB L c n)]) ∧ w = w' := by
  have HQ := Lib.hid h
  obtain ⟨v, h⟩ := h
  have hlen := h.good.len
  obtain ⟨oa, cap, rfl, hc, hc2, _⟩ := h.row.form
  have HP := Lib.hid (h.row.pts ha_len (by omega))
  obtain ⟨p0, _⟩ := h.v0
  clear h
  cases hl : HanP.look L (c, n) with
  | none =>
    have HE : Hid (ofI L c n = 0 ∧ ofB L c n = false) := Lib.hid (by unfold ofI ofB; rw [hl]; exact ⟨rfl, rfl⟩)
    have HA := Lib.hid (at_none hl)
    clear hl
    go_enter Try.func23, Try.ntmps23
    go_wp2_with (go_at_call 31; refine (at_any _ _ _ _ _ _ _ HQ.out).mono ?_; rintro e w2 ⟨rfl, rfl⟩; rw [HA.out])
    go_ret2
    exact ⟨by rw [HE.out.1, HE.out.2]; rfl, rfl⟩
  | some i =>
    have HE : Hid (ofI L c n = i ∧ ofB L c n = true) := Lib.hid (by unfold ofI ofB; rw [hl]; exact ⟨rfl, rfl⟩)
    obtain ⟨j, hj, hx⟩ := at_some hl
    have HA := Lib.hid hj
    obtain ⟨a, rfl, hab, c0, c1, c2⟩ := ha_at HP.out hx
    have hjl : j < L.length := (List.getElem?_eq_some_iff.1 hx).1
    simp only at c2
    clear hl hj hx
    go_enter Try.func23, Try.ntmps23
    go_wp2_with (go_at_call 31; refine (at_any _ _ _ _ _ _ _ HQ.out).mono ?_; rintro e w2 ⟨rfl, rfl⟩; rw [HA.out])
    go_ret2
    exact ⟨by rw [HE.out.1, HE.out.2]; rfl, rfl⟩
set_option maxHeartbeats 400000 in
theorem rlease_any (qb B : Nat) (L : List Ha) (ls : List Int) (c : Int) (w : World) (h : QIs w qb B L ls) :
    Calls Try.prog 25 #[.pointer (some ⟨qb, 0, none⟩), .int .i64 c] w fun e w' => e = .returned (.int .i64 (leaseI ls c)) ∧ w = w' := by
  obtain ⟨v, h⟩ := h
  by_cases hc : 0 ≤ c ∧ c < 8
  · obtain ⟨k, rfl⟩ : ∃ k : Nat, c = k := ⟨c.toNat, by omega⟩
    have hk : k < 8 := by omega
    have hki : (k : Int) < 8 := by omega
    have HE : Hid (leaseI ls k = ls.getD k 0) := Lib.hid (by unfold leaseI; rw [if_pos hc]; simp)
    obtain ⟨p1, p2⟩ := h.lease hk
    clear h hc
    go_enter Try.func25, Try.ntmps25
    go_wp2
    go_ret
    exact ⟨ret_int (by rw [HE.out]; simp), rfl⟩
  · have HE : Hid (leaseI ls c = 0) := Lib.hid (by unfold leaseI; rw [if_neg hc])
    by_cases h1 : c < 0
    · clear h hc
      go_enter Try.func25, Try.ntmps25
      go_wp2
      go_ret
      exact ⟨ret_int HE.out.symm, rfl⟩
    · have h2 : 8 ≤ c := by omega
      have h3 : 0 ≤ c := by omega
      clear h hc h1
      go_enter Try.func25, Try.ntmps25
      go_wp2
      go_ret
      exact ⟨ret_int HE.out.symm, rfl⟩
end Go.Proofs.Ytjfdbcmmmoipcaa.HanW
