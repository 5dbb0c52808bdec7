/- Handles in memory: what they are; client, New, Of, Lease, Close, Renew. -/
import Derived.Test.YtjfdbcmmmoipcaaHanMap
import Derived.Test.YtjfdbcmmmoipcaaHanPlain
import Derived.Test.YtjfdbcmmmoipcaaHeld
import Derived.Test.YtjfdbcmmmoipcaaAppend
import Derived.Test.YtjfdbcmmmoipcaaRowK
namespace Go.Proofs.Ytjfdbcmmmoipcaa.HanW
open Go.RowKit HanP
structure HGood (L : List Ha) (ls : List Int) : Prop where
  rises : Rises L
  fits : ∀ a ∈ L, 0 ≤ a.c ∧ a.c < 8 ∧ 0 ≤ a.n ∧ a.n < 16384 ∧ 1 ≤ a.i ∧ a.i ≤ 2147483647
  few : ∀ c, count L c ≤ 16
  l8 : ls.length = 8
  lb : ∀ x ∈ ls, 0 ≤ x ∧ x ≤ 1099511627776
def hCells (b : Nat) (ls : List Int) : Array Value := (Value.map (some b) :: ls.map (Value.int .i64)).toArray
/-- handles in block hb, their map in block b -/
structure HIs (w : World) (hb b : Nat) (L : List Ha) (ls : List Int) : Prop where
  head : w.heap[hb]? = some (.cells (hCells b ls) 60 (0, 0))
  map : ∃ n, HaIs w b n (HanP.look L)
  good : HGood L ls
theorem HIs.ne {w : World} {hb b : Nat} {L : List Ha} {ls : List Int} (h : HIs w hb b L ls) : hb ≠ b := by
  rintro rfl
  obtain ⟨n, es, clock, hm, _⟩ := h.map
  rw [h.head] at hm; cases hm
theorem HIs.lt {w : World} {hb b : Nat} {L : List Ha} {ls : List Int} (h : HIs w hb b L ls) : hb < w.heap.size ∧ b < w.heap.size := by
  obtain ⟨n, hm⟩ := h.map
  exact ⟨lt_of_block h.head, MapIs.lt hm⟩
theorem HIs.grow {w w' : World} {hb b : Nat} {L : List Ha} {ls : List Int} (h : HIs w hb b L ls) (k : Below w.heap.size w w') : HIs w' hb b L ls :=
  ⟨(k.block hb h.lt.1).trans h.head, by obtain ⟨n, hm⟩ := h.map; exact ⟨n, MapIs.keep hm k⟩, h.good⟩
theorem HIs.only {w w' : World} {hb b c : Nat} {L : List Ha} {ls : List Int} (h : HIs w hb b L ls) (k : Only c w w') (h1 : hb ≠ c) (h2 : b ≠ c) : HIs w' hb b L ls :=
  ⟨Only.heap k h.head h1, by obtain ⟨n, hm⟩ := h.map; exact ⟨n, MapIs.only hm k h2⟩, h.good⟩
theorem HIs.m0 {w : World} {hb b : Nat} {L : List Ha} {ls : List Int} (h : HIs w hb b L ls) : w.cell? ⟨hb, 0, none⟩ = some (.map (some b)) := by
  rw [Lib.cell_of_heap h.head]; simp [hCells]
theorem HIs.lease {w : World} {hb b : Nat} {L : List Ha} {ls : List Int} (h : HIs w hb b L ls) {c : Nat} (hc : c < 8) : w.cell? ⟨hb, 1 + c, none⟩ = some (.int .i64 (ls.getD c 0)) ∧ w.frozen? ⟨hb, 1 + c, none⟩ = false := by
  have h8 := h.good.l8
  refine ⟨?_, Lib.frozen_of_heap h.head _⟩
  rw [Lib.cell_of_heap h.head, Nat.add_comm]
  have : c < ls.length := by omega
  simp [hCells, List.getD, this]
theorem lease_bd {ls : List Int} (h : ∀ x ∈ ls, 0 ≤ x ∧ x ≤ 1099511627776) (c : Nat) : 0 ≤ ls.getD c 0 ∧ ls.getD c 0 ≤ 1099511627776 := by
  by_cases hc : c < ls.length
  · have : ls.getD c 0 = ls[c] := by simp [List.getD, hc]
    rw [this]; exact h _ (List.getElem_mem hc)
  · have : ls.getD c 0 = 0 := by simp [List.getD, hc]
    rw [this]; omega
def clB (n : Int) : Bool := decide (0 ≤ n ∧ n < 8)
theorem client_is (n : Int) (b : Bool) (hb : clB n = b) (w : World) : Calls Try.prog 26 #[.int .i64 n] w fun e w' => e = .returned (.bool b) ∧ w = w' := by
  by_cases h1 : 0 ≤ n
  · by_cases h2 : n < 8
    · obtain rfl : b = true := by rw [← hb]; exact decide_eq_true ⟨h1, h2⟩
      clear hb
      go_enter Try.func26, Try.ntmps26
      go_wp2
      go_ret
      exact ⟨rfl, rfl⟩
    · obtain rfl : b = false := by rw [← hb]; exact decide_eq_false fun h => h2 h.2
      have h2' : decide (n < 8) = false := decide_eq_false h2
      clear hb h2
      go_enter Try.func26, Try.ntmps26
      go_wp2
      go_ret
      exact ⟨rfl, rfl⟩
  · obtain rfl : b = false := by rw [← hb]; exact decide_eq_false fun h => h1 h.1
    clear hb
    go_enter Try.func26, Try.ntmps26
    go_wp2
    go_ret
    exact ⟨rfl, rfl⟩
theorem good_nil : HGood [] (List.replicate 8 0) where
  rises := List.Pairwise.nil
  fits := by simp
  few c := by simp [count]
  l8 := by simp
  lb x hx := by have := List.eq_of_mem_replicate hx; omega
set_option maxHeartbeats 400000 in
theorem new_any (w : World) : Calls Try.prog 7 #[] w fun e w' => e = .returned (.pointer (some ⟨w.heap.size + 1, 0, none⟩)) ∧ HIs w' (w.heap.size + 1) w.heap.size [] (List.replicate 8 0) ∧ Below w.heap.size w w' := by
  have hmm := @run_makeMap Try.prog
  have H0 : Hid (HaIs (w.alloc (.map #[] 0)) w.heap.size 0 (fun _ => none)) := Lib.hid (MapIs.made w)
  go_enter Try.func7, Try.ntmps7
  go_wp2
  go_ret
  refine ⟨rfl, ⟨?_, ⟨0, MapIs.congr (MapIs.keep H0.out (below_alloc _ _)) (by funext x; simp [HanP.look])⟩, good_nil⟩, bstep (below_alloc w _) (below_alloc _ _)⟩
  have := heap_alloc_new (w.alloc (.map #[] 0)) (.cells (hCells w.heap.size (List.replicate 8 0)) 60)
  rw [show (w.alloc (.map #[] 0)).heap.size = w.heap.size + 1 by simp] at this
  exact this
def ofI (L : List Ha) (c n : Int) : Int := (HanP.look L (c, n)).getD 0
def ofB (L : List Ha) (c n : Int) : Bool := (HanP.look L (c, n)).isSome
set_option maxHeartbeats 400000 in
theorem of_any (hb b : Nat) (L : List Ha) (ls : List Int) (c n : Int) (hok : haOk (c, n)) (w : World) (h : HIs w hb b L ls) :
    Calls Try.prog 13 #[.pointer (some ⟨hb, 0, none⟩), .int .i64 c, .int .i64 n] w fun e w' => e = .returned (.tuple #[.int .i64 (ofI L c n), .bool (ofB L c n)]) ∧ w = w' := by
  obtain ⟨N, hm⟩ := h.map
  have HM := Lib.hid hm
  have HK := Lib.hid hok
  have h0 := h.m0
  clear h hm hok
  cases hl : HanP.look L (c, n) with
  | none =>
    have HG := Lib.hid hl
    have HE : Hid (ofI L c n = 0 ∧ ofB L c n = false) := Lib.hid (by unfold ofI ofB; rw [hl]; exact ⟨rfl, rfl⟩)
    clear hl
    go_enter Try.func13, Try.ntmps13
    go_wp2_with (at_lookup; go_loud (refine wpList_map_look_none _ rfl _ _ 58 3 true rfl haMK Try.underlying58 _ (inZero _) b N _ HM.out (by rfl) (c, n) HK.out (by rfl) HG.out ?_; unfold inV; simp only [if_true]))
    go_ret2
    exact ⟨by rw [HE.out.1, HE.out.2]; rfl, rfl⟩
  | some i =>
    have HG := Lib.hid hl
    have HE : Hid (ofI L c n = i ∧ ofB L c n = true) := Lib.hid (by unfold ofI ofB; rw [hl]; exact ⟨rfl, rfl⟩)
    clear hl
    go_enter Try.func13, Try.ntmps13
    go_wp2_with (at_lookup; go_loud (refine wpList_map_look_some _ rfl _ _ 58 3 true rfl haMK Try.underlying58 _ (inZero _) b N _ HM.out (by rfl) (c, n) HK.out (by rfl) i HG.out (.int .i64 i) rfl ?_; simp only [if_true]))
    go_ret2
    exact ⟨by rw [HE.out.1, HE.out.2]; rfl, rfl⟩
def leaseI (ls : List Int) (c : Int) : Int := if 0 ≤ c ∧ c < 8 then ls.getD c.toNat 0 else 0
set_option maxHeartbeats 400000 in
theorem lease_any (hb b : Nat) (L : List Ha) (ls : List Int) (c : Int) (w : World) (h : HIs w hb b L ls) :
    Calls Try.prog 8 #[.pointer (some ⟨hb, 0, none⟩), .int .i64 c] w fun e w' => e = .returned (.int .i64 (leaseI ls c)) ∧ w = w' := by
  by_cases hc : 0 ≤ c ∧ c < 8
  · obtain ⟨k, rfl⟩ : ∃ k : Nat, c = k := ⟨c.toNat, by omega⟩
    have hk : k < 8 := by omega
    have HC : Hid (clB k = true) := Lib.hid (decide_eq_true hc)
    have HE : Hid (leaseI ls k = ls.getD k 0) := Lib.hid (by unfold leaseI; rw [if_pos hc]; simp)
    obtain ⟨p1, p2⟩ := h.lease hk
    clear h hc
    go_enter Try.func8, Try.ntmps8
    go_wp2_with (go_at_call 26; refine (client_is _ _ HC.out _).mono ?_; rintro e w2 ⟨rfl, rfl⟩)
    go_ret
    exact ⟨ret_int (by rw [HE.out]; simp), rfl⟩
  · have HC : Hid (clB c = false) := Lib.hid (decide_eq_false hc)
    have HE : Hid (leaseI ls c = 0) := Lib.hid (by unfold leaseI; rw [if_neg hc])
    clear h hc
    go_enter Try.func8, Try.ntmps8
    go_wp2_with (go_at_call 26; refine (client_is _ _ HC.out _).mono ?_; rintro e w2 ⟨rfl, rfl⟩)
    go_ret
    exact ⟨ret_int HE.out.symm, rfl⟩
def closeE (L : List Ha) (c n : Int) : Int := if (HanP.look L (c, n)).isSome then 0 else 68
theorem HGood.filter {L : List Ha} {ls : List Int} (h : HGood L ls) (p : Ha → Bool) : HGood (L.filter p) ls where
  rises := rises_filter h.rises p
  fits a ha := h.fits a (List.mem_filter.1 ha).1
  few c := by
    refine Nat.le_trans ?_ (h.few c)
    unfold count
    exact (List.filter_sublist).countP_le
  l8 := h.l8
  lb := h.lb
set_option maxHeartbeats 400000 in
theorem close_any (hb b : Nat) (L : List Ha) (ls : List Int) (c n : Int) (hok : haOk (c, n)) (w : World) (h : HIs w hb b L ls) :
    Calls Try.prog 15 #[.pointer (some ⟨hb, 0, none⟩), .int .i64 c, .int .i64 n] w fun e w' => e = .returned (.tuple #[.int .i64 (ofI L c n), .int .i64 (closeE L c n)]) ∧ HIs w' hb b (del L (c, n)) ls ∧ Only b w w' ∧ w'.heap.size = w.heap.size := by
  have HH := Lib.hid h
  obtain ⟨N, hm⟩ := h.map
  have HM := Lib.hid hm
  have HK := Lib.hid hok
  have h0 := h.m0
  clear h hm hok
  cases hl : HanP.look L (c, n) with
  | none =>
    have HG := Lib.hid hl
    have HE : Hid (ofI L c n = 0 ∧ closeE L c n = 68) := Lib.hid (by unfold ofI closeE; rw [hl]; exact ⟨rfl, rfl⟩)
    have HD : Hid (del L (c, n) = L) := Lib.hid (by
      unfold del
      refine List.filter_eq_self.2 fun a ha => ?_
      have := (look_none (c, n)).1 hl a ha
      simp [this])
    clear hl
    go_enter Try.func15, Try.ntmps15
    go_wp2_with (at_lookup; go_loud (refine wpList_map_look_none _ rfl _ _ 58 3 true rfl haMK Try.underlying58 _ (inZero _) b N _ HM.out (by rfl) (c, n) HK.out (by rfl) HG.out ?_; unfold inV; simp only [if_true]))
    go_ret2
    exact ⟨by rw [HE.out.1, HE.out.2]; rfl, by rw [HD.out]; exact HH.out, Only.refl _ _, rfl⟩
  | some i =>
    have HG := Lib.hid hl
    have HE : Hid (ofI L c n = i ∧ closeE L c n = 0) := Lib.hid (by unfold ofI closeE; rw [hl]; exact ⟨rfl, rfl⟩)
    clear hl
    go_enter Try.func15, Try.ntmps15
    go_wp2_with (first
      | (at_lookup; go_loud (refine wpList_map_look_some _ rfl _ _ 58 3 true rfl haMK Try.underlying58 _ (inZero _) b N _ HM.out (by rfl) (c, n) HK.out (by rfl) i HG.out (.int .i64 i) rfl ?_; simp only [if_true]))
      | (at_delete; go_loud (refine wpList_map_delete _ rfl _ _ 58 3 rfl haMK Try.underlying58 b N _ HM.out (by rfl) (c, n) HK.out (by rfl) ?_; intro w5 hm5 ho5 hs5; have HM5 := Lib.hid hm5; have HO5 := Lib.hid ho5; have HS5 := Lib.hid hs5; clear hm5 ho5 hs5)))
    go_ret2
    exact ⟨by rw [HE.out.1, HE.out.2]; rfl, ⟨Only.heap HO5.out HH.out.head HH.out.ne, ⟨N, MapIs.congr HM5.out (look_del HH.out.good.rises (c, n)).symm⟩, HH.out.good.filter _⟩, HO5.out, HS5.out⟩
def mayRenew (c tick : Int) : Bool := decide (0 ≤ c ∧ c < 8 ∧ 0 ≤ tick ∧ tick ≤ 1099511627776)
def renewE (c tick : Int) : Int := if mayRenew c tick then 0 else 1
def renewL (ls : List Int) (c tick : Int) : List Int := if mayRenew c tick then ls.set c.toNat (max (ls.getD c.toNat 0) tick) else ls
set_option maxHeartbeats 400000 in
theorem renew_any (hb b : Nat) (L : List Ha) (ls : List Int) (c tick : Int) (w : World) (h : HIs w hb b L ls) :
    Calls Try.prog 9 #[.pointer (some ⟨hb, 0, none⟩), .int .i64 c, .int .i64 tick] w fun e w' => e = .returned (.int .i64 (renewE c tick)) ∧ HIs w' hb b L (renewL ls c tick) ∧ Only hb w w' ∧ w'.heap.size = w.heap.size := by
  have HH := Lib.hid h
  by_cases hm : mayRenew c tick = true
  · obtain ⟨q1, q2, q3, q4⟩ := of_decide_eq_true hm
    obtain ⟨k, rfl⟩ : ∃ k : Nat, c = k := ⟨c.toNat, by omega⟩
    have hk : k < 8 := by omega
    have HC : Hid (clB k = true) := Lib.hid (decide_eq_true ⟨q1, q2⟩)
    have HE : Hid (renewE k tick = 0 ∧ renewL ls k tick = ls.set k (max (ls.getD k 0) tick)) := Lib.hid (by unfold renewE renewL; rw [if_pos hm, if_pos hm]; simp)
    obtain ⟨p1, p2⟩ := h.lease hk
    obtain ⟨b1, b2⟩ := lease_bd h.good.lb k
    have HMB : Hid (0 ≤ max (ls.getD k 0) tick ∧ max (ls.getD k 0) tick ≤ 1099511627776) := Lib.hid (by omega)
    generalize ls.getD k 0 = m at *
    clear h hm
    go_enter Try.func9, Try.ntmps9
    go_wp2_with (go_at_call 26; refine (client_is _ _ HC.out _).mono ?_; rintro e w2 ⟨rfl, rfl⟩)
    go_region
    go_wp2
    go_ret
    have hg := HH.out.good
    refine ⟨ret_int HE.out.1.symm, ⟨?_, ?_, ?_⟩, ((Only.refl hb w).setCell _ _).drew, by simp⟩
    · rw [HE.out.2]
      show (w.setCell _ _).heap[hb]? = _
      rw [heap_setCell_same w hb (1 + k) _ _ _ HH.out.head]
      congr 2
      unfold hCells
      apply Array.ext'
      simp [Nat.add_comm 1 k, List.map_set]
    · obtain ⟨n, hn⟩ := HH.out.map
      exact ⟨n, MapIs.only hn ((Only.refl hb w).setCell _ _).drew (fun e => HH.out.ne e.symm)⟩
    · refine ⟨hg.rises, hg.fits, hg.few, by rw [HE.out.2]; simp [hg.l8], fun x hx => ?_⟩
      rw [HE.out.2] at hx
      rcases List.mem_or_eq_of_mem_set hx with hx | rfl
      · exact hg.lb x hx
      · exact HMB.out
  · have HE : Hid (renewE c tick = 1 ∧ renewL ls c tick = ls) := Lib.hid (by unfold renewE renewL; rw [if_neg hm, if_neg hm]; simp)
    have HP : Hid (¬ (0 ≤ c ∧ c < 8 ∧ 0 ≤ tick ∧ tick ≤ 1099511627776)) := Lib.hid (fun h => hm (decide_eq_true h))
    clear hm h
    cases hc : clB c with
    | false =>
      have HC := Lib.hid hc
      clear hc
      go_enter Try.func9, Try.ntmps9
      go_wp2_with (go_at_call 26; refine (client_is _ _ HC.out _).mono ?_; rintro e w2 ⟨rfl, rfl⟩)
      go_ret
      exact ⟨ret_int HE.out.1.symm, by rw [HE.out.2]; exact HH.out, Only.refl _ _, rfl⟩
    | true =>
      have HC := Lib.hid hc
      have hcl := of_decide_eq_true hc
      clear hc
      by_cases ht : 0 ≤ tick
      · have ht2 : ¬ tick ≤ 1099511627776 := fun h => HP.out ⟨hcl.1, hcl.2, ht, h⟩
        have ht3 : 1099511627776 < tick := by omega
        clear hcl ht2
        go_enter Try.func9, Try.ntmps9
        go_wp2_with (go_at_call 26; refine (client_is _ _ HC.out _).mono ?_; rintro e w2 ⟨rfl, rfl⟩)
        go_ret
        exact ⟨ret_int HE.out.1.symm, by rw [HE.out.2]; exact HH.out, Only.refl _ _, rfl⟩
      · have ht3 : tick < 0 := by omega
        clear hcl ht
        go_enter Try.func9, Try.ntmps9
        go_wp2_with (go_at_call 26; refine (client_is _ _ HC.out _).mono ?_; rintro e w2 ⟨rfl, rfl⟩)
        go_ret
        exact ⟨ret_int HE.out.1.symm, by rw [HE.out.2]; exact HH.out, Only.refl _ _, rfl⟩
end Go.Proofs.Ytjfdbcmmmoipcaa.HanW
