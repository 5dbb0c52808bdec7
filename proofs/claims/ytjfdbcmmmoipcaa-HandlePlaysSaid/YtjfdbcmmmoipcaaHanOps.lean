/- Handles: Count, Open, Expire. -/
import Derived.Test.YtjfdbcmmmoipcaaHanAll
import Derived.Test.YtjfdbcmmmoipcaaRowAt
import Derived.StillTailTactics
namespace Go.Proofs.Ytjfdbcmmmoipcaa.HanW
open Go.RowKit HanP
theorem ha_at {B : Nat} {oa : Option Addr} {l : List Ha} {w : World} (h : KAt encHa 3 B oa l w) {i : Nat} {x : Ha} (hx : l[i]? = some x) :
    ∃ a, oa = some a ∧ a.block < B ∧ w.cell? (a.add (i * 3)) = some (.int .i64 x.c) ∧ w.cell? ⟨(a.add (i * 3)).block, (a.add (i * 3)).off + 1, none⟩ = some (.int .i64 x.n) ∧ w.cell? ⟨(a.add (i * 3)).block, (a.add (i * 3)).off + 2, none⟩ = some (.int .i64 x.i) := by
  obtain ⟨a, h1, h2, h3⟩ := h i x hx
  exact ⟨a, h1, h2, h3 0 _ rfl, h3 1 _ rfl, h3 2 _ rfl⟩
theorem take_snoc {α : Type} {l : List α} {k : Nat} {x : α} (h : l[k]? = some x) : l.take (k + 1) = l.take k ++ [x] := by
  rw [List.take_add_one, h]; rfl
theorem count_snoc {L : List Ha} {k : Nat} {x : Ha} (h : L[k]? = some x) (c : Int) : count (L.take (k + 1)) c = count (L.take k) c + if x.c = c then 1 else 0 := by
  rw [take_snoc h]
  unfold count
  rw [List.countP_append]
  by_cases e : x.c = c <;> simp [e]
theorem count_le (L : List Ha) (c : Int) : count L c ≤ L.length := List.countP_le_length
set_option maxHeartbeats 800000 in
theorem count_any (hb b : Nat) (L : List Ha) (ls : List Int) (c : Int) (w : World) (h : HIs w hb b L ls) :
    Calls Try.prog 16 #[.pointer (some ⟨hb, 0, none⟩), .int .i64 c] w fun e w' => e = .returned (.int .i64 (count L c : Nat)) ∧ Below w.heap.size w w' := by
  have HH := Lib.hid h
  have hlen := h.good.len
  clear h
  go_enter Try.func16, Try.ntmps16
  go_wp2_with (go_at_call 11; refine (all_any _ _ _ _ _ HH.out).mono ?_; rintro e w1 ⟨v, rfl, hr, hb1⟩; obtain ⟨oa, cap, rfl, hc, hc2, hnone⟩ := hr.form; have HP := Lib.hid (hr.pts ha_len (by omega)); have HB1 := Lib.hid hb1; clear hr hb1 hnone)
  go_loopw [5, 11] (fun n i wr => ∃ k : Nat, k ≤ L.length ∧ i = .int .i64 (k : Int) ∧ n = .int .i64 (count (L.take k) c : Nat) ∧ Below w1.heap.size w1 wr) (fun _ i _ => ((L.length : Int) - intOf i).toNat)
  case atStart => exact ⟨0, by omega, rfl, rfl, Below.refl _ _⟩
  case round =>
    obtain ⟨k, hk, rfl, rfl, hbel⟩ := hrel
    have HB := Lib.hid hbel
    clear hbel
    by_cases hlt : k < L.length
    · obtain ⟨x, hx⟩ : ∃ x, L[k]? = some x := ⟨_, List.getElem?_eq_getElem hlt⟩
      obtain ⟨a, rfl, hab, c0, c1, c2⟩ := ha_at (HP.out.below HB.out) hx
      have HC := Lib.hid (count_snoc hx c)
      have hcl := count_le (L.take k) c
      have hcl2 : (L.take k).length ≤ k := List.length_take_le _ _
      generalize count (L.take k) c = m at HC hcl ⊢
      clear hx
      by_cases he : x.c = c
      · have hd : (x.c == c) = true := by rw [beq_iff_eq]; exact he
        have HM : Hid (count (L.take (k + 1)) c = m + 1) := Lib.hid (by rw [HC.out, if_pos he])
        clear he
        go_wp2_with fail
        exact ⟨⟨k + 1, by omega, by simp, by rw [HM.out]; simp, bstep HB.out (below_alloc wr _)⟩, by simp [intOf]; omega⟩
      · have hd : (x.c == c) = false := by simpa using he
        have HM : Hid (count (L.take (k + 1)) c = m) := Lib.hid (by rw [HC.out, if_neg he]; rfl)
        clear he
        go_wp2_with fail
        exact ⟨⟨k + 1, by omega, by simp, by rw [HM.out], bstep HB.out (below_alloc wr _)⟩, by simp [intOf]; omega⟩
    · obtain rfl : k = L.length := by omega
      rw [List.take_length]
      go_wp2_with fail
      go_ret
      exact ⟨rfl, bstep HB1.out HB.out⟩
def mayOpen (c n i : Int) : Bool := decide ((0 ≤ c ∧ c < 8) ∧ 0 ≤ n ∧ n < 16384 ∧ 1 ≤ i ∧ i ≤ 2147483647)
def openE (L : List Ha) (c n i : Int) : Int := if mayOpen c n i then if (HanP.look L (c, n)).isSome then 61 else if 16 ≤ count L c then 3 else 0 else 1
def openL (L : List Ha) (c n i : Int) : List Ha := if openE L c n i = 0 then ins L ⟨c, n, i⟩ else L
theorem count_ins (L : List Ha) (a : Ha) (c : Int) : count (ins L a) c = count L c + if a.c = c then 1 else 0 := by
  have h : count (low L a.key ++ high L a.key) c = count L c := by rw [low_high]
  rw [← h]
  unfold ins count
  simp only [List.countP_append, List.countP_cons, decide_eq_true_eq]
  omega
theorem HGood.ins {L : List Ha} {ls : List Int} (h : HGood L ls) {c n i : Int} (hm : mayOpen c n i = true) (hn : HanP.look L (c, n) = none) (hc : count L c < 16) : HGood (ins L ⟨c, n, i⟩) ls where
  rises := rises_ins h.rises hn
  fits a ha := by
    have hb := of_decide_eq_true hm
    rcases (mem_ins _ _ _).1 ha with rfl | ha
    · simp only; omega
    · exact h.fits a ha
  few d := by
    rw [count_ins]
    have := h.few d
    by_cases e : c = d
    · subst e; simp; omega
    · simp [e]; exact this
  l8 := h.l8
  lb := h.lb
set_option maxHeartbeats 1600000 in
theorem open_any (hb b : Nat) (L : List Ha) (ls : List Int) (c n i : Int) (hok : haOk (c, n)) (w : World) (h : HIs w hb b L ls) :
    Calls Try.prog 10 #[.pointer (some ⟨hb, 0, none⟩), .int .i64 c, .int .i64 n, .int .i64 i] w fun e w' => e = .returned (.int .i64 (openE L c n i)) ∧ HIs w' hb b (openL L c n i) ls ∧ Only b w w' := by
  have HH := Lib.hid h
  by_cases hm : mayOpen c n i = true
  · obtain ⟨q0, q1, q2, q3, q4⟩ := of_decide_eq_true hm
    have HC : Hid (clB c = true) := Lib.hid (decide_eq_true q0)
    have HMAY := Lib.hid hm
    obtain ⟨N, hmp⟩ := h.map
    have HM := Lib.hid hmp
    have HK := Lib.hid hok
    have h0 := h.m0
    clear h hmp hok hm
    cases hl : HanP.look L (c, n) with
    | some j =>
      have HG := Lib.hid hl
      have HE : Hid (openE L c n i = 61) := Lib.hid (by unfold openE; rw [if_pos HMAY.out, hl]; rfl)
      clear hl
      go_enter Try.func10, Try.ntmps10
      go_wp2_with (first
        | (go_at_call 26; refine (client_is _ _ HC.out _).mono ?_; rintro e w2 ⟨rfl, rfl⟩)
        | (at_lookup; go_loud (refine wpList_map_look_some _ rfl _ _ 58 3 true rfl haMK Try.underlying58 _ (inZero _) b N _ HM.out (by rfl) (c, n) HK.out (by rfl) j HG.out (.int .i64 j) rfl ?_; simp only [if_true])))
      go_ret
      exact ⟨ret_int HE.out.symm, by unfold openL; rw [HE.out]; exact HH.out, Only.refl _ _⟩
    | none =>
      have HG := Lib.hid hl
      by_cases hct : 16 ≤ count L c
      · have HE : Hid (openE L c n i = 3) := Lib.hid (by unfold openE; rw [if_pos HMAY.out, hl, if_pos hct]; rfl)
        have hci : (16 : Int) ≤ (count L c : Nat) := by omega
        clear hl hct
        go_enter Try.func10, Try.ntmps10
        go_wp2_with (first
          | (go_at_call 26; refine (client_is _ _ HC.out _).mono ?_; rintro e w2 ⟨rfl, rfl⟩)
          | (at_lookup; go_loud (refine wpList_map_look_none _ rfl _ _ 58 3 true rfl haMK Try.underlying58 _ (inZero _) b N _ HM.out (by rfl) (c, n) HK.out (by rfl) HG.out ?_; unfold inV; simp only [if_true]))
          | (go_at_call 16; refine (count_any _ _ _ _ _ _ HH.out).mono ?_; rintro e w3 ⟨rfl, hb3⟩; have HB3 := Lib.hid hb3; clear hb3))
        go_ret
        exact ⟨ret_int HE.out.symm, by unfold openL; rw [HE.out]; exact HH.out.grow HB3.out, Only.of_below HB3.out⟩
      · have HE : Hid (openE L c n i = 0) := Lib.hid (by unfold openE; rw [if_pos HMAY.out, hl, if_neg hct]; rfl)
        have hci : ((count L c : Nat) : Int) < 16 := by omega
        have HCT := Lib.hid hct
        clear hl hct
        go_enter Try.func10, Try.ntmps10
        go_wp2_with (first
          | (go_at_call 26; refine (client_is _ _ HC.out _).mono ?_; rintro e w2 ⟨rfl, rfl⟩)
          | (at_lookup; go_loud (refine wpList_map_look_none _ rfl _ _ 58 3 true rfl haMK Try.underlying58 _ (inZero _) b N _ HM.out (by rfl) (c, n) HK.out (by rfl) HG.out ?_; unfold inV; simp only [if_true]))
          | (go_at_call 16; refine (count_any _ _ _ _ _ _ HH.out).mono ?_; rintro e w3 ⟨rfl, hb3⟩; have HH3 := Lib.hid (HH.out.grow hb3); have HM3 : Hid (HaIs w3 b N (HanP.look L)) := Lib.hid (MapIs.keep HM.out hb3); have h03 := HH3.out.m0; have HB3 := Lib.hid hb3; clear hb3)
          | (at_mapUpdate; go_loud (refine wpList_map_store _ rfl _ _ _ 58 3 rfl haMK Try.underlying58 b N _ HM3.out (by rfl) (c, n) i HK.out (by rfl) (by rfl) ?_; intro w5 hm5 ho5 hs5; have HM5 := Lib.hid hm5; have HO5 := Lib.hid ho5; clear hm5 ho5 hs5)))
        go_ret
        have hg := HH.out.good
        refine ⟨ret_int HE.out.symm, ?_, (Only.of_below HB3.out).trans HO5.out⟩
        unfold openL
        rw [if_pos HE.out]
        exact ⟨Only.heap HO5.out HH3.out.head HH3.out.ne, ⟨N + 1, MapIs.congr HM5.out (look_ins hg.rises (a := ⟨c, n, i⟩) HG.out).symm⟩, hg.ins HMAY.out HG.out (by have := HCT.out; omega)⟩
  · have HE : Hid (openE L c n i = 1) := Lib.hid (by unfold openE; rw [if_neg hm])
    have hcs : (clB c = false) ∨ (clB c = true ∧ n < 0) ∨ (clB c = true ∧ 0 ≤ n ∧ 16384 ≤ n) ∨ (clB c = true ∧ 0 ≤ n ∧ n < 16384 ∧ i < 1) ∨ (clB c = true ∧ 0 ≤ n ∧ n < 16384 ∧ 1 ≤ i ∧ 2147483647 < i) := by
      have hm' : ¬ ((0 ≤ c ∧ c < 8) ∧ 0 ≤ n ∧ n < 16384 ∧ 1 ≤ i ∧ i ≤ 2147483647) := fun h => hm (decide_eq_true h)
      cases hcl : clB c with
      | false => exact .inl rfl
      | true => have := of_decide_eq_true hcl; right; simp only [true_and]; omega
    clear hm h
    rcases hcs with hc | ⟨hc, q1⟩ | ⟨hc, q1, q2⟩ | ⟨hc, q1, q2, q3⟩ | ⟨hc, q1, q2, q3, q4⟩
    all_goals
      have HC := Lib.hid hc
      clear hc
      go_enter Try.func10, Try.ntmps10
      go_wp2_with (go_at_call 26; refine (client_is _ _ HC.out _).mono ?_; rintro e w2 ⟨rfl, rfl⟩)
      go_ret
      exact ⟨ret_int HE.out.symm, by unfold openL; rw [HE.out]; exact HH.out, Only.refl _ _⟩
end Go.Proofs.Ytjfdbcmmmoipcaa.HanW
