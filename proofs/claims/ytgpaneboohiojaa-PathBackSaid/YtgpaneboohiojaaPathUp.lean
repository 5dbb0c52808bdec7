/- path.Up and Inside. -/
import Derived.Test.YtgpaneboohiojaaPathProg
namespace Go.Proofs.Ytgpaneboohiojaa.PathW
open Go.RowKit
/-- names are short -/
theorem names_short (p : List UInt8) : ∀ x ∈ (namesR p).getD [], x.length ≤ 9223372036854775807 := by
  intro x hx
  cases h : namesR p with
  | none => rw [h] at hx; simp at hx
  | some l =>
    rw [h] at hx
    have := List.all_eq_true.1 (join_names p l h).2.2 x hx
    unfold nameB at this; simp only [Bool.and_eq_true, decide_eq_true_eq] at this; omega
theorem names_few (p : List UInt8) : ((namesR p).getD []).length ≤ 8 := by
  cases h : namesR p with
  | none => simp
  | some l => exact (join_names p l h).2.1
theorem Strs.cap {B : Nat} {w : World} {oa : Option Addr} {n cap : Nat} {l : List (List UInt8)} (h : Strs B w (.slice oa n cap) l) : n = l.length ∧ l.length ≤ cap := by
  rcases h.2 with ⟨hv, h0⟩ | ⟨g, cap', cur, hv, _, _, hn, _⟩
  · injection hv with h1 h2 h3; subst h2; subst h3; omega
  · injection hv with h1 h2 h3; subst h2; subst h3; exact ⟨rfl, hn⟩
/-- what Up answers: directory, name, is there one -/
def upR (p : List UInt8) : List UInt8 × List UInt8 × Bool := match namesR p with
  | none => ([], [], false)
  | some l => if l = [] then ([], [], false) else (joinP (l.take (l.length - 1)), l.getD (l.length - 1) [], true)
theorem join_take (l : List (List UInt8)) (k : Nat) (h8 : l.length ≤ 8) (ha : l.all nameB = true) : joinS (l.take k) = ⟨(joinP (l.take k)).toArray⟩ ∧ joinE (l.take k) = 0 := by
  have h : joinR (l.take k) = some (joinP (l.take k)) := by
    rw [joinR, if_pos ⟨by rw [List.length_take]; omega, List.all_eq_true.2 fun x hx => List.all_eq_true.1 ha x (List.mem_of_mem_take hx)⟩]
  rw [joinS, joinE, h]; exact ⟨rfl, rfl⟩
theorem join_is (oa : Option Addr) (n cap : Nat) (l : List (List UInt8)) (hn : n = l.length) (hl : l.length ≤ 140737488355328) (hcap : l.length ≤ cap) (hz : ∀ x ∈ l, x.length ≤ 9223372036854775807) (s : ByteArray) (e0 : Int) (hs : joinS l = s ∧ joinE l = e0) (w : World) (h : Rds w.heap.size w oa l) :
    Calls Try.prog 8 #[.slice oa n cap] w fun e w' => e = .returned (.tuple #[.string s, .int .i64 e0]) ∧ Below w.heap.size w w' := by
  subst hn
  rw [← hs.1, ← hs.2]
  exact join_any oa cap l hl hcap hz w h
set_option maxHeartbeats 800000 in
theorem up_any (p : ByteArray) (hs : p.size ≤ 140737488355328) (w : World) :
    Calls Try.prog 16 #[.string p] w fun e w' => e = .returned (.tuple #[.string ⟨(upR p.data.toList).1.toArray⟩, .string ⟨(upR p.data.toList).2.1.toArray⟩, .bool (upR p.data.toList).2.2]) ∧ Below w.heap.size w w' := by
  have hn := names_any p hs w
  cases hN : namesR p.data.toList with
  | none =>
    have HU : Hid (upR p.data.toList = ([], [], false)) := Lib.hid (by rw [upR, hN])
    rw [hN] at hn
    have HN := Lib.hid hn
    clear hn hN
    go_enter Try.func16, Try.ntmps16
    go_wp2_with (go_at_call 24; refine HN.out.mono ?_; rintro e w1 ⟨v, rfl, hs1, hb1⟩; have HB1 := Lib.hid hb1; clear hs1 hb1)
    go_ret3
    exact ⟨by rw [HU.out]; rfl, HB1.out⟩
  | some l =>
    rw [hN] at hn
    have HN := Lib.hid hn
    obtain ⟨_, h8, ha⟩ := join_names _ l hN
    have hz := names_short p.data.toList
    rw [hN] at hz
    have HZ : Hid (∀ x ∈ l, x.length ≤ 9223372036854775807) := Lib.hid hz
    by_cases h0 : l = []
    · have HU : Hid (upR p.data.toList = ([], [], false)) := Lib.hid (by rw [upR, hN]; simp [h0])
      subst h0
      clear hn hN hz
      go_enter Try.func16, Try.ntmps16
      go_wp2_with (go_at_call 24; refine HN.out.mono ?_; rintro e w1 ⟨v, rfl, hs1, hb1⟩; have HB1 := Lib.hid hb1; obtain ⟨oa, cap, rfl⟩ := hs1.form; clear hs1 hb1)
      go_ret3
      exact ⟨by rw [HU.out]; rfl, HB1.out⟩
    · have hpos : 1 ≤ l.length := List.length_pos_iff.2 h0
      obtain ⟨m, hm⟩ : ∃ m, l.length = m + 1 := ⟨l.length - 1, by omega⟩
      obtain ⟨x, hx⟩ : ∃ x, l[m]? = some x := ⟨_, List.getElem?_eq_getElem (show m < l.length by omega)⟩
      have HU : Hid (upR p.data.toList = (joinP (l.take m), x, true)) := Lib.hid (by
        rw [upR, hN]; simp only; rw [if_neg h0, hm, Nat.add_sub_cancel, List.getD_eq_getElem?_getD, hx]; rfl)
      have HXX : Hid (∀ h : m < l.length, l[m]'h = x) := Lib.hid fun h => by rw [List.getElem?_eq_getElem h] at hx; injection hx
      have HJ := Lib.hid (join_take l m h8 ha)
      have HTL : Hid ((l.take m).length = m) := Lib.hid (by rw [List.length_take]; omega)
      have HML : Hid (m < l.length) := Lib.hid (by omega)
      have hb0 : ((l.length : Int) == 0) = false := by rw [beq_eq_false_iff_ne]; omega
      have hm8 : (m : Int) ≤ 8 := by omega
      have HM := Lib.hid hm
      have hnn : l.length ≤ 8 := h8
      clear hn hN hz h0 hx ha hm
      go_enter Try.func16, Try.ntmps16
      go_wp2_with (first
        | (go_at_call 24; refine HN.out.mono ?_; rintro e w1 ⟨v, rfl, hs1, hb1⟩; have HB1 := Lib.hid hb1; obtain ⟨oa, cap, rfl⟩ := hs1.form; have hcap : (l.length : Int) ≤ (cap : Int) := (by have := hs1.cap.2; simp only [Option.getD_some] at this; omega); have HR := Lib.hid (show Rds w1.heap.size w1 oa l from Rds.of_strs hs1); clear hs1 hb1)
        | (go_at_call 8; refine (join_is _ _ _ (l.take m) (by rw [HTL.out]; have := HM.out; omega) (by have := HTL.out; have := HM.out; omega) (by have := HTL.out; have := HM.out; omega) (fun y hy => HZ.out y (List.mem_of_mem_take hy)) _ _ HJ.out _ (HR.out.take m)).mono ?_; rintro e w2 ⟨rfl, hb2⟩; obtain ⟨a, rfl, hab, hc⟩ := (HR.out.below hb2) m HML.out; have HB2 := Lib.hid (bstep HB1.out hb2); clear hb2; have hidx : m = l.length - 1 := (by have := HM.out; omega); rw [HXX.out] at hc; rw [hidx] at hc; unfold strV at hc; clear hidx))
      have hl0 : (0 : Int) ≤ (l.length : Int) - 1 := by omega
      go_quiet (fail)
      go_wp2
      go_ret3
      exact ⟨by rw [HU.out]; rfl, below_drewN HB2.out _⟩
set_option maxHeartbeats 800000 in
theorem equal_any (oa ob : Option Addr) (ca cb : Nat) (a b : List (List UInt8)) (ha : a.length ≤ 140737488355328) (hb : b.length ≤ 140737488355328) (w : World) (h1 : Rds w.heap.size w oa a) (h2 : Rds w.heap.size w ob b) :
    Calls Try.prog 25 #[.slice oa a.length ca, .slice ob b.length cb] w fun e w' => e = .returned (.bool (a == b)) ∧ Below w.heap.size w w' := by
  by_cases hl : a.length = b.length
  · have H1 := Lib.hid h1
    have H2 := Lib.hid h2
    have HL := Lib.hid hl
    have hbn : ((a.length : Int) != (b.length : Int)) = false := by rw [bne_eq_false_iff_eq]; omega
    clear h1 h2 hl
    go_enter Try.func25, Try.ntmps25
    go_wp2_with fail
    clear hbn
    go_loopw [13] (fun i wr => ∃ k : Nat, k ≤ a.length ∧ i = .int .i64 k ∧ a.take k = b.take k ∧ Below w.heap.size w wr) (fun i _ => a.length - (intOf i).toNat)
    case atStart => exact ⟨0, Nat.zero_le _, rfl, rfl, Below.refl _ _⟩
    case round =>
      obtain ⟨k, hk, rfl, htk, hbel⟩ := hrel
      have HT := Lib.hid htk
      have HB := Lib.hid hbel
      clear htk hbel
      by_cases hlt : k < a.length
      · obtain ⟨x, rfl, _, hx⟩ := (H1.out.below HB.out) k hlt
        have hlt2 : k < b.length := by have := HL.out; omega
        obtain ⟨y, rfl, _, hy⟩ := (H2.out.below HB.out) k hlt2
        have HTA : Hid (a.take (k + 1) = a.take k ++ [a[k]]) := Lib.hid (List.take_succ_eq_append_getElem hlt)
        have HTB : Hid (b.take (k + 1) = b.take k ++ [b[k]]) := Lib.hid (List.take_succ_eq_append_getElem hlt2)
        have hk0 : (0 : Int) ≤ (k : Int) := by omega
        have hk1 : (k : Int) < (a.length : Int) := by omega
        have hk2 : (k : Int) < (b.length : Int) := by omega
        unfold strV at hx hy
        by_cases he : a[k] = b[k]
        · have hq : (a[k] == b[k]) = true := by rw [he]; simp
          have HE := Lib.hid he
          clear he
          go_wp2
          go_quiet (fail)
          go_wp2
          exact ⟨⟨k + 1, by omega, by go_num, by rw [HTA.out, HTB.out, HT.out, HE.out], below_drewN HB.out _⟩, by simp [intOf]; omega⟩
        · have hq : (a[k] == b[k]) = false := by rw [beq_eq_false_iff_ne]; exact he
          have HE := Lib.hid he
          clear he
          go_wp2
          go_quiet (fail)
          go_wp2
          go_ret
          refine ⟨ret_bool ?_, below_drewN HB.out _⟩
          symm
          rw [beq_eq_false_iff_ne]
          rintro rfl
          exact HE.out rfl
      · go_wp2
        go_ret
        refine ⟨ret_bool ?_, HB.out⟩
        have h1 := HT.out
        rw [List.take_of_length_le (by omega), List.take_of_length_le (by have := HL.out; omega)] at h1
        rw [h1]; simp
  · have hbn : ((a.length : Int) != (b.length : Int)) = true := by rw [bne_iff_ne]; omega
    have HL := Lib.hid hl
    clear hl h1 h2
    go_enter Try.func25, Try.ntmps25
    go_wp2
    go_ret
    refine ⟨ret_bool ?_, Below.refl _ _⟩
    symm
    rw [beq_eq_false_iff_ne]
    rintro rfl
    exact HL.out rfl
theorem equal_is (oa ob : Option Addr) (na nb ca cb : Nat) (a b : List (List UInt8)) (hna : na = a.length) (hnb : nb = b.length) (ha : a.length ≤ 140737488355328) (hb : b.length ≤ 140737488355328) (w : World) (h1 : Rds w.heap.size w oa a) (h2 : Rds w.heap.size w ob b) :
    Calls Try.prog 25 #[.slice oa na ca, .slice ob nb cb] w fun e w' => e = .returned (.bool (a == b)) ∧ Below w.heap.size w w' := by
  subst hna; subst hnb
  exact equal_any oa ob ca cb a b ha hb w h1 h2
end Go.Proofs.Ytgpaneboohiojaa.PathW
