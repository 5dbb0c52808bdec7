/- Small ones of move: lists of parts that are alike, a record's data, a part that goes beyond. -/
import Derived.Test.YthnkpoagpjnopaaDoorMovOwn
import Derived.Test.YthnkpoagpjnopaaDoorExtGood
namespace Go.Proofs.YthnkpoagpjnopaaDoor.ExtW
set_option maxRecDepth 100000
open Go.RowKit
set_option maxHeartbeats 1600000 in
theorem parts_same (oa ob : Option Addr) (na nb ca cb : Nat) (l : List Pt) (hna : na = l.length) (hnb : nb = l.length) (hl : l.length ≤ 1000000) (w : World) (h1 : PtsAt w.heap.size oa l w) (h2 : PtsAt w.heap.size ob l w) :
    Calls Tryd.prog 13 #[.slice oa na ca, .slice ob nb cb] w fun e w' => e = .returned (.bool true) ∧ Below w.heap.size w w' := by
  subst hna; subst hnb
  have HP := Lib.hid h1
  have HQ := Lib.hid h2
  clear h1 h2
  go_enter Tryd.func13, Tryd.ntmps13
  go_wp2_with fail
  go_loopw [5] (fun i wr => ∃ k : Nat, k ≤ l.length ∧ i = .int .i64 (k : Int) ∧ Below w.heap.size w wr) (fun i _ => ((l.length : Int) - intOf i).toNat)
  case atStart => exact ⟨0, by omega, rfl, Below.refl _ _⟩
  case round =>
    obtain ⟨k, hk, rfl, hbel⟩ := hrel
    have HB := Lib.hid hbel
    clear hbel
    by_cases hlt : k < l.length
    · obtain ⟨x, hx⟩ : ∃ x, l[k]? = some x := ⟨_, List.getElem?_eq_getElem hlt⟩
      obtain ⟨a, rfl, hab, c0, c1, c2, c3⟩ := (HP.out.below HB.out) k x hx
      obtain ⟨b, rfl, hbb, d0, d1, d2, d3⟩ := (HQ.out.below HB.out) k x hx
      have hk0 : (0 : Int) ≤ (k : Int) := by omega
      have hkl : (k : Int) < (l.length : Int) := by omega
      have z0 : (a.add (k * 4)).block < wr.heap.size := by rw [add_block]; have := HB.out.size; omega
      have z1 : (b.add (k * 4)).block < wr.heap.size := by rw [add_block]; have := HB.out.size; omega
      clear hx
      go_wp2_with fail
      go_region
      all_goals (go_wp2_with fail)
      all_goals exact ⟨⟨k + 1, by omega, by simp, (bstep (bstep HB.out (below_alloc wr _)) (below_alloc _ _)).drew⟩, by simp [intOf]; omega⟩
    · have hk1 : ¬ ((k : Int) < (l.length : Int)) := by omega
      go_wp2_with fail
      go_ret
      exact ⟨rfl, HB.out⟩
end Go.Proofs.YthnkpoagpjnopaaDoor.ExtW
namespace Go.Proofs.YthnkpoagpjnopaaDoor.MovW
open Go.RowKit MovP OpP OpW ExtW
def dataS (r : Rec) : ByteArray := if r.k = 10 ∨ r.k = 13 then r.d else ⟨#[]⟩
def dataB (r : Rec) : Bool := decide (r.k = 10 ∨ r.k = 13)
set_option maxHeartbeats 400000 in
theorem data_any (r : Rec) (v : Value) (w : World) :
    Calls Tryd.prog 10 #[.agg #[.int .i64 r.cl, .int .i64 r.sq, .int .i64 r.k, .string r.p, .string r.t, .int .i64 r.sz, .int .i64 r.h, .int .i64 r.o, .string r.d, .int .i64 r.tk, .int .i64 r.i, v]] w fun e w' => e = .returned (.tuple #[.string (dataS r), .bool (dataB r)]) ∧ Below w.heap.size w w' := by
  unfold dataS dataB
  by_cases h1 : r.k = 10
  · rw [if_pos (Or.inl h1), decide_eq_true (Or.inl h1), h1]
    go_enter Tryd.func10, Tryd.ntmps10
    go_wp2_with fail
    go_ret2
    exact ⟨rfl, below_alloc w _⟩
  · by_cases h2 : r.k = 13
    · rw [if_pos (Or.inr h2), decide_eq_true (Or.inr h2), h2]
      go_enter Tryd.func10, Tryd.ntmps10
      go_wp2_with fail
      go_ret2
      exact ⟨rfl, below_alloc w _⟩
    · have e1 : (r.k == 10) = false := beq_eq_false_iff_ne.2 h1
      have e2 : (r.k == 13) = false := beq_eq_false_iff_ne.2 h2
      have e3 : (r.k != 10) = true := bne_iff_ne.2 h1
      have e4 : (r.k != 13) = true := bne_iff_ne.2 h2
      rw [if_neg (by omega), decide_eq_false (by omega)]
      clear h1 h2
      go_enter Tryd.func10, Tryd.ntmps10
      go_wp2_with fail
      go_ret2
      exact ⟨rfl, below_alloc w _⟩
set_option maxHeartbeats 400000 in
theorem rdata_any (r : Rec) (v : Value) (w : World) :
    Calls Tryd.prog 11 #[.agg #[.int .i64 r.cl, .int .i64 r.sq, .int .i64 r.k, .string r.p, .string r.t, .int .i64 r.sz, .int .i64 r.h, .int .i64 r.o, .string r.d, .int .i64 r.tk, .int .i64 r.i, v]] w fun e w' => e = .returned (.tuple #[.string (dataS r), .bool (dataB r)]) ∧ Below w.heap.size w w' := by
  unfold dataS dataB
  by_cases h1 : r.k = 10
  · rw [if_pos (Or.inl h1), decide_eq_true (Or.inl h1), h1]
    go_enter Tryd.func11, Tryd.ntmps11
    go_wp2_with fail
    go_ret2
    exact ⟨rfl, below_alloc w _⟩
  · by_cases h2 : r.k = 13
    · rw [if_pos (Or.inr h2), decide_eq_true (Or.inr h2), h2]
      go_enter Tryd.func11, Tryd.ntmps11
      go_wp2_with fail
      go_ret2
      exact ⟨rfl, below_alloc w _⟩
    · have e1 : (r.k == 10) = false := beq_eq_false_iff_ne.2 h1
      have e2 : (r.k == 13) = false := beq_eq_false_iff_ne.2 h2
      have e3 : (r.k != 10) = true := bne_iff_ne.2 h1
      have e4 : (r.k != 13) = true := bne_iff_ne.2 h2
      rw [if_neg (by omega), decide_eq_false (by omega)]
      clear h1 h2
      go_enter Tryd.func11, Tryd.ntmps11
      go_wp2_with fail
      go_ret2
      exact ⟨rfl, below_alloc w _⟩
/-- a part's numbers are numbers -/
def PtOk (x : Pt) : Prop := (Lit.int .i64 x.o).wf = true ∧ (Lit.int .i64 x.n).wf = true ∧ (Lit.int .i64 x.a).wf = true ∧ (Lit.int .i64 x.f).wf = true
theorem i64_bd {x : Int} (h : (Lit.int .i64 x).wf = true) : -9223372036854775808 ≤ x ∧ x ≤ 9223372036854775807 := by simpa [Lit.wf, IntKind.min, IntKind.max, IntKind.signed, IntKind.bits] using h
theorem size_bd (m : Nat) (s : ByteArray) (h : s.size ≤ m) (hm : m ≤ 1000000) : (s.size : Int) ≤ 1000000 := by omega
set_option maxHeartbeats 800000 in
theorem short_any (s : ByteArray) (hs : s.size ≤ 1000000) (x : Pt) (hx : PtOk x) (w : World) :
    Calls Tryd.prog 23 #[.string s, .agg #[.int .i64 x.o, .int .i64 x.n, .int .i64 x.a, .int .i64 x.f]] w fun e w' => e = .returned (.bool (shortB s x)) ∧ Below w.heap.size w w' := by
  obtain ⟨b, hb⟩ : ∃ b, shortB s x = b := ⟨_, rfl⟩
  rw [hb]
  have hn := i64_bd hx.2.1
  have hf := i64_bd hx.2.2.2
  by_cases h1 : 0 < x.n
  · have hd : decide ((s.size : Int) - x.n < x.f) = b := by rw [← hb]; unfold shortB; rw [if_pos h1]
    have hw : IntKind.i64.wrap ((s.size : Int) - x.n) = (s.size : Int) - x.n := IntWalk.i64_in _ (by omega)
    clear hb hn hf hx
    go_enter Tryd.func23, Tryd.ntmps23
    go_wp2_with fail
    go_ret
    exact ⟨rfl, below_alloc w _⟩
  · have hd0 : decide (0 < x.n) = false := decide_eq_false h1
    have hb' : decide ((s.size : Int) < x.f ∧ (s.size : Int) < x.f + x.n) = b := by rw [← hb]; unfold shortB; rw [if_neg h1]
    by_cases h2 : (s.size : Int) < x.f
    · have hw : IntKind.i64.wrap (x.f + x.n) = x.f + x.n := IntWalk.i64_in _ (by omega)
      have hd : decide ((s.size : Int) < x.f + x.n) = b := by rw [← hb']; simp [h2]
      clear hb hn hf hx hb' h1
      go_enter Tryd.func23, Tryd.ntmps23
      go_wp2_with fail
      go_ret
      exact ⟨rfl, below_alloc w _⟩
    · have hd2 : decide ((s.size : Int) < x.f) = false := decide_eq_false h2
      obtain rfl : false = b := by rw [← hb', decide_eq_false (fun q => h2 q.1)]
      clear hb hn hf hx hb' h1 h2
      go_enter Tryd.func23, Tryd.ntmps23
      go_wp2_with fail
      go_ret
      exact ⟨rfl, below_alloc w _⟩
end Go.Proofs.YthnkpoagpjnopaaDoor.MovW
