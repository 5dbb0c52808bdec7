/- extent.Move. -/
import Derived.Test.YtappgelpigoknaaExtMap2
namespace Go.Proofs.Ytappgelpigoknaa.ExtW
set_option maxRecDepth 100000
open Go.RowKit
def addrB (n : Int) : Bool := decide (0 ≤ n ∧ n < 16384)
theorem addr_any (n : Int) (w : World) : Calls Try.prog 57 #[.int .i64 n] w fun e w' => e = .returned (.bool (addrB n)) ∧ w = w' := by
  have key : ∀ b : Bool, addrB n = b → Calls Try.prog 57 #[.int .i64 n] w fun e w' => e = .returned (.bool b) ∧ w = w' := by
    intro b hb
    by_cases h1 : 0 ≤ n
    · by_cases h2 : n < 16384
      · obtain rfl : b = true := by rw [← hb]; exact decide_eq_true ⟨h1, h2⟩
        clear hb
        go_enter Try.func57, Try.ntmps57
        go_wp2
        go_ret
        exact ⟨rfl, rfl⟩
      · obtain rfl : b = false := by rw [← hb]; exact decide_eq_false fun h => h2 h.2
        have h2' : decide (n < 16384) = false := decide_eq_false h2
        clear hb h2
        go_enter Try.func57, Try.ntmps57
        go_wp2
        go_ret
        exact ⟨rfl, rfl⟩
    · obtain rfl : b = false := by rw [← hb]; exact decide_eq_false fun h => h1 h.1
      clear hb
      go_enter Try.func57, Try.ntmps57
      go_wp2
      go_ret
      exact ⟨rfl, rfl⟩
  exact key _ rfl
theorem addr_is (n : Int) (b : Bool) (hb : addrB n = b) (w : World) : Calls Try.prog 57 #[.int .i64 n] w fun e w' => e = .returned (.bool b) ∧ w = w' := by
  rw [← hb]; exact addr_any n w
/-- a move boxed -/
def MBox (w : World) (b : Nat) (ma mf mn mt : Int) : Prop := w.heap[b]? = some (.cells #[.int .i64 ma, .int .i64 mf, .int .i64 mn, .int .i64 mt] 91 (0, 0))
theorem MBox.grow {w w' : World} {b : Nat} {ma mf mn mt : Int} (h : MBox w b ma mf mn mt) (hb : Below w.heap.size w w') : MBox w' b ma mf mn mt := (hb.block b (lt_of_block h)).trans h
theorem MBox.only {w w' : World} {b c : Nat} {ma mf mn mt : Int} (h : MBox w b ma mf mn mt) (k : Only c w w') (hne : b ≠ c) : MBox w' b ma mf mn mt := Only.heap k h hne
theorem MBox.made (w : World) (ma mf mn mt : Int) : MBox (w.alloc (.cells #[.int .i64 ma, .int .i64 mf, .int .i64 mn, .int .i64 mt] 91)) w.heap.size ma mf mn mt := heap_alloc_new w _
theorem MBox.cells {w : World} {b : Nat} {ma mf mn mt : Int} (h : MBox w b ma mf mn mt) : w.cell? ⟨b, 0, none⟩ = some (.int .i64 ma) ∧ w.cell? ⟨b, 1, none⟩ = some (.int .i64 mf) ∧ w.cell? ⟨b, 2, none⟩ = some (.int .i64 mn) ∧ w.cell? ⟨b, 3, none⟩ = some (.int .i64 mt) :=
  ⟨(new_cells h 0 (by simp)).1, (new_cells h 1 (by simp)).1, (new_cells h 2 (by simp)).1, (new_cells h 3 (by simp)).1⟩
def moveE (l : List Pt) (ma mf mn mt tt : Int) : Int := if Good l then if May ma mf mn mt tt then fewE (movL l ma mf mn mt tt) else 1 else 11
def moveL (l : List Pt) (ma mf mn mt tt : Int) : List Pt := if Good l then if May ma mf mn mt tt then fewL (movL l ma mf mn mt tt) else [] else []
/-- some were moved already -/
def movS (l : List Pt) (ma mf mn mt tt : Int) (seen : Int → Bool) (i : Int) : Option (Int × Int) := if seen i then movG (look l) ma mf mn mt tt i else look l i
theorem movS_done {l : List Pt} {ma mf mn mt tt : Int} {seen : Int → Bool} (h : ∀ i, movS l ma mf mn mt tt seen i ≠ none → seen i = true) : movS l ma mf mn mt tt seen = movG (look l) ma mf mn mt tt := by
  funext i
  have hi := h i
  unfold movS at hi ⊢
  by_cases c : seen i = true
  · rw [if_pos c]
  · rw [if_neg c] at hi ⊢
    have : look l i = none := by
      cases hl : look l i with
      | none => rfl
      | some y => exact absurd (hi (by rw [hl]; simp)) c
    rw [this]; unfold movG; rw [this]
theorem movS_yes {l : List Pt} {ma mf mn mt tt x a f : Int} {seen : Int → Bool} (hx : look l x = some (a, f)) (h : a = ma ∧ mf ≤ f ∧ f < mf + mn) :
    (fun z => if z = x then some (tt, f - mf + mt) else movS l ma mf mn mt tt seen z) = movS l ma mf mn mt tt (fun z => seen z || decide (z = x)) := by
  funext z
  unfold movS
  by_cases c : z = x
  · subst c
    rw [if_pos rfl, if_pos (by simp)]
    unfold movG; rw [hx]; simp only; rw [if_pos h]
  · rw [if_neg c]
    simp [c]
theorem movS_no {l : List Pt} {ma mf mn mt tt x a f : Int} {seen : Int → Bool} (hx : look l x = some (a, f)) (hs : seen x = false) (h : ¬ (a = ma ∧ mf ≤ f ∧ f < mf + mn)) :
    movS l ma mf mn mt tt seen = movS l ma mf mn mt tt (fun z => seen z || decide (z = x)) := by
  funext z
  unfold movS
  by_cases c : z = x
  · subst c
    rw [if_neg (by rw [hs]; simp), if_pos (by simp)]
    unfold movG; rw [hx]; simp only; rw [if_neg h]
  · simp [c]
def PlRange (w : World) (b r n : Nat) (g : Int → Option (Int × Int)) (seen : Int → Bool) (cnt : Nat) : Prop := RangeIs plV plOk spV w b r n g seen cnt
set_option maxHeartbeats 3200000 in
theorem move_any (oa : Option Addr) (cap : Nat) (l : List Pt) (ma mf mn mt tt : Int) (hb : (-9223372036854775808 ≤ mf ∧ mf ≤ 9223372036854775807)) (hl : l.length ≤ 9223372036854775807) (w : World) (h : PtsAt w.heap.size oa l w) :
    Calls Try.prog 45 #[.slice oa l.length cap, .agg #[.int .i64 ma, .int .i64 mf, .int .i64 mn, .int .i64 mt], .int .i64 tt] w fun e w' => ∃ v, e = .returned (.tuple #[v, .int .i64 (moveE l ma mf mn mt tt)]) ∧ Row w.heap.size w' v (moveL l ma mf mn mt tt) ∧ Below w.heap.size w w' := by
  have HP := Lib.hid (h.grow (below_alloc w (.cells #[.int .i64 ma, .int .i64 mf, .int .i64 mn, .int .i64 mt] 91)))
  have HBX := Lib.hid (MBox.made w ma mf mn mt)
  clear h
  by_cases hg : Good l
  · have HG : Hid (decide (Good l) = true) := Lib.hid (decide_eq_true hg)
    have hl64 := hg.1
    have HMay : Hid (May ma mf mn mt tt ↔ (addrB ma = true ∧ addrB tt = true ∧ decide (Whole mf mn 1024) = true ∧ decide (Whole mt mn 1024) = true)) := Lib.hid (by unfold May addrB; simp)
    have BAD : Hid (¬ May ma mf mn mt tt → moveE l ma mf mn mt tt = 1 ∧ moveL l ma mf mn mt tt = []) := Lib.hid fun hm => by
      unfold moveE moveL; rw [if_pos hg, if_pos hg, if_neg hm, if_neg hm]; exact ⟨rfl, rfl⟩
    cases hA : addrB ma with
    | false =>
      have HE := Lib.hid (BAD.out (by rw [HMay.out, hA]; simp))
      have HA := Lib.hid hA
      clear hg hA hl
      go_enter Try.func45, Try.ntmps45
      go_wp2_with (first
        | (go_at_call 48; refine (good_is _ _ _ _ HG.out (by omega) _ HP.out).mono ?_; rintro e w1 ⟨rfl, hb1⟩; have HBX1 := Lib.hid (HBX.out.grow hb1); have HB1 := Lib.hid (bstep (below_alloc w _) hb1); clear hb1; obtain ⟨p0, p1, p2, p3⟩ := HBX1.out.cells)
        | (go_at_call 57; refine (addr_is _ _ HA.out _).mono ?_; rintro e w2 ⟨rfl, rfl⟩))
      go_ret2
      exact ⟨.slice none 0 0, by rw [HE.out.1]; rfl, by rw [HE.out.2]; exact Row.nil _ _, HB1.out⟩
    | true =>
      cases hB : addrB tt with
      | false =>
        have HE := Lib.hid (BAD.out (by rw [HMay.out, hB]; simp))
        have HA := Lib.hid hA
        have HBd := Lib.hid hB
        clear hg hA hB hl
        go_enter Try.func45, Try.ntmps45
        go_wp2_with (first
          | (go_at_call 48; refine (good_is _ _ _ _ HG.out (by omega) _ HP.out).mono ?_; rintro e w1 ⟨rfl, hb1⟩; have HBX1 := Lib.hid (HBX.out.grow hb1); have HB1 := Lib.hid (bstep (below_alloc w _) hb1); clear hb1; obtain ⟨p0, p1, p2, p3⟩ := HBX1.out.cells)
          | (go_at_call_of 57 (Value.int IntKind.i64 ma); refine (addr_is _ _ HA.out _).mono ?_; rintro e w2 ⟨rfl, rfl⟩)
          | (go_at_call_of 57 (Value.int IntKind.i64 tt); refine (addr_is _ _ HBd.out _).mono ?_; rintro e w2 ⟨rfl, rfl⟩))
        go_ret2
        exact ⟨.slice none 0 0, by rw [HE.out.1]; rfl, by rw [HE.out.2]; exact Row.nil _ _, HB1.out⟩
      | true =>
        cases hC : decide (Whole mf mn 1024) with
        | false =>
          have HE := Lib.hid (BAD.out (by rw [HMay.out, hC]; simp))
          have HA := Lib.hid hA
          have HBd := Lib.hid hB
          have HC := Lib.hid hC
          clear hg hA hB hC hl
          go_enter Try.func45, Try.ntmps45
          go_wp2_with (first
            | (go_at_call 48; refine (good_is _ _ _ _ HG.out (by omega) _ HP.out).mono ?_; rintro e w1 ⟨rfl, hb1⟩; have HBX1 := Lib.hid (HBX.out.grow hb1); have HB1 := Lib.hid (bstep (below_alloc w _) hb1); clear hb1; obtain ⟨p0, p1, p2, p3⟩ := HBX1.out.cells)
            | (go_at_call_of 57 (Value.int IntKind.i64 ma); refine (addr_is _ _ HA.out _).mono ?_; rintro e w2 ⟨rfl, rfl⟩)
            | (go_at_call_of 57 (Value.int IntKind.i64 tt); refine (addr_is _ _ HBd.out _).mono ?_; rintro e w2 ⟨rfl, rfl⟩)
            | (go_at_call 58; refine (whole_is _ _ _ _ (.inr rfl) HC.out _).mono ?_; rintro e w2 ⟨rfl, rfl⟩))
          go_ret2
          exact ⟨.slice none 0 0, by rw [HE.out.1]; rfl, by rw [HE.out.2]; exact Row.nil _ _, HB1.out⟩
        | true =>
          cases hD : decide (Whole mt mn 1024) with
          | false =>
            have HE := Lib.hid (BAD.out (by rw [HMay.out, hD]; simp))
            have HA := Lib.hid hA
            have HBd := Lib.hid hB
            have HC := Lib.hid hC
            have HD := Lib.hid hD
            clear hg hA hB hC hD hl
            go_enter Try.func45, Try.ntmps45
            go_wp2_with (first
              | (go_at_call 48; refine (good_is _ _ _ _ HG.out (by omega) _ HP.out).mono ?_; rintro e w1 ⟨rfl, hb1⟩; have HBX1 := Lib.hid (HBX.out.grow hb1); have HB1 := Lib.hid (bstep (below_alloc w _) hb1); clear hb1; obtain ⟨p0, p1, p2, p3⟩ := HBX1.out.cells)
              | (go_at_call_of 57 (Value.int IntKind.i64 ma); refine (addr_is _ _ HA.out _).mono ?_; rintro e w2 ⟨rfl, rfl⟩)
              | (go_at_call_of 57 (Value.int IntKind.i64 tt); refine (addr_is _ _ HBd.out _).mono ?_; rintro e w2 ⟨rfl, rfl⟩)
              | (go_at_call_of 58 (Value.int IntKind.i64 mf); refine (whole_is _ _ _ _ (.inr rfl) HC.out _).mono ?_; rintro e w2 ⟨rfl, rfl⟩)
              | (go_at_call_of 58 (Value.int IntKind.i64 mt); refine (whole_is _ _ _ _ (.inr rfl) HD.out _).mono ?_; rintro e w2 ⟨rfl, rfl⟩))
            go_ret2
            exact ⟨.slice none 0 0, by rw [HE.out.1]; rfl, by rw [HE.out.2]; exact Row.nil _ _, HB1.out⟩
          | true =>
            have hmay : May ma mf mn mt tt := HMay.out.2 ⟨hA, hB, hC, hD⟩
            have HE : Hid (moveE l ma mf mn mt tt = fewE (movL l ma mf mn mt tt) ∧ moveL l ma mf mn mt tt = fewL (movL l ma mf mn mt tt)) := Lib.hid (by
              unfold moveE moveL; rw [if_pos hg, if_pos hg, if_pos hmay, if_pos hmay]; exact ⟨rfl, rfl⟩)
            have HONES := Lib.hid (mov_ones hg hmay)
            have HGL := Lib.hid hg
            have hmb : 0 ≤ mf ∧ 1 ≤ mn ∧ mf + mn ≤ 1024 ∧ 0 ≤ mt ∧ mt + mn ≤ 1024 := by unfold May Whole at hmay; omega
            have HLB : Hid (∀ (i a f : Int), look l i = some (a, f) → plOk i ∧ 0 ≤ f ∧ f ≤ 1024) := Lib.hid fun i a f hi => by
              obtain ⟨p, hp, b1, b2, rfl, rfl⟩ := look_some hi
              have := (chain_ones hg.2 p hp).small
              exact ⟨plOk_of (by omega), by omega, by omega⟩
            have HA := Lib.hid hA
            have HBd := Lib.hid hB
            have HC := Lib.hid hC
            have HD := Lib.hid hD
            clear hg hA hB hC hD hl hmay
            go_enter Try.func45, Try.ntmps45
            go_wp2_with (first
              | (go_at_call 48; refine (good_is _ _ _ _ HG.out (by omega) _ HP.out).mono ?_; rintro e w1 ⟨rfl, hb1⟩; have HP1 := Lib.hid (HP.out.grow hb1); have HBX1 := Lib.hid (HBX.out.grow hb1); have HB1 := Lib.hid (bstep (below_alloc w _) hb1); clear hb1; obtain ⟨p0, p1, p2, p3⟩ := HBX1.out.cells)
              | (go_at_call_of 57 (Value.int IntKind.i64 ma); refine (addr_is _ _ HA.out _).mono ?_; rintro e w2 ⟨rfl, rfl⟩)
              | (go_at_call_of 57 (Value.int IntKind.i64 tt); refine (addr_is _ _ HBd.out _).mono ?_; rintro e w2 ⟨rfl, rfl⟩)
              | (go_at_call_of 58 (Value.int IntKind.i64 mf); refine (whole_is _ _ _ _ (.inr rfl) HC.out _).mono ?_; rintro e w2 ⟨rfl, rfl⟩)
              | (go_at_call_of 58 (Value.int IntKind.i64 mt); refine (whole_is _ _ _ _ (.inr rfl) HD.out _).mono ?_; rintro e w2 ⟨rfl, rfl⟩)
              | (go_at_call 59; refine (bytesof_any _ _ _ HGL.out _ HP1.out).mono ?_; rintro e w3 ⟨b, n, rfl, hm3, hbz, hb3⟩; have HBX3 := Lib.hid (HBX1.out.grow hb3); have HBZ := Lib.hid hbz; have HM3 := Lib.hid hm3; have HB3 := Lib.hid (bstep HB1.out hb3); clear hm3 hb3 hbz p0 p1 p2 p3)
              | (at_range; go_loud (refine wpList_map_range _ rfl _ 107 112 rfl Try.underlying107 b n _ HM3.out (by rfl) ?_; intro w4 cnt4 hr4 hc4 hb4 hs4; have HR4 := Lib.hid hr4; have HBX4 := Lib.hid (HBX3.out.grow hb4); have HB4 := Lib.hid (bstep HB3.out hb4); clear hr4 hb4 hc4)))
            go_frame
            have HBN : Hid (w3.heap.size ≠ b) := Lib.hid (by have := MapIs.lt HM3.out; omega)
            have HR0 : Hid (PlRange w4 b w3.heap.size n (movS l ma mf mn mt tt (fun _ => false)) (fun _ => false) cnt4) := Lib.hid HR4.out
            have HMR : Hid (w.heap.size ≠ b ∧ w.heap.size ≠ w3.heap.size) := Lib.hid ⟨by have := HBZ.out; have := HB1.out.size; have := lt_of_block HBX1.out; omega, by have := lt_of_block HBX3.out; omega⟩
            have HBZ3 : Hid (w.heap.size ≤ b ∧ w.heap.size ≤ w3.heap.size) := Lib.hid ⟨by have := HBZ.out; have := HB1.out.size; omega, HB3.out.size⟩
            generalize hr : w3.heap.size = r at *
            clear hr hs4
            go_loopw [48] (fun _ wr => ∃ (seen : Int → Bool) (cnt : Nat), PlRange wr b r n (movS l ma mf mn mt tt seen) seen cnt ∧ MBox wr w.heap.size ma mf mn mt ∧ Below w.heap.size w wr) (fun _ wr => rangeLeft wr b r)
            case atStart => exact ⟨_, _, HR0.out, HBX4.out, HB4.out⟩
            case round =>
              obtain ⟨seen, cnt, hrg, hbx, hbel⟩ := hrel
              have HR := Lib.hid hrg
              have HX := Lib.hid hbx
              have HB := Lib.hid hbel
              have HLEFT := Lib.hid (RangeIs.left hrg)
              clear hrg hbx hbel
              go_wp2_with (at_next; go_loud (refine wpList_map_next _ rfl _ rfl plMK b r n cnt _ seen (by rfl) HR.out ?_ ?_))
              · intro hdone
                have HF : Hid (PlIs wr b n (movG (look l) ma mf mn mt tt)) := Lib.hid (MapIs.congr (RangeIs.map HR.out) (movS_done hdone))
                clear hdone
                go_wp2_with (go_at_call 60; refine (parts_any b n _ HONES.out _ HF.out).mono ?_; rintro e w7 ⟨v7, rfl, hr7, hb7⟩; have HR7 := Lib.hid (hr7.mono HB.out.size); have HB7 := Lib.hid (bstep HB.out hb7); clear hr7 hb7)
                go_ret2
                exact ⟨v7, by rw [HE.out.1]; rfl, by rw [HE.out.2]; exact HR7.out, HB7.out⟩
              · intro x a f w5 cnt5 hokx hgx hsx hr5 hc5 ho5 hs5 hen
                have hlx : look l x = some (a, f) := by unfold movS at hgx; rw [hsx] at hgx; simpa using hgx
                have hen' : (Instr.entry (.pointer (some ⟨r, 0, none⟩))).run Try.prog w5 = .ok (.tuple #[.agg #[.int .i64 x], .agg #[.int .i64 a, .int .i64 f]]) w5 := hen
                have hfb := (HLB.out x a f hlx).2
                have HOKX := Lib.hid hokx
                have HGX : Hid (movS l ma mf mn mt tt seen x ≠ none) := Lib.hid (by rw [hgx]; simp)
                have HLX := Lib.hid hlx
                have HSX := Lib.hid hsx
                have HR5 := Lib.hid hr5
                have HC5 := Lib.hid hc5
                have HX5 := Lib.hid (HX.out.only ho5 HMR.out.2)
                have HB5 := Lib.hid (HB.out.trans (ho5.below HBZ3.out.2 HB.out.size))
                obtain ⟨p0, p1, p2, p3⟩ := HX5.out.cells
                have hzw := lt_of_block HX5.out
                have hw1 : IntKind.i64.wrap (mf + mn) = mf + mn := IntWalk.i64_in _ (by omega)
                have hw2 : IntKind.i64.wrap (f - mf) = f - mf := IntWalk.i64_in _ (by omega)
                have hw3 : IntKind.i64.wrap (f - mf + mt) = f - mf + mt := IntWalk.i64_in _ (by omega)
                clear hen hokx hgx hlx hsx hr5 hc5 ho5 hs5
                have NO : Hid (¬ (a = ma ∧ mf ≤ f ∧ f < mf + mn) → ∀ wz, Below w5.heap.size w5 wz → (∃ (seen' : Int → Bool) (cnt' : Nat), PlRange wz b r n (movS l ma mf mn mt tt seen') seen' cnt' ∧ MBox wz w.heap.size ma mf mn mt ∧ Below w.heap.size w wz) ∧ rangeLeft wz b r < rangeLeft wr b r) := Lib.hid fun hn wz hz => by
                  have hq : PlRange wz b r n (movS l ma mf mn mt tt (fun z => seen z || decide (z = x))) (fun z => seen z || decide (z = x)) cnt5 := by
                    have := RangeIs.keep HR5.out hz
                    rwa [movS_no HLX.out HSX.out hn] at this
                  exact ⟨⟨_, _, hq, HX5.out.grow hz, bstep HB5.out hz⟩, by rw [RangeIs.left hq, HLEFT.out]; exact HC5.out⟩
                by_cases e1 : a = ma
                · have d1 : (a == ma) = true := by rw [beq_iff_eq]; exact e1
                  by_cases e2 : mf ≤ f
                  · by_cases e3 : f < mf + mn
                    · have HYES : Hid (a = ma ∧ mf ≤ f ∧ f < mf + mn) := Lib.hid (And.intro e1 (And.intro e2 e3))
                      clear e1
                      go_wp2_with (at_mapUpdate; go_loud (refine wpList_range_store _ rfl _ _ _ 107 112 rfl plMK Try.underlying107 b r n cnt5 _ _ (RangeIs.keep (RangeIs.keep HR5.out (below_alloc _ _)) (below_alloc _ _)) (by rfl) x (tt, f - mf + mt) HOKX.out HGX.out (by rfl) (by rfl) ?_; intro w6 hr6 ho6 hs6; have HR6 := Lib.hid hr6; have HO6 := Lib.hid ho6; clear hr6 ho6; go_frame))
                      have hq : PlRange w6 b r n (movS l ma mf mn mt tt (fun z => seen z || decide (z = x))) (fun z => seen z || decide (z = x)) cnt5 := by
                        have := HR6.out
                        rwa [movS_yes HLX.out HYES.out] at this
                      have hbl := bstep (bstep HB5.out (below_alloc w5 (.cells #[.int .i64 x] 110))) (below_alloc _ (.cells #[.int .i64 a, .int .i64 f] 112))
                      exact ⟨⟨_, _, hq, ((HX5.out.grow (below_alloc w5 _)).grow (below_alloc _ _)).only HO6.out HMR.out.1, hbl.trans (HO6.out.below HBZ3.out.1 hbl.size)⟩, by rw [RangeIs.left hq, HLEFT.out]; exact HC5.out⟩
                    · have NOX := Lib.hid (fun (h : a = ma ∧ mf ≤ f ∧ f < mf + mn) => e3 h.2.2)
                      have e3' : decide (f < mf + mn) = false := decide_eq_false e3
                      clear e1 e3
                      go_wp2_with fail
                      exact NO.out NOX.out _ (bstep (below_alloc w5 _) (below_alloc _ _))
                  · have NOX := Lib.hid (fun (h : a = ma ∧ mf ≤ f ∧ f < mf + mn) => e2 h.2.1)
                    have e2' : decide (mf ≤ f) = false := decide_eq_false e2
                    clear e1 e2
                    go_wp2_with fail
                    exact NO.out NOX.out _ (bstep (below_alloc w5 _) (below_alloc _ _))
                · have NOX := Lib.hid (fun (h : a = ma ∧ mf ≤ f ∧ f < mf + mn) => e1 h.1)
                  have d1 : (a == ma) = false := by rw [beq_eq_false_iff_ne]; exact e1
                  clear e1
                  go_wp2_with fail
                  exact NO.out NOX.out _ (bstep (below_alloc w5 _) (below_alloc _ _))
  · have HG : Hid (decide (Good l) = false) := Lib.hid (decide_eq_false hg)
    have HE : Hid (moveE l ma mf mn mt tt = 11 ∧ moveL l ma mf mn mt tt = []) := Lib.hid (by unfold moveE moveL; rw [if_neg hg, if_neg hg]; exact ⟨rfl, rfl⟩)
    clear hg
    go_enter Try.func45, Try.ntmps45
    go_wp2_with (go_at_call 48; refine (good_is _ _ _ _ HG.out (by omega) _ HP.out).mono ?_; rintro e w1 ⟨rfl, hb1⟩; have HB1 := Lib.hid (bstep (below_alloc w _) hb1); clear hb1)
    go_ret2
    exact ⟨.slice none 0 0, by rw [HE.out.1]; rfl, by rw [HE.out.2]; exact Row.nil _ _, HB1.out⟩
end Go.Proofs.Ytappgelpigoknaa.ExtW
