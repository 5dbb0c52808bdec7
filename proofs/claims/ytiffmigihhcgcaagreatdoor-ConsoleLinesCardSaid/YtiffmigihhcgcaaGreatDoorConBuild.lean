/- strings.Builder in a block of its own; console.hex. -/
import Derived.Test.YtiffmigihhcgcaaGreatDoorConRead
import Derived.Lib.Builder
import Derived.Lib.AppendStr
import Derived.Lib.UnsafeStr
namespace Go.Proofs.YtiffmigihhcgcaaGreatDoor.ConW
open Go.RowKit ConP
set_option maxRecDepth 100000
/-- the builder in block b, made from block B on, holding bytes -/
structure BdAt (B b : Nat) (l : List UInt8) (w : World) : Prop where
  base : B ≤ b
  ex : ∃ p v, (p = .pointer none ∨ p = .pointer (some ⟨b, 0, none⟩)) ∧ w.heap[b]? = some (.cells #[p, v] 81 (0, 0)) ∧ w.ownsRow B 5 1 v l.length (Lib.byteCells l) ∧ v.ownBlock ≠ some b
theorem u8infoB : (Tryz.prog.info? 5).map (fun i => (i.zero, i.size, i.bytes)) = some (some (.int .u8 0), 1, 1) := by kernel_rfl
theorem bdinfo : (Tryz.prog.info? 81).map (fun i => i.size) = some 2 := by kernel_rfl
theorem bdlies : liesAt Tryz.prog Tryz.prog.depth 81 (2 / Tryz.prog.cellsOf 81) 0 81 1 = true := by kernel_rfl
set_option maxHeartbeats 400000 in
theorem check_used (b : Nat) (w : World) (h0 : w.cell? ⟨b, 0, none⟩ = some (.pointer (some ⟨b, 0, none⟩))) :
    Calls Tryz.prog 51 #[.pointer (some ⟨b, 0, none⟩)] w fun e w' => e = .returned (.tuple #[]) ∧ w = w' := by
  obtain ⟨j, hj, _⟩ := Option.map_eq_some_iff.1 bdinfo
  go_enter Tryz.func51, Tryz.ntmps51
  go_wp2
  rw [Lib.run_neq_ptr_same w _ Tryz.underlying78 hj]
  go_wp2
  go_end0
  exact ⟨rfl, rfl⟩
set_option maxHeartbeats 400000 in
theorem check_fresh (b : Nat) (w : World) (h0 : w.cell? ⟨b, 0, none⟩ = some (.pointer none)) (hsh : w.shape? b = some (81, 2)) (hfz : w.frozen? ⟨b, 0, none⟩ = false) :
    Calls Tryz.prog 51 #[.pointer (some ⟨b, 0, none⟩)] w fun e w' => e = .returned (.tuple #[]) ∧ w.setCell ⟨b, 0, none⟩ (.pointer (some ⟨b, 0, none⟩)) = w' := by
  obtain ⟨j, hj, hjs⟩ := Option.map_eq_some_iff.1 bdinfo
  go_enter Tryz.func51, Tryz.ntmps51
  go_wp2
  rw [Lib.run_to_unsafe w ⟨b, 0, none⟩ Tryz.underlying78 Tryz.underlying119 hj (by rw [hjs]; decide) hsh (Nat.zero_lt_succ 1)]
  simp only [Result.andThen]
  rw [Oper.upon_value]
  go_wp2
  rw [run_callFunc_extern Tryz.func64 (by kernel_rfl) (by kernel_rfl) (by kernel_rfl) (e := Extern.AbiNoEscape.same) (by kernel_rfl)]
  rw [Lib.run_noEscape]
  simp only [Result.andThen]
  rw [Oper.upon_value]
  go_wp2
  rw [Lib.run_from_unsafe w ⟨b, 0, none⟩ Tryz.underlying119 Tryz.underlying78 hj hsh bdlies]
  simp only [Result.andThen]
  rw [Oper.upon_value]
  go_wp2
  go_end0
  exact ⟨rfl, rfl⟩

/-- a builder that has been written to: what copyCheck leaves -/
theorem check_any (B b : Nat) (l : List UInt8) (w : World) (h : BdAt B b l w) :
    Calls Tryz.prog 51 #[.pointer (some ⟨b, 0, none⟩)] w fun e w' => e = .returned (.tuple #[]) ∧
      (∃ v, w'.heap[b]? = some (.cells #[.pointer (some ⟨b, 0, none⟩), v] 81 (0, 0)) ∧ w'.ownsRow B 5 1 v l.length (Lib.byteCells l) ∧ v.ownBlock ≠ some b) ∧ Fr B b w w' := by
  obtain ⟨hB, p, v, hp, hbk, hown, hne⟩ := h
  have c0 : w.cell? ⟨b, 0, none⟩ = some p := by rw [Lib.cell_of_heap hbk]; rfl
  rcases hp with rfl | rfl
  · have hsh : w.shape? b = some (81, 2) := by simp [World.shape?, hbk]
    refine (check_fresh b w c0 hsh (Lib.frozen_of_heap hbk 0)).mono ?_
    rintro e w' ⟨rfl, rfl⟩
    refine ⟨rfl, ⟨v, ?_, ?_, hne⟩, (Fr.refl B b w).setCell 0 hB _⟩
    · rw [heap_setCell_same w b 0 _ _ _ hbk]; rfl
    · exact ownsRow_setCell_other hown (a := ⟨b, 0, none⟩) hne _
  · refine (check_used b w c0).mono ?_
    rintro e w' ⟨rfl, rfl⟩
    exact ⟨rfl, ⟨v, hbk, hown, hne⟩, Fr.refl B b _⟩
theorem strCells_app (l : List UInt8) (s : ByteArray) : Lib.byteCells l ++ Lib.strCells s = Lib.byteCells (l ++ s.data.toList) := by
  simp [Lib.byteCells, Lib.strCells]

theorem us_none (W : World) (q : Option Addr) : (Builtin.unsafeString_ #[104, 3] 9 #[.pointer q, .int .i64 0]).run Tryz.prog W = .ok (.string .empty) W :=
  Lib.run_unsafeString_none W _ _ _ q
set_option maxHeartbeats 400000 in
theorem string_some (B b g cap : Nat) (p : Value) (l : List UInt8) (cur : Array Value) (w : World) (h0 : l ≠ []) (hbk : w.heap[b]? = some (.cells #[p, .slice (some ⟨g, 0, none⟩) l.length cap] 81 (0, 0)))
    (hbg : B ≤ g) (hg : w.heap[g]? = some (.cells cur 5 (0, 0))) (hnc : l.length ≤ cap) (hcm : cap ≤ maxLen) (hcs : cur.size = cap) (hown : w.ownsRow B 5 1 (.slice (some ⟨g, 0, none⟩) l.length cap) l.length (Lib.byteCells l)) :
    Calls Tryz.prog 37 #[.pointer (some ⟨b, 0, none⟩)] w fun e w' => e = .returned (.string ⟨l.toArray⟩) ∧ Fr B b w w' := by
  have hl0 : l.length ≠ 0 := by simpa using h0
  have c1 : w.drew.cell? ⟨b, 1, none⟩ = some (.slice (some ⟨g, 0, none⟩) l.length cap) := by
    have : w.drew.heap[b]? = some (.cells #[p, .slice (some ⟨g, 0, none⟩) l.length cap] 81 (0, 0)) := hbk
    rw [Lib.cell_of_heap this]; rfl
  have hSD : (Builtin.unsafeSliceData_ #[79] 104 #[.slice (some ⟨g, 0, none⟩) l.length cap]).run Tryz.prog w.drew = .ok (.pointer (some ⟨g, 0, none⟩)) w.drew :=
    Lib.run_unsafeSliceData_row _ _ _ _ _ _ (by omega)
  have hUS : (Builtin.unsafeString_ #[104, 3] 9 #[.pointer (some ⟨g, 0, none⟩), .int .i64 l.length]).run Tryz.prog w.drew = .ok (.string ⟨l.toArray⟩) (w.drew.freeze ⟨g, 0, none⟩ l.length) := by
    refine Lib.run_unsafeString_row w.drew 104 3 9 5 Tryz.underlying104 (by kernel_rfl) g cur.size (by have hg' : w.drew.heap[g]? = some (.cells cur 5 (0, 0)) := hg; simp [World.shape?, hg']) l h0 (by omega) (by unfold maxLen at hcm; omega) ?_
    intro j x hx
    exact hown.cells (g := g) rfl j (.int .u8 x.toNat) (by simp [Lib.byteCells, hx])
  have HG := Lib.hid hg
  clear hbk hg hown
  go_enter Tryz.func37, Tryz.ntmps37
  go_wp2
  go_region
  all_goals (go_wp2; go_ret; exact ⟨rfl, ((Fr.refl B b w).drew).freeze (w := w.drew) HG.out hbg⟩)
set_option maxHeartbeats 800000 in
theorem wbyte_any (B b : Nat) (l : List UInt8) (c : UInt8) (w : World) (h : BdAt B b l w) (hlen : l.length + 1 ≤ 1000000000) (hBw : B ≤ w.heap.size) :
    Calls Tryz.prog 36 #[.pointer (some ⟨b, 0, none⟩), .int .u8 (c.toNat : Int)] w fun e w' => e = .returned .nilIface ∧ BdAt B b (l ++ [c]) w' ∧ Fr B b w w' := by
  have hB := h.base
  obtain ⟨i0, hi, hz0, hz1, hz2⟩ := info_parts u8infoB
  have H := Lib.hid h
  clear h
  go_enter Tryz.func36, Tryz.ntmps36
  go_wp2_with fail
  refine (check_any B b l _ H.out).mono ?_
  rintro e w1 ⟨rfl, ⟨v, hbk, hown, hne⟩, hb1⟩
  obtain ⟨ao, cap, rfl⟩ : ∃ ao cap, v = .slice ao l.length cap := by
    rcases hown.2 with ⟨hv, h0⟩ | ⟨g, cap, cur, hv, _⟩
    · exact ⟨none, 0, by rw [hv, h0]⟩
    · exact ⟨_, _, hv⟩
  have c1 : w1.cell? ⟨b, 1, none⟩ = some (.slice ao l.length cap) := by rw [Lib.cell_of_heap hbk]; rfl
  have HBK := Lib.hid hbk
  have HOWN := Lib.hid hown
  have HNE := Lib.hid hne
  have HB1 := Lib.hid hb1
  have HBW : Hid (B ≤ w1.heap.size) := Lib.hid (Nat.le_trans hBw hb1.size)
  have HLT : Hid (b < w1.heap.size) := Lib.hid (lt_of_block hbk)
  have HBC : Hid (Lib.byteCells (l ++ [c]) = Lib.byteCells l ++ [.int .u8 (c.toNat : Int)]) := Lib.hid (by rw [Lib.byteCells_append]; rfl)
  clear hbk hown hne hb1
  go_wp2_with (at_builtin; refine wpList_append_new rfl _ _ 79 rfl B 5 i0 (.int .u8 0) 1 1 Tryz.underlying79 hi hz0 hz1 hz2 rfl (by decide) _ _ _ (by rfl) HOWN.out 1 1 (by rfl) rfl (by simp; rfl) (by unfold maxLen; omega) (by omega) HBW.out ?_; intro oa2 cap2 w2 hown2 hbel2 hgrow; have hb2 : w2.heap[b]? = some (.cells #[.pointer (some ⟨b, 0, none⟩), .slice ao l.length cap] 81 (0, 0)) := (by rw [hgrow.block b HLT.out (fun e => HNE.out e.symm)]; exact HBK.out); have d1 : w2.cell? ⟨b, 1, none⟩ = some (.slice ao l.length cap) := (by rw [Lib.cell_of_heap hb2]; rfl); have f1 : w2.frozen? ⟨b, 1, none⟩ = false := Lib.frozen_of_heap hb2 1; have HN2 : Hid ((Value.slice oa2 (l.length + 1) cap2).ownBlock ≠ some b) := Lib.hid (Lib.ownBlock_ne hown2 hb2 (by decide)); have HO2 := Lib.hid hown2; have HB2 := Lib.hid hb2; have HG2 := Lib.hid hgrow; clear hown2 hbel2 hgrow hb2)
  go_ret
  refine ⟨rfl, ⟨hB, _, .slice oa2 (l.length + 1) cap2, .inr rfl, ?_, ?_, HN2.out⟩, ?_⟩
  · rw [heap_setCell_same w2 b 1 _ _ _ HB2.out]; rfl
  · have h3 := ownsRow_setCell_other HO2.out (a := ⟨b, 1, none⟩) HN2.out (.slice oa2 (l.length + 1) cap2)
    rw [HBC.out, List.length_append]; exact h3
  · exact (HB1.out.grown HG2.out HOWN.out HBW.out).setCell 1 hB _
theorem own_nilB (w : World) (B : Nat) : w.ownsRow B 5 1 (.slice none 0 0) 0 [] := ⟨rfl, .inl ⟨rfl, rfl⟩⟩
theorem hexB_take {l : Bs} {k : Nat} {c : UInt8} (h : l[k]? = some c) : hexB (l.take (k + 1)) = hexB (l.take k) ++ [hexD (c.toNat / 16)] ++ [hexD (c.toNat % 16)] := by
  rw [List.take_add_one, h]
  unfold hexB
  rw [List.flatMap_append]
  simp
theorem hexB_len (l : Bs) : (hexB l).length = 2 * l.length := by
  unfold hexB
  induction l with
  | nil => rfl
  | cons c l ih => rw [List.flatMap_cons, List.length_append, ih]; simp; omega
theorem idx_is (s : ByteArray) (k : Nat) (h : k < s.size) (c : UInt8) (hc : s[k]'h = c) (w : World) : (Instr.index 9 (.string s) (.int .i64 (k : Int))).run Tryz.prog w = .ok (.int .u8 (c.toNat : Int)) w := by
  rw [run_index_string w 9 s .i64 _ Tryz.underlying9, dif_pos ⟨by omega, by omega⟩]
  subst hc
  rfl
theorem idx_dig (n : Nat) (h : n < 16) (w : World) : (Instr.index 9 (.string ⟨#[48, 49, 50, 51, 52, 53, 54, 55, 56, 57, 97, 98, 99, 100, 101, 102]⟩) (.int .u8 (n : Int))).run Tryz.prog w = .ok (.int .u8 ((hexD n).toNat : Int)) w := by
  have e : digS[n]'h = hexD n := digS_at ⟨n, h⟩
  have hz : n < digS.size := h
  show (Instr.index 9 (.string digS) (.int .u8 (n : Int))).run Tryz.prog w = _
  rw [run_index_string w 9 digS .u8 _ Tryz.underlying9, dif_pos ⟨by omega, by omega⟩, ← e]
  rfl
theorem and_all : ∀ c : Fin 256, bits .and .u8 (c.val : Int) 15 = ((c.val % 16 : Nat) : Int) := by decide +kernel
theorem and_is (c : UInt8) : bits .and .u8 (c.toNat : Int) 15 = ((c.toNat % 16 : Nat) : Int) := and_all ⟨c.toNat, c.toNat_lt⟩
theorem string_any' (B b : Nat) (l : List UInt8) (w : World) (h0 : l ≠ []) (h : BdAt B b l w) :
    Calls Tryz.prog 37 #[.pointer (some ⟨b, 0, none⟩)] w fun e w' => e = .returned (.string ⟨l.toArray⟩) ∧ Fr B b w w' := by
  obtain ⟨hB, p, v, hp, hbk, hown, hne⟩ := h
  rcases hown.2 with ⟨_, h1⟩ | ⟨g, cap, cur, rfl, hbg, hg, hnc, hcm, hcs, _⟩
  · exact absurd (List.eq_nil_of_length_eq_zero h1) h0
  · exact string_some B b g cap p l cur w h0 hbk hbg hg hnc hcm (by rw [hcs, Nat.mul_one]) hown
set_option maxHeartbeats 1600000 in
theorem hex_any (s : ByteArray) (hs : s.size ≤ 1000000) (w : World) :
    Calls Tryz.prog 22 #[.string s] w fun e w' => e = .returned (.string (bs (hexS s.data.toList))) ∧ Below w.heap.size w w' := by
  have hlen := PathW.list_size s
  by_cases h0 : s.data.toList = []
  · have h1 : (s.toList == []) = true := by rw [Lib.toList_data, h0]; rfl
    have HS : Hid (hexS s.data.toList = [45]) := Lib.hid (by rw [h0]; rfl)
    clear h0 hlen
    go_enter Tryz.func22, Tryz.ntmps22
    go_wp2_with fail
    go_ret
    exact ⟨by rw [HS.out]; rfl, Below.refl _ _⟩
  · have h1 : (s.toList == []) = false := by rw [Lib.toList_data, beq_eq_false_iff_ne]; exact h0
    have HS : Hid (hexS s.data.toList = hexB s.data.toList) := Lib.hid (if_neg h0)
    have HNE : Hid (s.data.toList ≠ []) := Lib.hid h0
    have HLEN := Lib.hid hlen
    have GET := Lib.hid (PathW.getD_at s)
    have hb0 := below_alloc w (.cells #[.pointer none, .slice none 0 0] 81)
    have HB0 := Lib.hid hb0
    have HA : Hid (BdAt w.heap.size w.heap.size [] (w.alloc (.cells #[.pointer none, .slice none 0 0] 81))) := Lib.hid ⟨Nat.le_refl _, _, _, .inl rfl, heap_alloc_new w _, own_nilB _ _, by simp [Value.ownBlock]⟩
    clear h0 hlen hb0
    go_enter Tryz.func22, Tryz.ntmps22
    go_wp2_with fail
    generalize w.alloc (.cells #[.pointer none, .slice none 0 0] 81) = w1 at *
    obtain ⟨B, hB⟩ : ∃ B, B = w.heap.size := ⟨_, rfl⟩
    rw [← hB] at HA
    have HBW : Hid (B ≤ w1.heap.size) := Lib.hid (by rw [hB]; exact HB0.out.size)
    have HBE0 : Hid (B = w.heap.size) := Lib.hid hB
    rw [← hB]
    clear hB
    go_loopw [9] (fun c wr => ∃ k : Nat, k ≤ s.size ∧ c = .int .i64 (k : Int) ∧ BdAt B B (hexB (s.data.toList.take k)) wr ∧ Fr B B w1 wr) (fun c _ => ((s.size : Int) - intOf c).toNat)
    case atStart => exact ⟨0, by omega, rfl, by simpa [hexB] using HA.out, Fr.refl _ _ _⟩
    case round =>
      obtain ⟨k, hk, rfl, hbd, hfr⟩ := hrel
      have HBD := Lib.hid hbd
      have HFR := Lib.hid hfr
      clear hbd hfr
      by_cases hlt : k < s.size
      · have hk1 : (k : Int) < (s.size : Int) := by omega
        obtain ⟨c, hc⟩ : ∃ c, c = s[k]'hlt := ⟨_, rfl⟩
        have hget := idx_is s k hlt c hc.symm wr
        obtain ⟨hi, hhi⟩ : ∃ hi : Nat, hi = c.toNat / 16 := ⟨_, rfl⟩
        obtain ⟨lo, hlo⟩ : ∃ lo : Nat, lo = c.toNat % 16 := ⟨_, rfl⟩
        have h16 : c.toNat < 256 := c.toNat_lt
        have e1 : ((c.toNat : Int) / 16) = (hi : Int) := by rw [hhi]; rfl
        have e3 := idx_dig hi (by omega) wr
        have HNX : Hid (hexB (s.data.toList.take (k + 1)) = hexB (s.data.toList.take k) ++ [hexD hi] ++ [hexD lo]) := Lib.hid (by
          rw [hhi, hlo]
          apply hexB_take
          rw [hc, ← GET.out k hlt]
          rw [List.getD_eq_getElem?_getD, List.getElem?_eq_getElem (by rw [HLEN.out]; exact hlt)]
          rfl)
        have HLO : Hid (lo < 16 ∧ lo = c.toNat % 16) := Lib.hid (by omega)
        have HLB : Hid ((hexB (s.data.toList.take k)).length ≤ 2 * s.size) := Lib.hid (by rw [hexB_len, List.length_take, HLEN.out]; omega)
        have HC := Lib.hid hc
        clear hhi hlo hc
        go_wp2_with fail
        refine (wbyte_any B B (hexB (s.data.toList.take k)) (hexD hi) wr HBD.out (by have := HLB.out; omega) (Nat.le_trans HBW.out HFR.out.size)).mono ?_
        rintro e w2 ⟨rfl, hbd2, hfr2⟩
        have HBD2 := Lib.hid hbd2
        have HFR2 : Hid (Fr B B w1 w2) := Lib.hid (HFR.out.trans hfr2)
        clear hbd2 hfr2 hget e1 e3
        have hget := idx_is s k hlt c HC.out.symm w2
        have e2 : bits .and .u8 (c.toNat : Int) 15 = (lo : Int) := (by rw [HLO.out.2]; exact and_is c)
        have e3 := idx_dig lo HLO.out.1 w2
        go_wp2_with fail
        refine (wbyte_any B B _ (hexD lo) w2 HBD2.out (by rw [List.length_append]; have := HLB.out; simp; omega) (Nat.le_trans HBW.out HFR2.out.size)).mono ?_
        rintro e w3 ⟨rfl, hbd3, hfr3⟩
        have HBD3 := Lib.hid hbd3
        have HFR3 : Hid (Fr B B w1 w3) := Lib.hid (HFR2.out.trans hfr3)
        clear hbd3 hfr3 hget e2 e3
        go_wp2_with fail
        exact ⟨⟨k + 1, by omega, by simp, by rw [HNX.out]; exact HBD3.out, HFR3.out⟩, by simp [intOf]; omega⟩
      · obtain rfl : k = s.size := by omega
        have HTA : Hid (s.data.toList.take s.size = s.data.toList) := Lib.hid (List.take_of_length_le (by rw [HLEN.out]; exact Nat.le_refl _))
        have HBE : Hid (BdAt B B (hexB s.data.toList) wr) := Lib.hid (by have h := HBD.out; rw [HTA.out] at h; exact h)
        have HNB : Hid (hexB s.data.toList ≠ []) := Lib.hid (by
          intro e
          have := congrArg List.length e
          rw [hexB_len] at this
          rw [List.length_nil] at this
          exact HNE.out (List.eq_nil_of_length_eq_zero (by omega)))
        clear hlt hk
        go_wp2_with fail
        refine (string_any' B B _ wr HNB.out HBE.out).mono ?_
        rintro e w4 ⟨rfl, hfr4⟩
        have HFR4 : Hid (Fr B B w1 w4) := Lib.hid (HFR.out.trans hfr4)
        clear hfr4
        go_wp2_with fail
        go_ret
        exact ⟨by rw [HS.out]; rfl, by have h := HB0.out; rw [← HBE0.out] at h ⊢; exact h.trans HFR4.out.below⟩
end Go.Proofs.YtiffmigihhcgcaaGreatDoor.ConW
