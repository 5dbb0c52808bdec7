/- wakes. -/
import Derived.Test.YtiffmigihhcgcaaGreatDoorConTell
import Derived.Test.YtiffmigihhcgcaaGreatDoorConLineP
namespace Go.Proofs.YtiffmigihhcgcaaGreatDoor.ConW
set_option maxRecDepth 100000
set_option linter.constructorNameAsVariable false
set_option linter.unusedVariables false
open Go.RowKit ConP OpP OpW
/-- the text of a step that was read -/
theorem parse_text {t : Bs} {s : Stp} (h : parseP (wds t) = some s) : ∀ x ∈ forms, x.key = s.key → joinW (lineL x s) = t := by
  intro x hx hk
  rw [text_is x hx s hk]
  have h1 := line_back h
  rw [line_is] at h1
  unfold rline at h1
  split at h1
  · injection h1
  · cases h1
theorem lineR_back {t : Bs} {s : Stp} (h : parseP (wds t) = some s) : lineR s true = .tuple #[.string (bs t), .int .i64 0] := by
  unfold lineR; rw [line_back h]
theorem put_num {s t : Stp} {p : Pl} {w : Bs} (h : putW s p w = some t) (hs : Num s) (hw : w.length ≤ 1000000) : Num t := by
  cases p
  all_goals first
    | (simp only [putW] at h
       cases hn : numW w with
       | none => rw [hn] at h; cases h
       | some n =>
         rw [hn] at h
         simp only [Option.map_some, Option.some.injEq] at h
         have hb := numW_lt hn
         subst h
         refine ⟨fun q => ?_, hs.d⟩
         have hq := hs.n q
         cases q <;> simp only [getN, setN] at hq ⊢ <;> omega)
    | (simp only [putW] at h
       split at h
       · injection h with h
         subst h
         exact ⟨fun q => by have hq := hs.n q; cases q <;> exact hq, hs.d⟩
       · cases h)
    | (simp only [putW] at h
       cases hn : hexW w with
       | none => rw [hn] at h; cases h
       | some v =>
         rw [hn] at h
         simp only [Option.map_some, Option.some.injEq] at h
         subst h
         refine ⟨fun q => by have hq := hs.n q; cases q <;> exact hq, ?_⟩
         show (bs v).size ≤ 1000000
         rw [bs_size]
         unfold hexW at hn
         split at hn
         · injection hn with hn; subst hn; simp
         · split at hn
           · cases hn
           · have := hexP_len hn; omega)
theorem putAll_num : ∀ {ps : List Pl} {ws : List Bs} {s t : Stp}, putAll s ps ws = some t → Num s → (∀ w ∈ ws, w.length ≤ 1000000) → Num t
  | [], [], _, _, h, hs, _ => by injection h with h; rw [← h]; exact hs
  | [], _ :: _, _, _, h, _, _ => by simp [putAll] at h
  | _ :: _, [], _, _, h, _, _ => by simp [putAll] at h
  | p :: ps, w :: ws, s, t, h, hs, hw => by
    rw [putAll] at h
    cases hp : putW s p w with
    | none => rw [hp] at h; cases h
    | some s' =>
      rw [hp] at h
      exact putAll_num (s := s') h (put_num hp hs (hw w (by simp))) (fun v hv => hw v (by simp [hv]))
theorem stp0_num : ∀ x ∈ forms, Num (stp0 x.k x.c x.o) := by
  intro x hx
  refine ⟨fun p => ?_, Nat.zero_le _⟩
  cases p <;> simp [getN, stp0, cal0, rec0]
theorem parse_num {t : Bs} {s : Stp} (h : parseP (wds t) = some s) (ht : t.length ≤ 1000000) : Num s := by
  obtain ⟨x, hx, hf⟩ := parseP_some h
  have hw : ∀ y ∈ wds t, y.length ≤ 1000000 := fun y hy => by have := (wds_len t).2 y hy; omega
  unfold parseF at hf
  cases hb : bodyW x (wds t) with
  | none => rw [hb] at hf; cases hf
  | some r =>
    rw [hb] at hf
    refine putAll_num hf (stp0_num x hx) (fun v hv => hw v ?_)
    unfold bodyW at hb
    split at hb
    · split at hb
      · rename_i a b c q he
        split at hb
        · injection hb with hb
          rw [← hb] at hv
          rw [he]
          rcases List.mem_cons.1 hv with rfl | hv
          · simp
          · simp [hv]
        · cases hb
      · cases hb
    · split at hb
      · rename_i a q he
        split at hb
        · injection hb with hb
          rw [← hb] at hv
          rw [he]; simp [hv]
        · cases hb
      · cases hb
theorem Parse_yes (s : ByteArray) (hs : s.size ≤ 1000000) (q : Stp) (h : parseP (wds s.data.toList) = some q) (w : World) (hv : PV w) :
    Calls Tryz.prog 10 #[.string s] w fun e w' => e = .returned (.tuple #[.agg (cellsS q noV 0 noV), .int .i64 0]) ∧ Below w.heap.size w w' := by
  have := Parse_any s hs w hv
  rw [parseR_some h] at this; exact this
theorem Parse_no (s : ByteArray) (hs : s.size ≤ 1000000) (h : parseP (wds s.data.toList) = none) (w : World) (hv : PV w) :
    Calls Tryz.prog 10 #[.string s] w fun e w' => e = .returned (.tuple #[.agg zeroS, .int .i64 320]) ∧ Below w.heap.size w w' := by
  have := Parse_any s hs w hv
  rw [parseR_none h] at this; exact this
def wakeT : Bs := [99, 32, 51, 32, 119, 114, 105, 116, 101, 32, 53, 32, 48, 32, 54, 56, 54, 57]
def wakeS : Stp := ⟨1, 3, 0, 0, ⟨5, rec0 0, ⟨#[]⟩, 5, 0, 0, ⟨#[104, 105]⟩⟩⟩
theorem wake_parse : parseP (wds wakeT) = some wakeS := by rw [rparse_is]; kernel_rfl
theorem wake_none : parseP (wds [103, 32, 48, 49, 32, 48]) = none := by rw [rparse_is]; kernel_rfl
/-- Line of a step that was read -/
theorem Line_read {t : Bs} {s : Stp} (h : parseP (wds t) = some s) (ht : t.length ≤ 1000000) (w : World) (hv : PV w) :
    Calls Tryz.prog 6 #[.agg (cellsS s noV 0 noV)] w fun e w' => e = .returned (.tuple #[.string (bs t), .int .i64 0]) ∧ Below w.heap.size w w' := by
  have hm := parseP_m h
  have := Line_any s (parse_num h ht) (fun x hx hk => by rw [parse_text h x hx hk]; exact ht) none none 0 0 0 0 (by rw [hm]; rfl) (by rw [hm]; simp) 0 w (mv_nil w hm) hv
  rw [show ((0 : Int) == 0 && (0 : Nat) == 0) = true from rfl, lineR_back h] at this
  exact this
set_option maxHeartbeats 3200000 in
theorem wakes_any (w : World) (hv : PV w) : Calls Tryz.prog 5 #[] w fun e w' => e = .returned (.bool true) ∧ Below w.heap.size w w' := by
  have HV := Lib.hid hv
  clear hv
  go_enter Tryz.func5, Tryz.ntmps5
  go_wp2_with fail
  refine (Parse_yes ⟨#[99, 32, 51, 32, 119, 114, 105, 116, 101, 32, 53, 32, 48, 32, 54, 56, 54, 57]⟩ (by decide) wakeS wake_parse w HV.out).mono ?_
  rintro e w1 ⟨rfl, hb1⟩
  have HB1 := Lib.hid hb1
  clear hb1
  obtain ⟨ct, hct⟩ : ∃ ct, ct = cellsS wakeS noV 0 noV := ⟨_, rfl⟩
  have HCT := Lib.hid hct
  have C1 : Hid (ct.all (·.oneCell') = true) := Lib.hid (by rw [hct]; exact cells_one _ _)
  have C2 : Hid ((Tryz.prog.info? 31).map (·.size) = some ct.size) := Lib.hid (by rw [hct]; exact stepSize)
  have C3 : Hid (zeroS.size = ct.size) := Lib.hid (by rw [hct]; rfl)
  have HB2 : Hid (Below w.heap.size w ((w1.alloc (.cells zeroS 31)).setRow w1.heap.size ct)) := Lib.hid (below_row (HB1.out.alloc HB1.out.size _) HB1.out.size _)
  have HS2 : Hid (((w1.alloc (.cells zeroS 31)).setRow w1.heap.size ct).heap[w1.heap.size]? = some (.cells ct 31 (0, 0))) := Lib.hid (setRow_heap _ _ _ _ _ _ (heap_alloc_new _ _))
  rw [← hct]
  clear hct
  go_wp2_with (first
    | ((with_reducible (refine wpList_store_rowTo rfl 31 (Operand.tmp 1) (Operand.tmp 9) rfl rfl w1.heap.size ct ?_ ?_ 31 zeroS ?_ ?_ ?_ ?_ ?_)); (· rfl); (· rfl); (· exact heap_alloc_new _ _); (· exact C2.out); (· exact C3.out); (· exact C1.out); change wpList _ _ _ _ _ ((w1.alloc (.cells zeroS 31)).setRow w1.heap.size ct); generalize (w1.alloc (.cells zeroS 31)).setRow w1.heap.size ct = w2 at *; generalize w1.heap.size = sb at *)
    | ((with_reducible (refine wpList_load_row rfl 31 (Operand.tmp 1) rfl sb ?_ 31 ct (0, 0) _ ?_ Tryz.underlying31 ?_ ?_ ?_)); (· rfl); (· exact HS2.out); (· rfl); (· exact C2.out)))
  have hln := Line_read wake_parse (by decide) w2 (HV.out.keep HB2.out)
  rw [← HCT.out] at hln
  refine hln.mono ?_
  rintro e w3 ⟨rfl, hb3⟩
  have HB3 := Lib.hid (bstep' HB2.out hb3)
  have HS3 : Hid (w3.heap[sb]? = some (.cells ct 31 (0, 0))) := Lib.hid ((hb3.block _ (lt_of_block HS2.out)).trans HS2.out)
  have q0 : ((bs wakeT).toList == [99, 32, 51, 32, 119, 114, 105, 116, 101, 32, 53, 32, 48, 32, 54, 56, 54, 57]) = true := str_eq rfl
  generalize bs wakeT = tx at *
  clear hb3 hln HS2 HB2
  go_wp2_with fail
  refine (Parse_no ⟨#[103, 32, 48, 49, 32, 48]⟩ (by decide) wake_none w3 (HV.out.keep HB3.out)).mono ?_
  rintro e w4 ⟨rfl, hb4⟩
  have HB4 := Lib.hid (bstep' HB3.out hb4)
  have HB5 : Hid (Below w.heap.size w ((w4.alloc (.cells zeroS 31)).setRow w4.heap.size zeroS)) := Lib.hid (below_row (HB4.out.alloc HB4.out.size _) HB4.out.size _)
  have HB45 : Hid (Below w4.heap.size w4 ((w4.alloc (.cells zeroS 31)).setRow w4.heap.size zeroS)) := Lib.hid (below_row (below_alloc _ _) (Nat.le_refl _) _)
  have HS4 : Hid (w4.heap[sb]? = some (.cells ct 31 (0, 0))) := Lib.hid ((hb4.block _ (lt_of_block HS3.out)).trans HS3.out)
  have HS5 : Hid (((w4.alloc (.cells zeroS 31)).setRow w4.heap.size zeroS).heap[sb]? = some (.cells ct 31 (0, 0))) := Lib.hid ((HB45.out.block _ (lt_of_block HS4.out)).trans HS4.out)
  clear hb4
  have e1 : ((w4.alloc (.cells zeroS 31)).setRow w4.heap.size zeroS).cell? ⟨sb, 1, none⟩ = some (.int .i64 3) := by rw [Lib.cell_of_heap HS5.out, HCT.out]; rfl
  have e2 : ((w4.alloc (.cells zeroS 31)).setRow w4.heap.size zeroS).cell? ⟨sb, 21, none⟩ = some (.string ⟨#[104, 105]⟩) := by rw [Lib.cell_of_heap HS5.out, HCT.out]; rfl
  go_wp2_with ((with_reducible (refine wpList_store_rowTo rfl 31 (Operand.tmp 5) (Operand.tmp 18) rfl rfl w4.heap.size zeroS ?_ ?_ 31 zeroS ?_ ?_ ?_ ?_ ?_)); (· rfl); (· rfl); (· exact heap_alloc_new _ _); (· exact zeroS_size); (· rfl); (· exact zeroS_one); change wpList _ _ _ _ _ ((w4.alloc (.cells zeroS 31)).setRow w4.heap.size zeroS); generalize (w4.alloc (.cells zeroS 31)).setRow w4.heap.size zeroS = w5 at *)
  have HB6 : Hid (Below w.heap.size w (w5.alloc (.cells #[.string ⟨#[97]⟩] 9))) := Lib.hid (bstep' HB5.out (below_alloc _ _))
  refine (tell_any (w := w5.alloc (.cells #[.string ⟨#[97]⟩] 9)) ⟨w5.heap.size, 0, none⟩ (by simp) (by rw [Lib.cell_of_heap (heap_alloc_new w5 _)]; rfl) (HV.out.cv.keep HB6.out)).mono ?_
  rintro e w7 ⟨rfl, hb7⟩
  have HB7 := Lib.hid (bstep' HB6.out hb7)
  clear hb7
  go_wp2_with fail
  go_ret
  exact ⟨rfl, HB7.out⟩
end Go.Proofs.YtiffmigihhcgcaaGreatDoor.ConW
