/- Handles.Expire. -/
import Derived.Test.YtjfdbcmmmoipcaaHanOps
namespace Go.Proofs.Ytjfdbcmmmoipcaa.HanW
open Go.RowKit HanP
def goneB (ls : List Int) (t : Int) (a : Ha) : Bool := decide (ls.getD a.c.toNat 0 < t)
/-- the map when those among some have gone -/
def expG (L : List Ha) (D : List Ha) (z : Int × Int) : Option Int := if z ∈ D.map Ha.key then none else HanP.look L z
theorem expG_nil (L : List Ha) : expG L [] = HanP.look L := by funext z; simp [expG]
theorem expG_snoc (L D : List Ha) (x : Ha) : (fun z => if z = x.key then none else expG L D z) = expG L (D ++ [x]) := by
  funext z
  unfold expG
  by_cases h : z = x.key
  · rw [if_pos h, if_pos (by simp [h])]
  · rw [if_neg h]
    have : z ∈ (D ++ [x]).map Ha.key ↔ z ∈ D.map Ha.key := by simp [h]
    by_cases h2 : z ∈ D.map Ha.key
    · rw [if_pos h2, if_pos (this.2 h2)]
    · rw [if_neg h2, if_neg (fun h3 => h2 (this.1 h3))]
theorem expG_all {L : List Ha} (hL : Rises L) (p : Ha → Bool) : expG L (L.filter p) = HanP.look (L.filter fun a => !p a) := by
  funext z
  rw [look_filter hL]
  unfold expG
  cases hl : HanP.look L z with
  | none => simp
  | some i =>
    have hm := (look_iff hL z i).1 hl
    by_cases hp : p ⟨z.1, z.2, i⟩ = true
    · have hin : z ∈ (L.filter p).map Ha.key := List.mem_map.2 ⟨_, List.mem_filter.2 ⟨hm, hp⟩, rfl⟩
      rw [if_pos hin]
      simp [Option.filter, hp]
    · rw [if_neg]
      · simp [Option.filter, hp]
      · intro h
        obtain ⟨a, ha, hk⟩ := List.mem_map.1 h
        obtain ⟨h1, h2⟩ := List.mem_filter.1 ha
        have : a = ⟨z.1, z.2, i⟩ := key_inj hL h1 hm (by rw [hk]; rfl)
        rw [this] at h2
        exact hp h2
theorem filt_snoc {L : List Ha} {k : Nat} {x : Ha} (h : L[k]? = some x) (p : Ha → Bool) : (L.take (k + 1)).filter p = (L.take k).filter p ++ if p x = true then [x] else [] := by
  rw [take_snoc h, List.filter_append]
  by_cases e : p x = true
  · rw [if_pos e, List.filter_cons_of_pos e]; rfl
  · rw [if_neg e, List.filter_cons_of_neg e]; rfl
theorem onlyB {b : Nat} {a w x : World} (h : Only b a w) (k : Below a.heap.size w x) : Only b a x :=
  ⟨k.os.trans h.os, k.tape.trans h.tape, k.output.trans h.output, Nat.le_trans h.size k.size, fun i hi hne => (k.block i hi).trans (h.block i hi hne)⟩
set_option maxHeartbeats 1600000 in
theorem expire_any (hb b : Nat) (L : List Ha) (ls : List Int) (t : Int) (w : World) (h : HIs w hb b L ls) :
    Calls Try.prog 12 #[.pointer (some ⟨hb, 0, none⟩), .int .i64 t] w fun e w' => ∃ v, e = .returned v ∧ RowK 37 encHa 3 w.heap.size w' v (L.filter (goneB ls t)) ∧ HIs w' hb b (L.filter fun a => !goneB ls t a) ls ∧ Only b w w' := by
  obtain ⟨i0, hi, hz0, hz1, hz2⟩ := info_parts han_info
  have HH := Lib.hid h
  obtain ⟨HLT1, HLT2⟩ := h.lt
  have HNE := Lib.hid h.ne
  have hlen := h.good.len
  have HFIT := Lib.hid h.good.fits
  clear h
  go_enter Try.func12, Try.ntmps12
  go_wp2_with (go_at_call 11; refine (all_any _ _ _ _ _ HH.out).mono ?_; rintro e w1 ⟨v, rfl, hr, hb1⟩; have HBR := Lib.hid hr; obtain ⟨oa, cap, rfl, hc, hc2, hnone⟩ := hr.form; have HP := Lib.hid (hr.pts ha_len (by omega)); have HB1 := Lib.hid hb1; have HH1 := Lib.hid (HH.out.grow hb1); clear hr hb1 hnone)
  obtain ⟨N, hm0⟩ := HH1.out.map
  have HM0 := Lib.hid hm0
  have HS1 := Lib.hid HB1.out.size
  have HANE : Hid (∀ a, oa = some a → a.block ≠ b) := Lib.hid (fun a e => by
    have := World.ownsRow.lt HBR.out a.block (by rw [e]; rfl)
    omega)
  clear hm0
  go_loopw [5, 11] (fun v i wr => ∃ k : Nat, k ≤ L.length ∧ i = .int .i64 (k : Int) ∧ RowK 37 encHa 3 w1.heap.size wr v ((L.take k).filter (goneB ls t)) ∧ HaIs wr b N (expG L ((L.take k).filter (goneB ls t))) ∧ Only b w1 wr) (fun _ i _ => ((L.length : Int) - intOf i).toNat)
  case atStart => exact ⟨0, by omega, rfl, RowK.nil _ _, by simpa [expG_nil] using HM0.out, Only.refl _ _⟩
  case round =>
    obtain ⟨k, hk, rfl, hrow, hmap, honly⟩ := hrel
    have HO := Lib.hid honly
    have HM := Lib.hid hmap
    have hs1 := honly.size
    by_cases hlt : k < L.length
    · obtain ⟨x, hx⟩ : ∃ x, L[k]? = some x := ⟨_, List.getElem?_eq_getElem hlt⟩
      have HF := Lib.hid (filt_snoc hx (goneB ls t))
      have hlj : ((L.take k).filter (goneB ls t)).length ≤ 128 := by
        have := List.length_filter_le (goneB ls t) (L.take k)
        have : (L.take k).length ≤ k := List.length_take_le _ _
        omega
      obtain ⟨a, rfl, hab, c0, c1, c2⟩ := ha_at (HP.out.only HO.out (Nat.le_refl _) HANE.out) hx
      have hfx := HFIT.out x (List.mem_of_getElem? hx)
      obtain ⟨c, hc8⟩ : ∃ c : Nat, x.c = c := ⟨x.c.toNat, by omega⟩
      have hcl : c < 8 := by omega
      have HHR : Hid (HIs w1 hb b L ls) := HH1
      have hhead : wr.heap[hb]? = some (.cells (hCells b ls) 60 (0, 0)) := Only.heap HO.out HH1.out.head HNE.out
      have p0 : wr.cell? ⟨hb, 0, none⟩ = some (.map (some b)) := by rw [Lib.cell_of_heap hhead]; simp [hCells]
      have p1 : wr.cell? ⟨hb, 1 + c, none⟩ = some (.int .i64 (ls.getD c 0)) := by
        rw [Lib.cell_of_heap hhead, Nat.add_comm]
        have : c < ls.length := by rw [HH.out.good.l8]; exact hcl
        simp [hCells, List.getD, this]
      have hgb : goneB ls t x = decide (ls.getD c 0 < t) := by unfold goneB; rw [hc8]; rfl
      generalize ls.getD c 0 = m at p1 hgb
      obtain ⟨xc, xn, xi⟩ := x
      simp only at hc8 hfx
      subst hc8
      have hci : (c : Int) < 8 := by omega
      have hlb : hb < wr.heap.size := by have := HS1.out; omega
      obtain ⟨oa2, cap2, rfl, hcc, _, _⟩ := hrow.form
      have HXK : Hid (haOk ((c : Int), xn)) := Lib.hid (haOk_of (by simp [IntKind.min, IntKind.max, IntKind.signed, IntKind.bits]; omega) (by simp [IntKind.min, IntKind.max, IntKind.signed, IntKind.bits]; omega))
      generalize (L.take k).filter (goneB ls t) = J at hrow HM HF hlj hcc
      have HOWN : Hid (wr.ownsRow w1.heap.size 37 3 (.slice oa2 J.length cap2) J.length (J.flatMap encHa)) := Lib.hid hrow
      have HX := Lib.hid hx
      clear hrow hmap honly hx hhead
      by_cases hg : m < t
      · have HF2 : Hid ((L.take (k + 1)).filter (goneB ls t) = J ++ [⟨(c : Int), xn, xi⟩]) := Lib.hid (by rw [HF.out, if_pos (by rw [hgb]; exact decide_eq_true hg)])
        clear hgb hfx
        go_wp2_with fail
        go_region
        have hbl : Below wr.heap.size wr (wr.alloc (.cells #[.int .i64 (c : Int), .int .i64 xn, .int .i64 xi] 37)).drew := (below_alloc wr _).drew
        obtain ⟨x0, x1, x2, _, _, _⟩ := new_cells3 (w1 := (wr.alloc (.cells #[.int .i64 (c : Int), .int .i64 xn, .int .i64 xi] 37)).drew) (heap_alloc_new wr _)
        have HBX := Lib.hid (show (wr.alloc (.cells #[.int .i64 (c : Int), .int .i64 xn, .int .i64 xi] 37)).drew.heap[wr.heap.size]? = _ from heap_alloc_new wr _)
        generalize (wr.alloc (.cells #[.int .i64 (c : Int), .int .i64 xn, .int .i64 xi] 37)).drew = w2 at *
        have HM2 : Hid (HaIs w2 b N (expG L J)) := Lib.hid (MapIs.keep HM.out hbl)
        have q0 := cell_step hbl p0
        have HBL := Lib.hid hbl
        have HOWN2 : Hid (w2.ownsRow w1.heap.size 37 3 (.slice oa2 J.length cap2) J.length (J.flatMap encHa)) := Lib.hid (RowK.grow (l := J) (enc := encHa) HOWN.out hbl)
        have HO2 := Lib.hid (HO.out.step hbl)
        have hwr : wr.heap.size < w2.heap.size := World.block_lt_of_cell? _ _ x0
        clear hbl p0 p1
        go_wp2_with fail
        refine wp_region_still_tail 9 (by kernel_rfl) (by kernel_rfl) ?_
        change wpStill _ _ (World.drew _) (fun a' => wpList _ _ _ _ a' (World.drew _)) _ _
        simp only [List.take_succ_cons, List.take_zero, List.drop_succ_cons, List.drop_zero]
        repeat still_step
        refine wpStill_nil ?_
        refine wpList_map_delete _ rfl _ _ 58 3 rfl haMK Try.underlying58 b N _ (MapIs.drew HM2.out) (by rfl) ((c : Int), xn) HXK.out (by rfl) ?_
        intro w5 hm5 ho5 hs5
        simp only [Act.put]
        have hbne : wr.heap.size ≠ b := by have := HS1.out; omega
        have HM5 : Hid (HaIs w5 b N (expG L (J ++ [⟨(c : Int), xn, xi⟩]))) := Lib.hid (MapIs.congr hm5 (expG_snoc L J ⟨(c : Int), xn, xi⟩))
        have ho5' : Only b w2 w5 := (Only.refl b w2).drew.trans ho5
        obtain ⟨y0, y1, y2, _, _, _⟩ := new_cells3 (w1 := w5) (Only.heap ho5' HBX.out hbne)
        have HOWN5 : Hid (w5.ownsRow w1.heap.size 37 3 (.slice oa2 J.length cap2) J.length (J.flatMap encHa)) := Lib.hid (ho5'.keepRow HOWN2.out (fun e => by
          have := World.ownsRow.lt HOWN2.out b e
          have := HS1.out
          omega))
        have HO5 := Lib.hid (HO2.out.trans ho5')
        have hz5 : w1.heap.size ≤ w5.heap.size := HO5.out.size
        clear hm5 ho5 ho5' hs5 x0 x1 x2
        go_wp2_with (at_builtin; go_loud (refine wpList_append_newB rfl _ _ 31 rfl w1.heap.size 37 i0 (.agg #[.int .i64 0, .int .i64 0, .int .i64 0]) 3 24 Try.underlying31 hi hz0 hz1 hz2 rfl (by decide) _ _ _ (by rfl) HOWN5.out _ 1 1 (by rfl) rfl (ha_one ⟨(c : Int), xn, xi⟩) (by unfold maxLen; omega) (by omega) hz5 (by simp) ?_; intro oa6 cap6 w6 hown6 hbel6 _; have HS6 := Lib.hid hown6; have HB6 := Lib.hid hbel6; clear hown6 hbel6))
        have hbm : b < w1.heap.size := by have := HS1.out; omega
        exact ⟨⟨k + 1, by omega, by simp, by rw [HF2.out]; exact RowK.snoc (enc := encHa) (l := J) (⟨(c : Int), xn, xi⟩ : Ha) rfl rfl HS6.out, by rw [HF2.out]; exact MapIs.of_block HM5.out (HB6.out.block b hbm), onlyB HO5.out HB6.out⟩, by simp [intOf]; omega⟩
      · have HF2 : Hid ((L.take (k + 1)).filter (goneB ls t) = J) := Lib.hid (by rw [HF.out, if_neg (by rw [hgb]; simpa using hg)]; simp)
        clear hgb hfx
        go_wp2_with fail
        go_region
        have hbl : Below wr.heap.size wr (wr.alloc (.cells #[.int .i64 (c : Int), .int .i64 xn, .int .i64 xi] 37)).drew := (below_alloc wr _).drew
        obtain ⟨x0, x1, x2, _, _, _⟩ := new_cells3 (w1 := (wr.alloc (.cells #[.int .i64 (c : Int), .int .i64 xn, .int .i64 xi] 37)).drew) (heap_alloc_new wr _)
        have HBX := Lib.hid (show (wr.alloc (.cells #[.int .i64 (c : Int), .int .i64 xn, .int .i64 xi] 37)).drew.heap[wr.heap.size]? = _ from heap_alloc_new wr _)
        generalize (wr.alloc (.cells #[.int .i64 (c : Int), .int .i64 xn, .int .i64 xi] 37)).drew = w2 at *
        have HM2 : Hid (HaIs w2 b N (expG L J)) := Lib.hid (MapIs.keep HM.out hbl)
        have q0 := cell_step hbl p0
        have HBL := Lib.hid hbl
        have HOWN2 : Hid (w2.ownsRow w1.heap.size 37 3 (.slice oa2 J.length cap2) J.length (J.flatMap encHa)) := Lib.hid (RowK.grow (l := J) (enc := encHa) HOWN.out hbl)
        have HO2 := Lib.hid (HO.out.step hbl)
        have hwr : wr.heap.size < w2.heap.size := World.block_lt_of_cell? _ _ x0
        clear hbl p0 p1
        go_wp2_with fail
        exact ⟨⟨k + 1, by omega, by simp, by rw [HF2.out]; exact HOWN2.out, by rw [HF2.out]; exact HM2.out, HO2.out⟩, by simp [intOf]; omega⟩
    · obtain rfl : k = L.length := by omega
      rw [List.take_length] at hrow HM
      have HROW := Lib.hid hrow
      clear hrow hmap honly
      go_wp2_with fail
      go_ret
      have hg := HH.out.good
      refine ⟨_, rfl, HROW.out.mono HS1.out, ⟨?_, ⟨N, MapIs.congr HM.out (expG_all hg.rises _)⟩, hg.filter _⟩, (Only.of_below HB1.out).trans HO.out⟩
      exact Only.heap HO.out HH1.out.head HNE.out
end Go.Proofs.Ytjfdbcmmmoipcaa.HanW
