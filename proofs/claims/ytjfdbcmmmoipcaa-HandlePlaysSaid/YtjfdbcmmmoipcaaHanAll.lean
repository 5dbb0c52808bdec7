/- Handles.All. -/
import Derived.Test.YtjfdbcmmmoipcaaHanSt
import Derived.Test.YtjfdbcmmmoipcaaHanCmp
import Derived.Test.YtjfdbcmmmoipcaaSortRow
namespace Go.Proofs.Ytjfdbcmmmoipcaa.HanW
open Go.RowKit HanP
theorem ha_len (a : Ha) : (encHa a).length = 3 := rfl
theorem ha_one (a : Ha) : ∀ v ∈ encHa a, v.oneCell' = true := by
  intro v hv; simp [encHa] at hv; rcases hv with rfl | rfl | rfl <;> rfl
theorem haLin : Sl.Lin kl := ⟨kl_irr, fun _ _ _ => kl_trans, kl_or⟩
theorem haAgg (w : World) : (isAgg 37).run Try.prog w = .ok true w := by kernel_rfl
theorem haSize (w : World) : (Go.sizeOf 37).run Try.prog w = .ok 3 w := by kernel_rfl
theorem haEnter : ∀ args w, (callFunc 28 args).run Try.prog w = .ok (.enter 28 args) w := enters_of Try.func28 (by kernel_rfl) rfl
instance : Inhabited Ha := ⟨⟨0, 0, 0⟩⟩
theorem hasort_any {L J : List Ha} (hL : Rises L) (hn : J.Nodup) (hm : ∀ a, a ∈ J ↔ a ∈ L) (B : Nat) (v : Value) (w : World) (hB : B ≤ w.heap.size) (hr : RowK 37 encHa 3 B w v J) (hlen : J.length < 4611686018427387904) :
    Calls Try.prog 27 #[v, .func (.func 28) #[] #[]] w fun e w' => e = .returned (.tuple #[]) ∧ RowK 37 encHa 3 B w' v L ∧ Below B w w' :=
  sort_row Try.sortH 37 3 (by omega) haAgg haSize encHa ha_len ha_one cfK swoK 28 haEnter (fun x y W => closure x y W) haLin (fun a b => by rw [ltOf_cfK]; simp) hL hn hm B v w hB hr hlen
theorem han_info : (Try.prog.info? 37).map (fun i => (i.zero, i.size, i.bytes)) = some (some (.agg #[.int .i64 0, .int .i64 0, .int .i64 0]), 3, 24) := by kernel_rfl
theorem ha_nodup {J : List Ha} {L : List Ha} (hn : J.Nodup) (hm : ∀ a ∈ J, a ∈ L) : J.length ≤ L.length := Sl.nodup_len hn hm
theorem count_sum (L : List Ha) (h : ∀ a ∈ L, 0 ≤ a.c ∧ a.c < 8) : L.length = count L 0 + count L 1 + count L 2 + count L 3 + count L 4 + count L 5 + count L 6 + count L 7 := by
  induction L with
  | nil => rfl
  | cons a L ih =>
    have := ih (fun b hb => h b (by simp [hb]))
    have ha := h a (by simp)
    unfold count at *
    simp only [List.countP_cons, List.length_cons, decide_eq_true_eq]
    have : a.c = 0 ∨ a.c = 1 ∨ a.c = 2 ∨ a.c = 3 ∨ a.c = 4 ∨ a.c = 5 ∨ a.c = 6 ∨ a.c = 7 := by omega
    rcases this with e | e | e | e | e | e | e | e <;> rw [e] <;> simp <;> omega
theorem HGood.len {L : List Ha} {ls : List Int} (h : HGood L ls) : L.length ≤ 128 := by
  have := count_sum L (fun a ha => by have := h.fits a ha; omega)
  have := h.few
  have := this 0; have := h.few 1; have := h.few 2; have := h.few 3; have := h.few 4; have := h.few 5; have := h.few 6; have := h.few 7
  omega
/-- what a range over the map has come by -/
structure Got (L : List Ha) (seen : Int × Int → Bool) (J : List Ha) : Prop where
  nodup : J.Nodup
  mem : ∀ a, a ∈ J ↔ a ∈ L ∧ seen a.key = true
theorem Got.nil (L : List Ha) : Got L (fun _ => false) [] := ⟨List.nodup_nil, by simp⟩
theorem Got.snoc {L J : List Ha} {seen : Int × Int → Bool} (h : Got L seen J) (hL : Rises L) {x : Int × Int} {i : Int} (hx : HanP.look L x = some i) (hs : seen x = false) : Got L (fun z => seen z || decide (z = x)) (J ++ [⟨x.1, x.2, i⟩]) := by
  have hm := (look_iff hL x i).1 hx
  refine ⟨?_, fun a => ?_⟩
  · refine List.nodup_append.2 ⟨h.nodup, by simp, fun a ha b hb => ?_⟩
    simp only [List.mem_singleton] at hb
    subst hb
    rintro rfl
    have := ((h.mem _).1 ha).2
    have e : (⟨x.1, x.2, i⟩ : Ha).key = x := rfl
    rw [e, hs] at this; cases this
  · rw [List.mem_append, h.mem, List.mem_singleton]
    constructor
    · rintro (⟨h1, h2⟩ | rfl)
      · exact ⟨h1, by simp [h2]⟩
      · exact ⟨hm, by simp [Ha.key]⟩
    · rintro ⟨h1, h2⟩
      simp only [Bool.or_eq_true, decide_eq_true_eq] at h2
      rcases h2 with h2 | h2
      · exact .inl ⟨h1, h2⟩
      · refine .inr (key_inj hL h1 hm ?_)
        rw [h2]; rfl
theorem Got.all {L J : List Ha} {seen : Int × Int → Bool} (h : Got L seen J) (hL : Rises L) (hd : ∀ x, HanP.look L x ≠ none → seen x = true) : ∀ a, a ∈ J ↔ a ∈ L := by
  intro a
  rw [h.mem]
  refine ⟨fun h => h.1, fun ha => ⟨ha, hd _ ?_⟩⟩
  rw [(look_iff hL a.key a.i).2 ha]; simp
theorem Got.len {L J : List Ha} {seen : Int × Int → Bool} (h : Got L seen J) : J.length ≤ L.length := Sl.nodup_len h.nodup fun a ha => ((h.mem a).1 ha).1
def HaRange (w : World) (b r n : Nat) (g : Int × Int → Option Int) (seen : Int × Int → Bool) (cnt : Nat) : Prop := RangeIs haV haOk inV w b r n g seen cnt
set_option maxHeartbeats 1600000 in
theorem all_any (hb b : Nat) (L : List Ha) (ls : List Int) (w : World) (h : HIs w hb b L ls) :
    Calls Try.prog 11 #[.pointer (some ⟨hb, 0, none⟩)] w fun e w' => ∃ v, e = .returned v ∧ RowK 37 encHa 3 w.heap.size w' v L ∧ Below w.heap.size w w' := by
  obtain ⟨i0, hi, hz0, hz1, hz2⟩ := info_parts han_info
  have HL := Lib.hid h.good.rises
  have HLEN := Lib.hid h.good.len
  obtain ⟨N, hm⟩ := h.map
  have HM := Lib.hid hm
  have h0 := h.m0
  have hbl := MapIs.lt hm
  clear h hm
  go_enter Try.func11, Try.ntmps11
  go_wp2_with (at_range; go_loud (refine wpList_map_range _ rfl _ 58 3 rfl Try.underlying58 b N _ HM.out (by rfl) ?_; intro w4 cnt4 hr4 hc4 hb4 hs4; have HR4 : Hid (HaRange w4 b w.heap.size N (HanP.look L) (fun _ => false) cnt4) := Lib.hid hr4; have HB4 := Lib.hid hb4; have HS4 := Lib.hid hs4; clear hr4 hb4 hc4 hs4))
  go_frame
  have HR : Hid (w.heap.size ≠ b) := Lib.hid (by omega)
  obtain ⟨r, hr⟩ : ∃ r, r = w.heap.size := ⟨_, rfl⟩
  rw [← hr] at HR HR4 HS4 ⊢
  have HRR := Lib.hid hr
  clear hr hbl h0
  go_loopw [3] (fun v wr => ∃ (seen : Int × Int → Bool) (cnt : Nat) (J : List Ha), HaRange wr b r N (HanP.look L) seen cnt ∧ RowK 37 encHa 3 (r + 1) wr v J ∧ r < wr.heap.size ∧ Got L seen J ∧ Below w.heap.size w wr) (fun _ wr => rangeLeft wr b r)
  case atStart => exact ⟨_, _, [], HR4.out, RowK.nil _ _, by have := HS4.out; omega, Got.nil L, HB4.out⟩
  case round =>
    obtain ⟨seen, cnt, J, hrg, hrow, hrlt, hgot, hbel⟩ := hrel
    have HRLT := Lib.hid hrlt
    have HG := Lib.hid hrg
    have HGOT := Lib.hid hgot
    have HB := Lib.hid hbel
    have HLEFT := Lib.hid (RangeIs.left hrg)
    have hjl := hgot.len
    have hlen := HLEN.out
    clear hgot hrg hrlt
    go_wp2_with (at_next; go_loud (refine wpList_map_next _ rfl _ rfl haMK b r N cnt _ seen (by rfl) HG.out ?_ ?_))
    · intro hdone
      have HALL := Lib.hid (HGOT.out.all HL.out (fun x hx => hdone x.1 x.2 hx))
      have HROW := Lib.hid hrow
      have HJ : Hid (J.length < 4611686018427387904) := Lib.hid (by omega)
      clear hdone hrow hbel hjl hlen
      go_wp2_with (go_at_call 27; refine (hasort_any HL.out HGOT.out.nodup HALL.out (r + 1) _ _ (by have := HRLT.out; omega) HROW.out HJ.out).mono ?_; rintro e w7 ⟨rfl, hr7, hb7⟩; have HR7 := Lib.hid hr7; have HB7 := Lib.hid hb7; clear hr7 hb7)
      go_ret
      exact ⟨_, rfl, by rw [← HRR.out]; exact HR7.out.mono (by omega), HB.out.trans (HB7.out.mono (by have := HRR.out; omega))⟩
    · intro c n i w5 cnt5 hokx hgx hsx hr5 hc5 ho5 hs5 hen
      have hen' : (Instr.entry (.pointer (some ⟨r, 0, none⟩))).run Try.prog w5 = .ok (.tuple #[.agg #[.int .i64 c, .int .i64 n], .int .i64 i]) w5 := hen
      have HR5 : Hid (HaRange w5 b r N (HanP.look L) (fun z => seen z || decide (z = (c, n))) cnt5) := Lib.hid hr5
      have HG5 : Hid (Got L (fun z => seen z || decide (z = (c, n))) (J ++ [⟨c, n, i⟩])) := Lib.hid (HGOT.out.snoc HL.out hgx hsx)
      have HC5 := Lib.hid hc5
      have HB5 := Lib.hid (HB.out.trans (ho5.below (by have := HRR.out; omega) HB.out.size))
      obtain ⟨oa2, cap2, rfl, hc2, _, _⟩ := hrow.form
      have HOWN : Hid (w5.ownsRow (r + 1) 37 3 (.slice oa2 J.length cap2) J.length (J.flatMap encHa)) := Lib.hid (ho5.keepRow hrow (fun e => by
        have := (World.ownsRow.lt hrow) _ e; omega))
      have hrs : r < w5.heap.size := RangeIs.lt hr5
      clear hen hokx hgx hsx hr5 hc5 ho5 hs5 hrow hbel
      go_wp2_with (at_builtin; go_loud (refine wpList_append_newB rfl _ _ 31 rfl (r + 1) 37 i0 (.agg #[.int .i64 0, .int .i64 0, .int .i64 0]) 3 24 Try.underlying31 hi hz0 hz1 hz2 rfl (by decide) _ _ _ (by rfl) (HOWN.out.alloc _) _ 1 1 (by rfl) rfl (ha_one ⟨c, n, i⟩) (by unfold maxLen; omega) (by omega) (by simp; omega) (by simp) ?_; intro oa5 cap5 w6 hown6 hbel6 _; have HS6 := Lib.hid hown6; have HB6 := Lib.hid hbel6; clear hown6 hbel6))
      have hr6 : HaRange w6 b r N (HanP.look L) (fun z => seen z || decide (z = (c, n))) cnt5 := RangeIs.of_blocks (RangeIs.keep HR5.out (below_alloc _ _)) (HB6.out.block b (by have := HB.out.size; have := HRR.out; have := MapIs.lt HM.out; omega)) (HB6.out.block r (by omega))
      refine ⟨⟨_, cnt5, _, hr6, RowK.snoc ⟨c, n, i⟩ rfl rfl HS6.out, by have := HB6.out.size; simp at this; omega, HG5.out, ?_⟩, by rw [RangeIs.left hr6, HLEFT.out]; exact HC5.out⟩
      exact HB5.out.trans (((below_alloc w5 _).mono HB5.out.size).trans (HB6.out.mono (by have := HRR.out; omega)))
end Go.Proofs.Ytjfdbcmmmoipcaa.HanW
