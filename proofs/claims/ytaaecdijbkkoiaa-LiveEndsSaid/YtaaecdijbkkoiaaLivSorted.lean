/- sorted: uses by rising numbers. -/
import Derived.Test.YtaaecdijbkkoiaaShelf
import Derived.Test.YtaaecdijbkkoiaaLivMap
import Derived.Test.YtaaecdijbkkoiaaGot
import Derived.Test.YtaaecdijbkkoiaaSortRow
import Derived.Test.YtaaecdijbkkoiaaAppDraw
import Derived.StillTailTactics
namespace Go.Proofs.Ytaaecdijbkkoiaa.LivW
set_option maxRecDepth 100000
open Go.RowKit Go.Shelf Go.Lib Go.Sort LivP
def cfU (x y : U) : Int := Lib.compareInt x.a y.a
theorem ltOf_cfU (x y : U) : ltOf cfU x y = decide (il x.a y.a) := by
  rw [Bool.eq_iff_iff, decide_eq_true_iff]
  unfold ltOf cfU il Lib.compareInt
  rw [decide_eq_true_iff]
  rcases Int.lt_trichotomy x.a y.a with h | h | h
  · rw [if_pos h]; simp [h]
  · rw [if_neg (by omega), if_neg (by omega)]; simp; omega
  · rw [if_neg (by omega), if_pos h]; simp; omega
theorem swoU : SWO (ltOf cfU) where
  irrefl a := by rw [ltOf_cfU]; exact decide_eq_false (ilLin.irr _)
  trans a b c h1 h2 := by rw [ltOf_cfU] at *; exact decide_eq_true (ilLin.trans _ _ _ (of_decide_eq_true h1) (of_decide_eq_true h2))
  ntrans a b c h1 h2 := by rw [ltOf_cfU] at *; have k1 := of_decide_eq_false h1; have k2 := of_decide_eq_false h2; refine decide_eq_false ?_; unfold il at *; omega
set_option linter.constructorNameAsVariable false in
set_option maxHeartbeats 2000000 in
theorem closure (x y : U) (W : World) : Calls Try.prog 49 #[.agg #[.int .i64 x.a, .int .i64 x.n], .agg #[.int .i64 y.a, .int .i64 y.n]] W fun e w' => e = .returned (.int .i64 (cfU x y)) ∧ ∃ q os', w' = grow (W.drewN q) os' := by
  have HA := fun W' => Try.cmp_Compare_int x.a y.a W'
  have HE : Hid (cfU x y = Lib.compareInt x.a y.a) := Lib.hid rfl
  generalize Lib.compareInt x.a y.a = r at HA HE
  generalize cfU x y = t at HE ⊢
  go_enter Try.func49, Try.ntmps49
  go_wp2_with (go_at_call 50; refine (HA _).mono ?_; rintro e w1 ⟨rfl, rfl⟩)
  go_ret
  exact ⟨ret_int HE.out.symm, 0, _, by simp only [alloc_eq_grow, grow_grow, World.drewN_zero]; rfl⟩
theorem us_len (a : U) : (encU a).length = 2 := rfl
theorem us_one (a : U) : ∀ v ∈ encU a, v.oneCell' = true := by
  intro v hv; simp [encU] at hv; rcases hv with rfl | rfl <;> rfl
theorem usAgg (w : World) : (isAgg 40).run Try.prog w = .ok true w := by kernel_rfl
theorem usSize (w : World) : (Go.sizeOf 40).run Try.prog w = .ok 2 w := by kernel_rfl
theorem usEnter : ∀ args w, (callFunc 49 args).run Try.prog w = .ok (.enter 49 args) w := enters_of Try.func49 (by kernel_rfl) rfl
instance : Inhabited U := ⟨⟨0, 0⟩⟩
theorem ussort_any {L J : List U} (hL : Rises L) (hn : J.Nodup) (hm : ∀ a, a ∈ J ↔ a ∈ L) (B : Nat) (v : Value) (w : World) (hB : B ≤ w.heap.size) (hr : RowK 40 encU 2 B w v J) (hlen : J.length < 4611686018427387904) :
    Calls Try.prog 48 #[v, .func (.func 49) #[] #[]] w fun e w' => e = .returned (.tuple #[]) ∧ RowK 40 encU 2 B w' v L ∧ Below B w w' :=
  sort_row Try.sortU 40 2 (by omega) usAgg usSize encU us_len us_one cfU swoU 49 usEnter (fun x y W => closure x y W) ilLin (fun a b => by rw [ltOf_cfU]; simp) hL hn hm B v w hB hr hlen
theorem use_info : (Try.prog.info? 40).map (fun i => (i.zero, i.size, i.bytes)) = some (some (.agg #[.int .i64 0, .int .i64 0]), 2, 16) := by kernel_rfl
set_option maxHeartbeats 1600000 in
theorem sorted_any (b n : Nat) (L : List U) (w : World) (hm : KyIs w b n (lk L)) (hL : Rises L) (hlen : L.length ≤ 100000) :
    Calls Try.prog 31 #[.map (some b)] w fun e w' => ∃ v, e = .returned v ∧ RowK 40 encU 2 w.heap.size w' v L ∧ Below w.heap.size w w' := by
  obtain ⟨i0, hi, hz0, hz1, hz2⟩ := info_parts use_info
  have HL := Lib.hid hL
  have HLEN := Lib.hid hlen
  have HM := Lib.hid hm
  have hbl := MapIs.lt hm
  clear hm hL hlen
  go_enter Try.func31, Try.ntmps31
  go_wp2_with (at_range; go_loud (refine wpList_map_range _ rfl _ 69 3 rfl Try.underlying69 b n _ HM.out (by rfl) ?_; intro w4 cnt4 hr4 hc4 hb4 hs4; have HR4 : Hid (KyRange w4 b w.heap.size n (lk L) (fun _ => false) cnt4) := Lib.hid hr4; have HB4 := Lib.hid hb4; have HS4 := Lib.hid hs4; clear hr4 hb4 hc4 hs4))
  go_frame
  have HR : Hid (w.heap.size ≠ b) := Lib.hid (by omega)
  obtain ⟨r, hr⟩ : ∃ r, r = w.heap.size := ⟨_, rfl⟩
  rw [← hr] at HR HR4 HS4 ⊢
  have HRR := Lib.hid hr
  clear hr hbl
  go_loopw [3] (fun v wr => ∃ (seen : Int → Bool) (cnt : Nat) (J : List U), KyRange wr b r n (lk L) seen cnt ∧ RowK 40 encU 2 (r + 1) wr v J ∧ r < wr.heap.size ∧ Sl.Got U.a L seen J ∧ Below w.heap.size w wr) (fun _ wr => rangeLeft wr b r)
  case atStart => exact ⟨_, _, [], HR4.out, RowK.nil _ _, by have := HS4.out; omega, Sl.Got.nil L, HB4.out⟩
  case round =>
    obtain ⟨seen, cnt, J, hrg, hrow, hrlt, hgot, hbel⟩ := hrel
    have HRLT := Lib.hid hrlt
    have HG := Lib.hid hrg
    have HGOT := Lib.hid hgot
    have HB := Lib.hid hbel
    have HLEFT := Lib.hid (RangeIs.left hrg)
    have hjl := hgot.len
    have hlen := HLEN.out
    clear hgot hrg hrlt
    go_wp2_with (at_next; go_loud (refine wpList_map_next _ rfl _ rfl kyMK b r n cnt _ seen (by rfl) HG.out ?_ ?_))
    · intro hdone
      have HALL := Lib.hid (HGOT.out.all (fun a ha => hdone a.a (by unfold lk; rw [(Sl.look_iff ilLin uKV HL.out a.a a.n).2 ha]; simp)))
      have HROW := Lib.hid hrow
      have HJ : Hid (J.length < 4611686018427387904) := Lib.hid (by omega)
      clear hdone hrow hbel hjl hlen
      go_wp2_with (go_at_call 48; refine (ussort_any HL.out HGOT.out.nodup HALL.out (r + 1) _ _ (by have := HRLT.out; omega) HROW.out HJ.out).mono ?_; rintro e w7 ⟨rfl, hr7, hb7⟩; have HR7 := Lib.hid hr7; have HB7 := Lib.hid hb7; clear hr7 hb7)
      go_ret
      exact ⟨_, rfl, by rw [← HRR.out]; exact HR7.out.mono (by omega), HB.out.trans (HB7.out.mono (by have := HRR.out; omega))⟩
    · intro x i w5 cnt5 hokx hgx hsx hr5 hc5 ho5 hs5 hen
      have hen' : (Instr.entry (.pointer (some ⟨r, 0, none⟩))).run Try.prog w5 = .ok (.tuple #[.agg #[.int .i64 x], .int .i64 i]) w5 := hen
      have HR5 : Hid (KyRange w5 b r n (lk L) (fun z => seen z || decide (z = x)) cnt5) := Lib.hid hr5
      have HG5 : Hid (Sl.Got U.a L (fun z => seen z || decide (z = x)) (J ++ [⟨x, i⟩])) := Lib.hid (HGOT.out.snoc ilLin HL.out (a := ⟨x, i⟩) ((Sl.look_iff ilLin uKV HL.out x i).1 hgx) hsx)
      have HC5 := Lib.hid hc5
      have HB5 := Lib.hid (HB.out.trans (ho5.below (by have := HRR.out; omega) HB.out.size))
      obtain ⟨oa2, cap2, rfl, hc2, _, _⟩ := hrow.form
      have HOWN : Hid (w5.ownsRow (r + 1) 40 2 (.slice oa2 J.length cap2) J.length (J.flatMap encU)) := Lib.hid (ho5.keepRow hrow (fun e => by
        have := (World.ownsRow.lt hrow) _ e; omega))
      have hrs : r < w5.heap.size := RangeIs.lt hr5
      clear hen hokx hgx hsx hr5 hc5 ho5 hs5 hrow hbel
      go_wp2_with (at_builtin; go_loud (refine wpList_append_newB rfl _ _ 36 rfl (r + 1) 40 i0 (.agg #[.int .i64 0, .int .i64 0]) 2 16 Try.underlying36 hi hz0 hz1 hz2 rfl (by decide) _ _ _ (by rfl) (HOWN.out.alloc _) _ 1 1 (by rfl) rfl (us_one ⟨x, i⟩) (by unfold maxLen; omega) (by omega) (by simp; omega) (by simp) ?_; intro oa5 cap5 w6 hown6 hbel6 _; have HS6 := Lib.hid hown6; have HB6 := Lib.hid hbel6; clear hown6 hbel6))
      have hr6 : KyRange w6 b r n (lk L) (fun z => seen z || decide (z = x)) cnt5 := RangeIs.of_blocks (RangeIs.keep HR5.out (below_alloc _ _)) (HB6.out.block b (by have := HB.out.size; have := HRR.out; have := MapIs.lt HM.out; omega)) (HB6.out.block r (by omega))
      refine ⟨⟨_, cnt5, _, hr6, RowK.snoc ⟨x, i⟩ rfl rfl HS6.out, by have := HB6.out.size; simp at this; omega, HG5.out, ?_⟩, by rw [RangeIs.left hr6, HLEFT.out]; exact HC5.out⟩
      exact HB5.out.trans (((below_alloc w5 _).mono HB5.out.size).trans (HB6.out.mono (by have := HRR.out; omega)))
end Go.Proofs.Ytaaecdijbkkoiaa.LivW
