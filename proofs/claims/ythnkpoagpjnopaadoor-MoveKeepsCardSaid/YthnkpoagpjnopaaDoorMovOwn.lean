/- own: texts by address, as a map and as a list. -/
import Derived.Test.YthnkpoagpjnopaaDoorMovP
import Derived.Test.YthnkpoagpjnopaaDoorMapDel
import Derived.Test.YthnkpoagpjnopaaDoorOpRow
import Derived.Test.YthnkpoagpjnopaaDoorOpMisc
import Derived.Test.YthnkpoagpjnopaaDoorAppend
import Derived.Test.YthnkpoagpjnopaaDoorOpen
namespace Go.Proofs.YthnkpoagpjnopaaDoor.MovW
set_option maxRecDepth 100000
open Go.RowKit MovP
def aV (i : Int) : Value := .int .i64 i
def aOk (i : Int) : Prop := (Lit.int .i64 i).wf = true
def sV (s : ByteArray) : Value := .string s
theorem aMK : MK Tryd.prog 3 aV aOk := ⟨Maps.int_keyed Tryd.underlying3, fun x h => ⟨_, Maps.keyOf_int_mk Tryd.underlying3 h⟩, fun x y h => by simpa [aV] using h⟩
theorem sZero (w : World) : (zeroValue 9).run Tryd.prog w = .ok (sV ByteArray.empty) w := by kernel_rfl
def TxIs (w : World) (b n : Nat) (g : Int → Option ByteArray) : Prop := MapIs aV aOk sV w b n g
def encT (x : Tx) : List Value := [.int .i64 x.a, .string x.s]
theorem encT_len (x : Tx) : (encT x).length = 2 := rfl
theorem encT_one (x : Tx) : ∀ u ∈ encT x, u.oneCell' = true := by
  intro u hu
  simp [encT] at hu
  rcases hu with rfl | rfl <;> rfl
theorem t_at {B : Nat} {oa : Option Addr} {l : List Tx} {w : World} (h : KAt encT 2 B oa l w) {i : Nat} {x : Tx} (hx : l[i]? = some x) :
    ∃ a, oa = some a ∧ a.block < B ∧ w.cell? (a.add (i * 2)) = some (.int .i64 x.a) ∧ w.cell? ⟨(a.add (i * 2)).block, (a.add (i * 2)).off + 1, none⟩ = some (.string x.s) := by
  obtain ⟨a, h1, h2, h3⟩ := h i x hx
  exact ⟨a, h1, h2, h3 0 _ rfl, h3 1 _ rfl⟩
theorem txinfo : (Tryd.prog.info? 70).map (fun i => (i.zero, i.size, i.bytes)) = some (some (.agg #[.int .i64 0, .string ByteArray.empty]), 2, 24) := by kernel_rfl
theorem only_undrew {b : Nat} {w w' : World} (h : Only b w.drew w') : Only b w w' := ⟨h.os, h.tape, h.output, h.size, h.block⟩
theorem only_cell {b : Nat} {w w' : World} {p : Addr} {v : Value} (h : Only b w w') (c : w.cell? p = some v) (hne : p.block ≠ b) : w'.cell? p = some v := by
  rw [← c]
  unfold World.cell?
  rw [h.block p.block (World.block_lt_of_cell? _ _ c) (fun e => hne (by injection e))]
theorem take_one' {α : Type} {l : List α} {k : Nat} {x : α} (h : l[k]? = some x) : l.take (k + 1) = l.take k ++ [x] := by rw [List.take_add_one, h]; rfl
set_option maxHeartbeats 3200000 in
theorem own_any (oa : Option Addr) (cap : Nat) (D : List Tx) (hlen : D.length ≤ 1000) (hok : ∀ x ∈ D, aOk x.a) (w : World) (h : KAt encT 2 w.heap.size oa D w) :
    Calls Tryd.prog 7 #[.slice oa D.length cap] w fun e w' => ∃ b n oa' cap', e = .returned (.tuple #[.map (some b), .slice oa' D.length cap']) ∧ TxIs w' b n (txt D) ∧ KAt encT 2 w'.heap.size oa' D w' ∧ Below w.heap.size w w' := by
  obtain ⟨i0, hi, hz0, hz1, hz2⟩ := info_parts txinfo
  have hmm := @run_makeMap Tryd.prog
  have H := Lib.hid h
  have HOK := Lib.hid hok
  clear h hok
  go_enter Tryd.func7, Tryd.ntmps7
  go_wp2_with fail
  obtain ⟨b, hb⟩ : ∃ b, b = w.heap.size := ⟨_, rfl⟩
  rw [← hb]
  have HM0 : Hid (TxIs (w.alloc (.map #[] 0)) b 0 (txt [])) := Lib.hid (by rw [hb]; exact MapIs.made w)
  have HB0 : Hid (Below w.heap.size w (w.alloc (.map #[] 0))) := Lib.hid (below_alloc w _)
  have HS0 : Hid (b + 1 ≤ (w.alloc (.map #[] 0)).heap.size) := Lib.hid (by rw [hb]; simp)
  have HB := Lib.hid hb
  clear hb
  generalize w.alloc (.map #[] 0) = w1 at *
  go_loopw [5, 6] (fun v i wr => ∃ k : Nat, k ≤ D.length ∧ i = .int .i64 (k : Int) ∧ TxIs wr b k (txt (D.take k)) ∧ RowK 70 encT 2 (b + 1) wr v (D.take k) ∧ Below w.heap.size w wr ∧ b + 1 ≤ wr.heap.size) (fun _ i _ => ((D.length : Int) - intOf i).toNat)
  case atStart => exact ⟨0, by omega, rfl, HM0.out, RowK.nil _ _, HB0.out, HS0.out⟩
  case round =>
    obtain ⟨k, hk, rfl, hm, hrow, hbel, hsz⟩ := hrel
    have HM := Lib.hid hm
    have HBEL := Lib.hid hbel
    have HSZ := Lib.hid hsz
    clear hm hbel hsz
    by_cases hlt : k < D.length
    · have hlt1 : (k : Int) < (D.length : Int) := by omega
      obtain ⟨x, hx⟩ : ∃ x, D[k]? = some x := ⟨_, List.getElem?_eq_getElem hlt⟩
      obtain ⟨a, rfl, hab, c0, c1⟩ := t_at (H.out.below HBEL.out) hx
      have HT := Lib.hid (take_one' hx)
      have HXO := Lib.hid (HOK.out x (List.mem_of_getElem? hx))
      have hlj : (D.take k).length ≤ k := List.length_take_le _ _
      obtain ⟨oa2, cap2, rfl, hcc, _, _⟩ := hrow.form
      have HTX : Hid (txt (D.take k ++ [x]) = fun z => if z = x.a then some x.s else txt (D.take k) z) := Lib.hid (by
        funext z; rw [txt_snoc]
        by_cases hz : x.a = z
        · rw [if_pos hz, if_pos hz.symm]
        · rw [if_neg hz, if_neg (fun e => hz e.symm)])
      have HOWN : Hid (RowK 70 encT 2 (b + 1) wr (.slice oa2 (D.take k).length cap2) (D.take k)) := Lib.hid hrow
      have HAB : Hid (a.block < b) := Lib.hid (by rw [HB.out]; exact hab)
      generalize D.take k = J at *
      obtain ⟨xa, xs⟩ := x
      simp only at c0 c1
      have C0 := Lib.hid c0
      have C1 := Lib.hid c1
      clear hrow hx hab hk
      go_wp2_with fail
      go_still_tail 11, (by kernel_rfl)
      clear c0 c1
      go_wp2_with (at_mapUpdate; go_loud (refine wpList_map_store _ rfl _ _ _ 28 9 rfl aMK Tryd.underlying28 b k (txt J) (MapIs.drew HM.out) (by rfl) xa xs HXO.out (by rfl) (by rfl) ?_; intro w5 hm5 ho5 hs5; have HM5 := Lib.hid hm5; have HO5 : Hid (Only b wr w5) := Lib.hid (only_undrew (w := wr) ho5); have HS5 : Hid (w5.heap.size = wr.heap.size) := Lib.hid hs5; clear hm5 ho5 hs5))
      have d0 := only_cell HO5.out C0.out (by rw [add_block]; have := HAB.out; omega)
      have d1 := only_cell HO5.out C1.out (by show (a.add (k * 2)).block ≠ b; rw [add_block]; have := HAB.out; omega)
      have HOW : Hid (w5.ownsRow (b + 1) 70 2 (.slice oa2 J.length cap2) J.length (J.flatMap encT)) := Lib.hid (Only.keepRow HO5.out HOWN.out (fun e => by
        cases oa2 with
        | none => simp [Value.ownBlock] at e
        | some ad =>
          have := (OpW.own_base HOWN.out).1 ad rfl
          simp only [Value.ownBlock, Option.some.injEq] at e
          omega))
      have hs5 : b + 1 ≤ w5.heap.size := by have := HS5.out; have := HSZ.out; omega
      go_region_law ((refine step_append_newD rfl _ _ 29 rfl (b + 1) 70 i0 (.agg #[.int .i64 0, .string ByteArray.empty]) 2 24 Tryd.underlying29 hi hz0 hz1 hz2 rfl (by decide) _ _ _ (by rfl) HOW.out _ 1 1 (by rfl) rfl (encT_one ⟨xa, xs⟩) (by unfold maxLen; omega) (by omega) hs5 (by simp) ?_; intro oa6 cap6 w6 hown6 hbel6; have HS6 := Lib.hid hown6; have HB6 := Lib.hid hbel6; clear hown6 hbel6))
      all_goals go_wp2_with fail
      all_goals exact ⟨⟨k + 1, by omega, by simp, by rw [HT.out, HTX.out]; exact MapIs.of_block HM5.out (HB6.out.block b (by omega)), by rw [HT.out]; exact RowK.snoc (enc := encT) (l := J) (⟨xa, xs⟩ : Tx) rfl rfl HS6.out, (HBEL.out.trans (HO5.out.below (by rw [HB.out]; exact Nat.le_refl _) HBEL.out.size)).trans (HB6.out.mono (by have := HB.out; omega)), by have := HB6.out.size; omega⟩, by simp [intOf]; omega⟩
    · obtain rfl : k = D.length := by omega
      rw [List.take_length] at HM hrow
      obtain ⟨oa2, cap2, rfl, _⟩ := hrow.form
      have HR := Lib.hid (RowK.pts encT_len (by omega) hrow)
      clear hrow
      go_wp2_with fail
      go_ret2
      exact ⟨b, _, oa2, cap2, rfl, HM.out, HR.out, HBEL.out⟩
end Go.Proofs.YthnkpoagpjnopaaDoor.MovW
