/- live.Addrs. -/
import Derived.Test.YtaaecdijbkkoiaaLivSorted
import Derived.Test.YtaaecdijbkkoiaaInoAll
import Derived.Test.YtaaecdijbkkoiaaDraw
namespace Go.Proofs.Ytaaecdijbkkoiaa.LivW
set_option maxRecDepth 100000
open Go.RowKit LivP InoP InoW ExtW
def encN (x : Int) : List Value := [.int .i64 x]
theorem encN_len (x : Int) : (encN x).length = 1 := rfl
theorem flat_encN : ∀ L : List Ino, ((L.map (·.i)).flatMap encN) = L.map fun x => Value.int .i64 x.i
  | [] => rfl
  | x :: L => by
    have := flat_encN L
    simp only [List.map_cons, List.flatMap_cons, encN] at this ⊢
    rw [this]; rfl
theorem all_row {L : List Ino} {B : Nat} {w : World} {oa : Option Addr} {cap : Nat} (h : w.ownsRow B 3 1 (.slice oa L.length cap) L.length (L.map fun x => Value.int .i64 x.i)) : RowK 3 encN 1 B w (.slice oa L.length cap) (L.map (·.i)) := by
  unfold RowK
  rw [flat_encN, List.length_map]; exact h
/-- a part counts: within 64 kibibytes of parts -/
theorem part_fits {L : List U} {c : Nat} (h : Okay L c) (hc : c ≤ 4096) {x : Pt} (hx : One x) : IntKind.i64.wrap ((lk L x.a).getD 0 + x.n) = (lk L x.a).getD 0 + x.n := by
  have := fits_lk h.rises h.fits (by omega) x.a
  have := hx.small
  exact IntWalk.i64_in _ (by omega)
theorem okay_parts {L : List U} {c : Nat} (h : Okay L c) : ∀ (l : List Pt), (∀ x ∈ l, One x) → Okay (partsU L l) (c + l.length) := by
  intro l
  induction l generalizing L c with
  | nil => intro _; exact h
  | cons x l ih =>
    intro hx
    have h1 : Okay (addU L x.a x.n) (c + 1) := h.add (by have := (hx x (by simp)).small; omega)
    have := ih h1 (fun y hy => hx y (by simp [hy]))
    rw [List.length_cons, Nat.add_comm l.length 1, ← Nat.add_assoc]
    exact this
theorem okay_from : ∀ (xs : List Ino), (∀ x ∈ xs, IGood x) → ∀ {L : List U} {c : Nat}, Okay L c → Okay (xs.foldl (fun L x => partsU L x.p) L) (c + 64 * xs.length)
  | [], _, _, _, h => h
  | x :: xs, hx, _, c, h => by
    have hg := (hx x (by simp)).p
    have h1 := okay_parts h x.p (chain_ones hg.2)
    have := (okay_from xs (fun y hy => hx y (by simp [hy])) h1)
    rw [List.foldl_cons]
    refine this.mono ?_
    have := hg.1
    rw [List.length_cons]; omega
theorem okay_all (L : List Ino) (hx : ∀ x ∈ L, IGood x) : Okay (allU L) (64 * L.length) := (okay_from L hx okay_nil).mono (by omega)
variable {tb b : Nat} {L : List Ino} {next : Int}
theorem partsL_mem (hr : Rises L) {x : Ino} (hx : x ∈ L) : partsL L x.i = x.p := by unfold partsL; rw [find_of_mem hr hx]; rfl
set_option maxHeartbeats 6400000 in
theorem addrs_any (w : World) (h : TIs w tb b L next) :
    Calls Try.prog 9 #[.pointer (some ⟨tb, 0, none⟩)] w fun e w' => ∃ v, e = .returned v ∧ RowK 40 encU 2 w.heap.size w' v (allU L) ∧ Below w.heap.size w w' := by
  have HT := Lib.hid h
  have HOK : Hid (∀ k, Okay (allU (L.take k)) (64 * (L.take k).length)) := Lib.hid (fun k => okay_all _ fun x hx => h.good.all x (List.mem_of_mem_take hx))
  have HLL := Lib.hid h.good.len
  have hmm := @run_makeMap Try.prog
  clear h
  go_enter Try.func9, Try.ntmps9
  go_wp2_with (go_at_call 29; refine (all_any _ (HT.out.grow (below_alloc w (.map #[] 0)))).mono ?_; rintro e w1 ⟨oa, cap, rfl, hown, hnil, hb1⟩; have HROW := Lib.hid (all_row hown); have HNIL := Lib.hid hnil; have HB1 := Lib.hid hb1; clear hown hnil hb1)
  obtain ⟨mb, hmb⟩ : ∃ mb, mb = w.heap.size := ⟨_, rfl⟩
  rw [← hmb]
  have HMB := Lib.hid hmb
  have HBW : Hid (Below w.heap.size w w1) := Lib.hid ((below_alloc w _).trans (HB1.out.mono (by simp)))
  have HM0 : Hid (KyIs w1 mb 0 (lk [])) := Lib.hid (by rw [HMB.out]; exact MapIs.keep (MapIs.made w) HB1.out)
  have HRB : Hid (w.heap.size + 1 ≤ (w.alloc (.map #[] 0)).heap.size) := Lib.hid (by simp)
  clear hmb HB1
  go_loopw [12] (fun i wr => ∃ k : Nat, k ≤ L.length ∧ i = .int .i64 (k : Int) ∧ KyIs wr mb (64 * k) (lk (allU (L.take k))) ∧ Only mb w1 wr) (fun i _ => (L.length - intOf i).toNat)
  case atStart => exact ⟨0, by omega, rfl, HM0.out, Only.refl _ _⟩
  case round =>
    obtain ⟨k, hk, rfl, hm, ho⟩ := hrel
    have HM := Lib.hid hm
    have HO := Lib.hid ho
    clear hm ho
    have hll := HLL.out
    by_cases hlt : k < L.length
    · obtain ⟨x, hx⟩ : ∃ x, L[k]? = some x := ⟨_, List.getElem?_eq_getElem hlt⟩
      have hxm : x ∈ L := List.mem_of_getElem? hx
      have HXG := Lib.hid (HT.out.good.all x hxm)
      have HXP := Lib.hid (partsL_mem HT.out.good.rises hxm)
      have HTK : Hid (allU (L.take (k + 1)) = partsU (allU (L.take k)) x.p) := Lib.hid (by rw [List.take_add_one, hx]; exact allU_snoc _ _)
      have HK1 : Hid ((L.take k).length = k) := Lib.hid (by rw [List.length_take]; omega)
      have HWR : Hid (Below w.heap.size w wr) := Lib.hid (HBW.out.trans (HO.out.below (by rw [HMB.out]; exact Nat.le_refl _) HBW.out.size))
      have HIR := Lib.hid (HO.out.keepRow HROW.out (fun e => by have := (World.ownsRow.lt HROW.out) _ e; have := HRB.out; have := HMB.out; omega))
      obtain ⟨a, rfl, hab, hc⟩ := (RowK.pts encN_len (by omega) HIR.out) k x.i (by rw [List.getElem?_map, hx]; rfl)
      have c0 := hc 0 _ rfl
      simp only [fieldOf, Nat.mul_one] at c0
      have hio : iOk x.i := iOk_of (by have := HT.out.good.num x hxm; have := HT.out.good.next; omega)
      have HIO := Lib.hid hio
      clear hc hxm hio hx
      go_wp2_with (go_at_call 30; refine (parts_any x.i HIO.out _ (HT.out.grow HWR.out)).mono ?_; rintro e w3 ⟨oa', cap', rfl, hr3, hb3⟩; rw [HXP.out] at *; have HR3 := Lib.hid hr3; have HB3 := Lib.hid hb3; clear hr3 hb3)
      have HR13 : Hid (Only mb w1 w3) := Lib.hid (HO.out.step HB3.out)
      have HM3 := Lib.hid (MapIs.keep HM.out HB3.out)
      have HRS : Hid (mb < wr.heap.size) := Lib.hid (MapIs.lt HM.out)
      have HXL : Hid (x.p.length ≤ 64) := Lib.hid HXG.out.p.1
      have HON : Hid (∀ y ∈ x.p, One y) := Lib.hid (chain_ones HXG.out.p.2)
      have HACC := Lib.hid (HOK.out k)
      rw [HK1.out] at HACC
      generalize allU (L.take k) = A at *
      have hxl := HXL.out
      clear HM HB3 HIR c0 hab
      go_loopw [20] (fun j wq => ∃ m : Nat, m ≤ x.p.length ∧ j = .int .i64 (m : Int) ∧ KyIs wq mb (64 * k + m) (lk (partsU A (x.p.take m))) ∧ Only mb w3 wq) (fun j _ => (x.p.length - intOf j).toNat)
      case atStart => exact ⟨0, by omega, rfl, HM3.out, Only.refl _ _⟩
      case round =>
        obtain ⟨m, hm, rfl, hmm, hom⟩ := hrel
        have HMQ := Lib.hid hmm
        have HOQ := Lib.hid hom
        clear hmm hom
        have hxl := HXL.out
        by_cases hlm : m < x.p.length
        · obtain ⟨y, hy⟩ : ∃ y, x.p[m]? = some y := ⟨_, List.getElem?_eq_getElem hlm⟩
          have hy1 : One y := HON.out y (List.mem_of_getElem? hy)
          have HY1 := Lib.hid hy1
          have HTM : Hid (partsU A (x.p.take (m + 1)) = addU (partsU A (x.p.take m)) y.a y.n) := Lib.hid (by rw [List.take_add_one, hy]; exact partsU_snoc _ _ _)
          have HAM : Hid (Okay (partsU A (x.p.take m)) (64 * k + m)) := Lib.hid ((okay_parts HACC.out _ (fun z hz => HON.out z (List.mem_of_mem_take hz))).mono (by rw [List.length_take]; omega))
          have HRQ := Lib.hid (HOQ.out.keepRow HR3.out (fun e => by have := (World.ownsRow.lt HR3.out) _ e; have := HRS.out; omega))
          obtain ⟨a3, rfl, hab3, c0, c1, c2, c3⟩ := (Row.pts HRQ.out) m y hy
          generalize partsU A (x.p.take m) = C at *
          clear hy hy1 hab3
          go_wp2_with fail
          have HBX := Lib.hid (Box.made wr y)
          have HMB2 := Lib.hid (MapIs.alloc HMQ.out (.cells #[.int .i64 y.o, .int .i64 y.n, .int .i64 y.a, .int .i64 y.f] 35))
          have HOB := Lib.hid (Only.of_below (b := mb) (below_alloc wr (.cells #[.int .i64 y.o, .int .i64 y.n, .int .i64 y.a, .int .i64 y.f] 35)))
          have HXM : Hid (wr.heap.size ≠ mb) := Lib.hid (by have := MapIs.lt HMQ.out; omega)
          generalize wr.alloc (.cells #[.int .i64 y.o, .int .i64 y.n, .int .i64 y.a, .int .i64 y.f] 35) = w5 at *
          generalize wr.heap.size = xb at *
          have HS0 : Hid (Box w5.drew xb y) := Lib.hid HBX.out
          have hok : kyOk y.a := kyOk_of (by have := HY1.out.small; omega)
          obtain ⟨st, w6, hrun6, hm6, ho6, hs6, hst⟩ := MapIs.entry (MapIs.drew HMB2.out) kyMK kyLaw Try.underlying69 0 inZero (by unfold maxLen; omega) y.a hok
          obtain ⟨w7, hrun7, hm7, ho7, hs7⟩ := hst w6 ((lk C y.a).getD 0 + y.n) rfl
          have hlk5 := MapIs.look (MapIs.drew HMB2.out) kyMK Try.underlying69 (inZero w5.drew) y.a hok false
          have hlk6 := MapIs.look hm6 kyMK Try.underlying69 (inZero w6) y.a hok false
          rw [if_neg (by simp)] at hlk5 hlk6
          have hv6 : ((if y.a = y.a then some ((lk C y.a).getD 0) else lk C y.a).map inV).getD (inV 0) = .int .i64 ((lk C y.a).getD 0) := by rw [if_pos rfl]; rfl
          have hv5 : ((lk C y.a).map inV).getD (inV 0) = .int .i64 ((lk C y.a).getD 0) := by cases lk C y.a <;> rfl
          rw [hv6] at hlk6
          rw [hv5] at hlk5
          have hwrap := part_fits HAM.out (by have := hm; omega) HY1.out
          have HBX6 : Hid (Box w6 xb y) := Lib.hid (ho6.heap HS0.out HXM.out)
          have hm7' : KyIs w7 mb (64 * k + (m + 1)) (lk (addU C y.a y.n)) := by rw [lk_add HAM.out.rises]; exact MapIs.mono (MapIs.congr hm7 (by funext z; split <;> rfl)) (by omega)
          have HM7 := Lib.hid hm7'
          have HO7 : Hid (Only mb w5.drew w7) := Lib.hid (ho6.trans ho7)
          have HWX : Hid (IntKind.i64.wrap ((lk C y.a).getD 0 + y.n) = (lk C y.a).getD 0 + y.n) := Lib.hid hwrap
          have HE6 := Lib.hid hrun6
          have HE7 := Lib.hid hrun7
          have HL5 := Lib.hid hlk5
          have HL6 := Lib.hid hlk6
          clear hrun6 hrun7 hlk5 hlk6 hm7 hm7' hwrap hv5 hv6 hst hm6 ho6 hs6 ho7 hs7 hok
          generalize (lk C y.a).getD 0 = v0 at *
          refine regionL 10 11 (fun w' => Box w' xb y) (by kernel_rfl) rfl ?_
          refine takeL 0 (some 24) (v := ?_) rfl (by kernel_rfl) (by kernel_rfl) (by kernel_rfl) (by kernel_rfl) (fun _ _ _ h => h) rfl rfl HS0.out ?_ ?_
          rotate_left
          · intro wq hq
            obtain ⟨g0, g1, g2, g3⟩ := Box.cells hq
            go_simp
            with_reducible rfl
          simp only [Act.put, List.setIfInBounds_toArray, List.set_cons_zero, List.set_cons_succ]
          refine takeL 1 (some 25) (v := ?_) rfl (by kernel_rfl) (by kernel_rfl) (by kernel_rfl) (by kernel_rfl) (fun _ _ _ h => h) rfl rfl HS0.out ?_ ?_
          rotate_left
          · intro wq hq
            obtain ⟨g0, g1, g2, g3⟩ := Box.cells hq
            go_simp
            with_reducible rfl
          simp only [Act.put, List.setIfInBounds_toArray, List.set_cons_zero, List.set_cons_succ]
          refine takeL 2 (some 26) (v := ?_) rfl (by kernel_rfl) (by kernel_rfl) (by kernel_rfl) (by kernel_rfl) (fun _ _ _ h => h) rfl rfl HS0.out ?_ ?_
          rotate_left
          · intro wq hq
            obtain ⟨g0, g1, g2, g3⟩ := Box.cells hq
            go_simp
            with_reducible rfl
          simp only [Act.put, List.setIfInBounds_toArray, List.set_cons_zero, List.set_cons_succ]
          refine takeL 3 (some 27) (v := ?_) rfl (by kernel_rfl) (by kernel_rfl) (by kernel_rfl) (by kernel_rfl) (fun _ _ _ h => h) rfl rfl HS0.out ?_ ?_
          rotate_left
          · intro wq hq
            obtain ⟨g0, g1, g2, g3⟩ := Box.cells hq
            go_simp
            with_reducible rfl
          simp only [Act.put, List.setIfInBounds_toArray, List.set_cons_zero, List.set_cons_succ]
          refine takeL 5 (some 29) (v := ?_) rfl (by kernel_rfl) (by kernel_rfl) (by kernel_rfl) (by kernel_rfl) (fun _ _ _ h => h) rfl rfl HS0.out ?_ ?_
          rotate_left
          · intro wq hq
            obtain ⟨g0, g1, g2, g3⟩ := Box.cells hq
            go_simp
            with_reducible rfl
          simp only [Act.put, List.setIfInBounds_toArray, List.set_cons_zero, List.set_cons_succ]
          refine takeL 6 (some 30) (v := ?_) rfl (by kernel_rfl) (by kernel_rfl) (by kernel_rfl) (by kernel_rfl) (fun _ _ _ h => h) rfl rfl HS0.out ?_ ?_
          rotate_left
          · intro wq hq
            obtain ⟨g0, g1, g2, g3⟩ := Box.cells hq
            go_simp
            with_reducible rfl
          simp only [Act.put, List.setIfInBounds_toArray, List.set_cons_zero, List.set_cons_succ]
          refine twoL 4 8 (by kernel_rfl) rfl rfl rfl rfl (wp_runs (some 28) (v := .int .i64 v0) (w' := w5.drew) rfl (by have h5 := HL5.out; unfold kyV at h5; go_simp) ⟨fun _ => HS0.out, ?_⟩) (wp_runs (some 32) (v := .tuple #[.int .i64 v0, goInt st]) (w' := w6) rfl (by have h5 := HE6.out; unfold kyV at h5; go_simp; rfl) ⟨fun _ => HBX6.out, ?_⟩)
          · simp only [Act.put, List.setIfInBounds_toArray, List.set_cons_zero, List.set_cons_succ]
            refine takeL 7 (some 31) (v := ?_) rfl (by kernel_rfl) (by kernel_rfl) (by kernel_rfl) (by kernel_rfl) (fun _ _ _ h => h) rfl rfl HS0.out ?_ ?_
            rotate_left
            · intro wq hq
              have g0 := HWX.out
              go_simp
              with_reducible rfl
            simp only [Act.put, List.setIfInBounds_toArray, List.set_cons_zero, List.set_cons_succ]
            refine oneL 8 (by kernel_rfl) rfl rfl (wp_runs (some 32) (v := .tuple #[.int .i64 v0, goInt st]) (w' := w6) rfl (by have h5 := HE6.out; unfold kyV at h5; go_simp; rfl) ⟨fun _ => HBX6.out, ?_⟩)
            simp only [Act.put, List.setIfInBounds_toArray, List.set_cons_zero, List.set_cons_succ]
            refine takeL 9 (some 33) (v := ?_) rfl (by kernel_rfl) (by kernel_rfl) (by kernel_rfl) (by kernel_rfl) (fun _ _ _ h => h) rfl rfl HBX6.out ?_ ?_
            rotate_left
            · intro wq hq
              have g0 := hq
              go_simp
              with_reducible rfl
            simp only [Act.put, List.setIfInBounds_toArray, List.set_cons_zero, List.set_cons_succ]
            refine oneL 10 (by kernel_rfl) rfl rfl (wp_skips none (w' := w7) rfl ?_ ⟨fun e => absurd rfl e, ?_⟩)
            · have h5 : (Instr.entryStore 69 (.map (some mb)) (.int .i64 (st : Int)) (.int .i64 (v0 + y.n))).run Try.prog w6 = .ok () w7 := HE7.out
              go_simp
            refine doneL (by kernel_rfl) ?_
            go_wp2_with fail
            exact ⟨⟨m + 1, by omega, by simp, by rw [HTM.out]; exact HM7.out, HOQ.out.trans (HOB.out.drew.trans HO7.out)⟩, by simp [intOf]; omega⟩
          · simp only [Act.put, List.setIfInBounds_toArray, List.set_cons_zero, List.set_cons_succ]
            refine takeL 9 (some 33) (v := ?_) rfl (by kernel_rfl) (by kernel_rfl) (by kernel_rfl) (by kernel_rfl) (fun _ _ _ h => h) rfl rfl HBX6.out ?_ ?_
            rotate_left
            · intro wq hq
              have g0 := hq
              go_simp
              with_reducible rfl
            simp only [Act.put, List.setIfInBounds_toArray, List.set_cons_zero, List.set_cons_succ]
            refine oneL 4 (by kernel_rfl) rfl rfl (wp_runs (some 28) (v := .int .i64 v0) (w' := w6) rfl (by have h5 := HL6.out; unfold kyV at h5; go_simp) ⟨fun _ => HBX6.out, ?_⟩)
            simp only [Act.put, List.setIfInBounds_toArray, List.set_cons_zero, List.set_cons_succ]
            refine takeL 7 (some 31) (v := ?_) rfl (by kernel_rfl) (by kernel_rfl) (by kernel_rfl) (by kernel_rfl) (fun _ _ _ h => h) rfl rfl HBX6.out ?_ ?_
            rotate_left
            · intro wq hq
              have g0 := HWX.out
              go_simp
              with_reducible rfl
            simp only [Act.put, List.setIfInBounds_toArray, List.set_cons_zero, List.set_cons_succ]
            refine oneL 10 (by kernel_rfl) rfl rfl (wp_skips none (w' := w7) rfl ?_ ⟨fun e => absurd rfl e, ?_⟩)
            · have h5 : (Instr.entryStore 69 (.map (some mb)) (.int .i64 (st : Int)) (.int .i64 (v0 + y.n))).run Try.prog w6 = .ok () w7 := HE7.out
              go_simp
            refine doneL (by kernel_rfl) ?_
            go_wp2_with fail
            exact ⟨⟨m + 1, by omega, by simp, by rw [HTM.out]; exact HM7.out, HOQ.out.trans (HOB.out.drew.trans HO7.out)⟩, by simp [intOf]; omega⟩
        · obtain rfl : m = x.p.length := by omega
          rw [List.take_length] at HMQ
          go_wp2_with fail
          exact ⟨⟨k + 1, by omega, by simp, by rw [HTK.out]; exact MapIs.mono HMQ.out (by omega), HR13.out.trans HOQ.out⟩, by simp [intOf]; omega⟩
    · obtain rfl : k = L.length := by omega
      rw [List.take_length] at HM
      have HSO := Lib.hid (okay_all L HT.out.good.all)
      go_wp2_with (go_at_call 31; refine (sorted_any mb _ _ _ HM.out HSO.out.rises (by have := HSO.out.len; omega)).mono ?_; rintro e w7 ⟨v, rfl, hr7, hb7⟩; have HR7 := Lib.hid hr7; have HB7 := Lib.hid hb7; clear hr7 hb7)
      go_ret
      have hwr : Below w.heap.size w wr := HBW.out.trans (HO.out.below (by rw [HMB.out]; exact Nat.le_refl _) HBW.out.size)
      exact ⟨_, rfl, HR7.out.mono hwr.size, hwr.trans (HB7.out.mono hwr.size)⟩
end Go.Proofs.Ytaaecdijbkkoiaa.LivW
