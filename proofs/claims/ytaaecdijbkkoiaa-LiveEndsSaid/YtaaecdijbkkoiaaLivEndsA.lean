/- Several texts in one. -/
import Derived.Test.YtaaecdijbkkoiaaLivLoad
import Derived.Test.YtaaecdijbkkoiaaLivSegs
import Derived.Test.YtaaecdijbkkoiaaInoOps
import Derived.Test.YtaaecdijbkkoiaaInoFile
import Derived.Test.YtaaecdijbkkoiaaRowAt
import Derived.Test.YtaaecdijbkkoiaaOpenN
import Derived.Test.YtaaecdijbkkoiaaLaw
import Derived.Test.YtaaecdijbkkoiaaInoMake
import Derived.Test.YtaaecdijbkkoiaaInoLink
import Derived.Test.YtaaecdijbkkoiaaInoTrunc
import Derived.Test.YtaaecdijbkkoiaaInoFarA
import Derived.Test.YtaaecdijbkkoiaaHeld
import Derived.Lib.BufferMore
/- The law's own example. -/
namespace Go.Proofs.Ytaaecdijbkkoiaa.LivW
set_option maxRecDepth 100000
open Go.RowKit LivP InoP InoW ExtW
def wxs : List Ino := [⟨1, 1, 1, 0, 0, []⟩, ⟨2, 2, 1, 0, 20, [⟨0, 3, 5, 0⟩, ⟨10, 4, 5, 7⟩]⟩]
theorem wx_all : allU wxs = [⟨5, 7⟩] := by decide +kernel
theorem wx_seg : segL 4 [⟨5, 7⟩] = [⟨1, 7⟩] := by decide +kernel
theorem wx_good : LGood wxs 3 := by
  refine ⟨by decide, by decide, fun i hi x hx => ?_, fun x hx => ?_⟩
  · have : i = 0 ∨ i = 1 := by have : wxs.length = 2 := rfl; omega
    rcases this with rfl | rfl
    · obtain rfl : x = ⟨1, 1, 1, 0, 0, []⟩ := by simpa [wxs] using hx.symm
      exact ⟨⟨by decide, by decide, by decide, by decide, by decide, by decide, by decide, by decide, by decide +kernel, by decide +kernel⟩, fun p h0 => absurd h0 (by omega)⟩
    · obtain rfl : x = ⟨2, 2, 1, 0, 20, [⟨0, 3, 5, 0⟩, ⟨10, 4, 5, 7⟩]⟩ := by simpa [wxs] using hx.symm
      refine ⟨⟨by decide, by decide, by decide, by decide, by decide, by decide, by decide, by decide, by decide +kernel, by decide +kernel⟩, fun p h0 hp => ?_⟩
      obtain rfl : p = ⟨1, 1, 1, 0, 0, []⟩ := by simpa [wxs] using hp.symm
      decide
  · obtain rfl : x = ⟨1, 1, 1, 0, 0, []⟩ := by simpa [wxs] using hx.symm
    decide
def wcs (b : Nat) : Array Value := #[.int .i64 1, .int .i64 1, .int .i64 1, .int .i64 0, .int .i64 0, .slice none 0 0, .int .i64 2, .int .i64 2, .int .i64 1, .int .i64 0, .int .i64 20, .slice (some ⟨b, 0, none⟩) 2 2]
def wps : Array Value := #[.int .i64 0, .int .i64 3, .int .i64 5, .int .i64 0, .int .i64 10, .int .i64 4, .int .i64 5, .int .i64 7]
def wys (b : Nat) : List IV := [⟨1, 1, 1, 0, 0, none, 0, 0⟩, ⟨2, 2, 1, 0, 20, some ⟨b, 0, none⟩, 2, 2⟩]
theorem wx_list (w : World) {pb b : Nat} {t u : TypeId} (h1 : w.heap[pb]? = some (.cells wps t (0, 0))) (h2 : w.heap[b]? = some (.cells (wcs pb) u (0, 0))) : IList w (some ⟨b, 0, none⟩) wxs (wys pb) := by
  have k1 := Lib.cell_of_heap h1
  have k2 := Lib.cell_of_heap h2
  refine ⟨fun i x hx => ⟨_, rfl, lt_of_block h2, fun j v hv => ?_⟩, rfl, fun i x y hx hy => ?_⟩
  · rw [← fieldOf_add, add_at, k2]
    have : i = 0 ∨ i = 1 := by have := (List.getElem?_eq_some_iff.1 hx).1; have e : (wys pb).length = 2 := rfl; omega
    have hj : j < 6 := by have := (List.getElem?_eq_some_iff.1 hv).1; rw [encI_len] at this; exact this
    rcases this with rfl | rfl
    · obtain rfl : x = ⟨1, 1, 1, 0, 0, none, 0, 0⟩ := by simpa [wys] using hx.symm
      have : j = 0 ∨ j = 1 ∨ j = 2 ∨ j = 3 ∨ j = 4 ∨ j = 5 := by omega
      rcases this with rfl | rfl | rfl | rfl | rfl | rfl <;> exact hv
    · obtain rfl : x = ⟨2, 2, 1, 0, 20, some ⟨pb, 0, none⟩, 2, 2⟩ := by simpa [wys] using hx.symm
      have : j = 0 ∨ j = 1 ∨ j = 2 ∨ j = 3 ∨ j = 4 ∨ j = 5 := by omega
      rcases this with rfl | rfl | rfl | rfl | rfl | rfl <;> exact hv
  · have : i = 0 ∨ i = 1 := by have := (List.getElem?_eq_some_iff.1 hx).1; have e : wxs.length = 2 := rfl; omega
    rcases this with rfl | rfl
    · obtain rfl : x = ⟨1, 1, 1, 0, 0, []⟩ := by simpa [wxs] using hx.symm
      obtain rfl : y = ⟨1, 1, 1, 0, 0, none, 0, 0⟩ := by simpa [wys] using hy.symm
      exact ⟨rfl, rfl, rfl, rfl, rfl, rfl, fun i x h => by simp at h, fun _ => ⟨rfl, rfl⟩⟩
    · obtain rfl : x = ⟨2, 2, 1, 0, 20, [⟨0, 3, 5, 0⟩, ⟨10, 4, 5, 7⟩]⟩ := by simpa [wxs] using hx.symm
      obtain rfl : y = ⟨2, 2, 1, 0, 20, some ⟨pb, 0, none⟩, 2, 2⟩ := by simpa [wys] using hy.symm
      refine ⟨rfl, rfl, rfl, rfl, rfl, rfl, fun i x h => ?_, fun e => by cases e⟩
      refine ⟨_, rfl, lt_of_block h1, ?_⟩
      have : i = 0 ∨ i = 1 := by have := (List.getElem?_eq_some_iff.1 h).1; simp at this; omega
      rcases this with rfl | rfl
      · obtain rfl : x = ⟨0, 3, 5, 0⟩ := by simpa using h.symm
        simp only [add_at, k1]
        exact ⟨rfl, rfl, rfl, rfl⟩
      · obtain rfl : x = ⟨10, 4, 5, 7⟩ := by simpa using h.symm
        simp only [add_at, k1]
        exact ⟨rfl, rfl, rfl, rfl⟩
theorem row_one {B : Nat} {w : World} {v : Value} {u : U} (h : RowK 40 encU 2 B w v [u]) : ∃ g c, v = .slice (some ⟨g, 0, none⟩) 1 c ∧ g < w.heap.size ∧ w.cell? ⟨g, 0, none⟩ = some (.int .i64 u.a) ∧ w.cell? ⟨g, 1, none⟩ = some (.int .i64 u.n) := by
  obtain ⟨oa, c, rfl, _⟩ := h.form
  obtain ⟨g, rfl, _, hg, hc⟩ := RowK.at us_len (by omega) h (i := 0) rfl
  exact ⟨g, c, rfl, hg, hc 0 _ rfl, hc 1 _ rfl⟩
set_option maxHeartbeats 3200000 in
theorem wakes_any (W : World) : Calls Try.prog 8 #[] W fun e w' => e = .returned (.bool true) ∧ Below W.heap.size W w' := by
  have HLI : Hid (IList ((W.alloc (.cells wps 35)).alloc (.cells (wcs W.heap.size) 68)) (some ⟨W.heap.size + 1, 0, none⟩) wxs (wys W.heap.size)) := Lib.hid (wx_list _ ((below_alloc _ _).block _ (by simp) |>.trans (heap_alloc_new W _)) (by have := heap_alloc_new (W.alloc (.cells wps 35)) (.cells (wcs W.heap.size) 68); rwa [alloc_size] at this))
  go_enter Try.func8, Try.ntmps8
  have HO : Hid (oldE (allU wxs) 9 = 5) := Lib.hid (by rw [wx_all]; decide)
  have HS1 : Hid (safeE 4 5 = 4) := Lib.hid (by decide)
  have HS2 : Hid (safeE (-1) 5 = 0) := Lib.hid (by decide)
  go_wp2_with (first
    | (go_at_call 12; refine (safe_any 4 5 _).mono ?_; rintro e w5 ⟨rfl, rfl⟩; rw [HS1.out])
    | (go_at_call 12; refine (safe_any (-1) 5 _).mono ?_; rintro e w5 ⟨rfl, rfl⟩; rw [HS2.out])
    | (go_at_call 11; refine (oldest_any _ (allU wxs) 9 _ (addrs_on HT3.out _ (Below.refl _ _))).mono ?_; rintro e w4 ⟨rfl, hb4⟩; rw [HO.out]; have HB4 := Lib.hid hb4; clear hb4)
    | (go_at_call 10; refine (segs_any _ (allU wxs) HFI.out 4 _ (fun W' hb => addrs_on HT2.out W' hb)).mono ?_; rintro e w3 ⟨v3, rfl, hr3, hb3⟩; rw [wx_all, wx_seg] at hr3; obtain ⟨g3, c3, rfl, hg3, d30, d31⟩ := row_one hr3; have e0 : w3.cell? ⟨g2, 0, none⟩ = some (.int .i64 5) := (hb3.cell HG2.out).trans HR20.out; have e1 : w3.cell? ⟨g2, 1, none⟩ = some (.int .i64 7) := (hb3.cell HG2.out).trans HR21.out; have HB3 := Lib.hid hb3; have HT3 := Lib.hid (HT2.out.grow hb3); clear hr3 hb3 d31)
    | (go_at_call 9; refine (addrs_any _ HT1.out).mono ?_; rintro e w2 ⟨v2, rfl, hr2, hb2⟩; rw [wx_all] at hr2; obtain ⟨g2, c2, rfl, hg2, d20, d21⟩ := row_one hr2; have HR20 := Lib.hid d20; have HR21 := Lib.hid d21; have HG2 := Lib.hid hg2; have HB2 := Lib.hid hb2; have HT2 := Lib.hid (HT1.out.grow hb2); have HFI : Hid (Fine (allU wxs)) := Lib.hid (fine_all wx_good.table); clear hr2 hb2 d20 d21 hg2)
    | (go_at_call 7; refine (loaded_yes 3 _ 2 wxs (wys W.heap.size) wx_good _ HLI.out).mono ?_; rintro e w1 ⟨tb, mb, qb, oq, cq, zs, rfl, ht1, _, _, hb1⟩; have HT1 := Lib.hid ht1; have HB1 := Lib.hid hb1; clear ht1 hb1))
  go_ret
  have b0 := ((below_alloc W (.cells wps 35)).trans ((below_alloc (W.alloc (.cells wps 35)) (.cells (wcs W.heap.size) 68)).mono (by simp)))
  have b1 := b0.trans (HB1.out.mono b0.size)
  have b2 := b1.trans (HB2.out.mono b1.size)
  have b3 := b2.trans (HB3.out.mono b2.size)
  exact ⟨rfl, b3.trans (HB4.out.mono b3.size)⟩
end Go.Proofs.Ytaaecdijbkkoiaa.LivW

/- LiveEnds, plainly: how long a list of parts may grow, and how many bytes lie at an address. -/
namespace Go.Proofs.Ytaaecdijbkkoiaa.LivP
open ExtW
theorem cut_len : ∀ (l : List Pt) (s : Int), (cutL l s).length ≤ l.length
  | [], s => by simp [cutL]
  | x :: l, s => by
    have := cut_len l s
    rw [cutL]
    split <;> simp only [List.length_cons] <;> omega
theorem beh_len : ∀ (l : List Pt) (s : Int), (behL l s).length ≤ l.length
  | [], s => by simp [behL]
  | x :: l, s => by
    have := beh_len l s
    rw [behL]
    split <;> simp only [List.length_cons] <;> omega
theorem cut_none : ∀ {l : List Pt} {lo hi s : Int}, Sorted lo l hi → s ≤ lo → cutL l s = []
  | [], _, _, _, _, _ => rfl
  | x :: l, lo, hi, s, h, k => by
    have h1 := h.1
    have h2 := h.2.1
    rw [cutL, if_neg (by omega)]
    exact cut_none h.2.2 (by omega)
theorem cut_beh : ∀ {l : List Pt} {lo hi : Int} (s e : Int), Sorted lo l hi → s ≤ e → (cutL l s).length + (behL l e).length ≤ l.length + 1
  | [], _, _, _, _, _, _ => by simp [cutL, behL]
  | x :: l, lo, hi, s, e, h, k => by
    have h1 := h.1
    have h2 := h.2.1
    have hb := beh_len l e
    have ih := cut_beh s e h.2.2 k
    rw [cutL, behL]
    by_cases hs : x.o < s
    · rw [if_pos hs]
      by_cases he : max 0 (e - x.o) < x.n
      · rw [if_pos he, cut_none h.2.2 (by omega)]
        simp only [List.length_cons, List.length_nil]; omega
      · rw [if_neg he]
        simp only [List.length_cons]; omega
    · rw [if_neg hs, cut_none h.2.2 (by omega)]
      split <;> simp only [List.length_cons, List.length_nil] <;> omega
theorem over_len {l : List Pt} (h : ExtW.Good l) {x : Pt} (hx : 1 ≤ x.n) : (overL l x).length ≤ l.length + 2 := by
  have := cut_beh x.o (x.o + x.n) (good_sorted h) (by omega)
  unfold overL
  simp only [List.length_append, List.length_cons, List.length_nil]; omega
theorem put_two {l : List Pt} (h : ExtW.Good l) {x : Pt} (hx : One x) (hl : l.length ≤ 62) : putE l x = 0 ∧ (putL l x).length ≤ l.length + 2 := by
  have h1 := over_len h hx.small.2.1
  have h2 := join_len (overL l x)
  have h3 : ¬ (joinL (overL l x)).length > 64 := by omega
  unfold putE putL fewE fewL
  rw [if_pos h, if_pos hx, if_neg h3, if_pos h, if_pos hx, if_neg h3]
  exact ⟨rfl, by omega⟩
/-- the bytes of the parts at an address -/
def sumA (l : List Pt) (a : Int) : Int := (l.map fun x => if x.a = a then x.n else 0).sum
theorem partsU_get (a : Int) : ∀ (l : List Pt) {L : List U}, Rises L → (lk (partsU L l) a).getD 0 = (lk L a).getD 0 + sumA l a
  | [], L, _ => by simp [partsU, sumA]
  | x :: l, L, h => by
    have ih := partsU_get a l (addU_rises h x.a x.n)
    have e : partsU L (x :: l) = partsU (addU L x.a x.n) l := rfl
    rw [e, ih, lk_add h]
    unfold sumA
    rw [List.map_cons, List.sum_cons]
    by_cases hx : a = x.a
    · subst hx; simp; omega
    · simp only [if_neg hx, if_neg (fun q => hx (Eq.symm q))]; omega
/-- how many of the first places hold a byte of the address -/
def hits (g : Int → Option (Int × Int)) (a : Int) : Nat → Int
  | 0 => 0
  | k + 1 => hits g a k + if (g k).map (·.1) = some a then 1 else 0
theorem hits_congr {g g' : Int → Option (Int × Int)} (a : Int) : ∀ (K : Nat), (∀ z : Nat, z < K → (g z).map (·.1) = (g' z).map (·.1)) → hits g a K = hits g' a K
  | 0, _ => rfl
  | k + 1, h => by
    have := hits_congr a k (fun z hz => h z (by omega))
    unfold hits
    rw [this, h k (by omega)]
theorem hits_none (a : Int) : ∀ (K : Nat), hits (fun _ => none) a K = 0
  | 0 => rfl
  | k + 1 => by unfold hits; rw [hits_none a k]; simp
theorem look_low : ∀ {l : List Pt} {lo hi : Int}, Sorted lo l hi → ∀ z, z < lo → ExtW.look l z = none
  | [], _, _, _, _, _ => rfl
  | x :: l, lo, hi, h, z, hz => by
    have h1 := h.1
    have h2 := h.2.1
    rw [ExtW.look, if_neg (by omega)]
    exact look_low h.2.2 z (by omega)
theorem hits_one (x : Pt) (a : Int) (h0 : 0 ≤ x.o) (hn : 0 ≤ x.n) : ∀ (K : Nat), hits (fun z => if x.o ≤ z ∧ z < x.o + x.n then some (x.a, x.f + (z - x.o)) else none) a K = if x.a = a then max 0 (min (K : Int) (x.o + x.n) - x.o) else 0
  | 0 => by unfold hits; split <;> omega
  | k + 1 => by
    have ih := hits_one x a h0 hn k
    unfold hits
    rw [ih]
    by_cases hk : x.o ≤ (k : Int) ∧ (k : Int) < x.o + x.n
    · rw [if_pos hk]
      by_cases ha : x.a = a
      · simp only [ha, if_true, Option.map_some]; omega
      · simp [ha]
    · rw [if_neg hk]
      by_cases ha : x.a = a
      · simp only [ha, if_true, Option.map_none]; simp; omega
      · simp [ha]
theorem hits_sum (a : Int) (K : Nat) : ∀ {l : List Pt} {lo : Int}, 0 ≤ lo → Sorted lo l (K : Int) → hits (ExtW.look l) a K = sumA l a
  | [], lo, _, _ => by
    have : hits (ExtW.look []) a K = hits (fun _ => none) a K := rfl
    rw [this, hits_none]; simp [sumA]
  | x :: l, lo, h0, h => by
    have h1 := h.1
    have h2 := h.2.1
    have hle := h.2.2.le
    have ih := hits_sum a K (by omega : (0 : Int) ≤ x.o + x.n) h.2.2
    have hadd : ∀ (K' : Nat), hits (ExtW.look (x :: l)) a K' = hits (fun z => if x.o ≤ z ∧ z < x.o + x.n then some (x.a, x.f + (z - x.o)) else none) a K' + hits (ExtW.look l) a K' := by
      intro K'
      induction K' with
      | zero => rfl
      | succ k ihk =>
        unfold hits
        rw [ihk, ExtW.look]
        by_cases hk : x.o ≤ (k : Int) ∧ (k : Int) < x.o + x.n
        · rw [if_pos hk, if_pos hk, look_low h.2.2 k hk.2]
          simp; omega
        · rw [if_neg hk, if_neg hk]
          simp; omega
    rw [hadd, ih, hits_one x a (by omega) (by omega)]
    unfold sumA
    rw [List.map_cons, List.sum_cons]
    split <;> omega
end Go.Proofs.Ytaaecdijbkkoiaa.LivP

/- LiveEnds, plainly: what a write and a cut make of the one file. -/
namespace Go.Proofs.Ytaaecdijbkkoiaa.LivP
open ExtW InoP
def EL (s : Int) (p : List Pt) : List Ino := [root, ⟨2, 2, 1, 0, s, p⟩]
theorem el_find (s : Int) (p : List Pt) : InoP.find (EL s p) 2 = some ⟨2, 2, 1, 0, s, p⟩ := rfl
theorem el_upd (s s' : Int) (p p' : List Pt) : upd (EL s p) ⟨2, 2, 1, 0, s', p'⟩ = EL s' p' := rfl
theorem el_all (s : Int) (p : List Pt) : allU (EL s p) = partsU [] p := rfl
theorem en_one {off n : Int} {k : Nat} (ho : 0 ≤ off ∧ off ≤ 255) (hn : 1 ≤ n ∧ n ≤ 256) (hk : k < 30) : One ⟨off, n, (k : Int), 0⟩ := by
  unfold ExtW.One Whole; simp only; omega
theorem en_write {s : Int} {p : List Pt} (hg : ExtW.Good p) {k : Nat} (hl : p.length ≤ 2 * k) (hk : k < 30) {off n : Int} (ho : 0 ≤ off ∧ off ≤ 255) (hn : 1 ≤ n ∧ n ≤ 256) :
    writeE (EL s p) 2 off n k = 0 ∧ writeL (EL s p) 2 off n k = EL (max s (off + n)) (putL p ⟨off, n, k, 0⟩) ∧ ExtW.Good (putL p ⟨off, n, k, 0⟩) ∧ (putL p ⟨off, n, (k : Int), 0⟩).length ≤ 2 * (k + 1) ∧
      ∀ i, ExtW.look (putL p ⟨off, n, k, 0⟩) i = if off ≤ i ∧ i < off + n then some ((k : Int), 0 + (i - off)) else ExtW.look p i := by
  have h1 := en_one ho hn hk
  obtain ⟨e, hlen⟩ := put_two hg h1 (by omega)
  obtain ⟨_, hg2, hj⟩ := put_fine hg e
  have hm : mayW off n = true := by unfold mayW; exact decide_eq_true (by omega)
  have hE : writeE (EL s p) 2 off n k = 0 := by
    unfold writeE
    rw [el_find]
    simp only [hm, if_true]
    rw [if_neg (by decide)]
    exact space_ok.2 e
  refine ⟨hE, ?_, hg2, by omega, fun i => ?_⟩
  · unfold writeL
    rw [el_find]
    simp only [hE, if_true]
    rfl
  · rw [hj, (join_fine (over_sorted hg h1) (over_ones hg h1)).2.2.2 i]
    exact look_over p _ i h1.small.2.1
theorem en_cut {s : Int} {p : List Pt} (hg : ExtW.Good p) {c : Int} (hc : 0 ≤ c ∧ c ≤ 255) : truncE (EL s p) 2 c = 0 ∧ truncL (EL s p) 2 c = EL c (ExtW.cutL p c) ∧ ExtW.Good (ExtW.cutL p c) ∧ ∀ i, ExtW.look (ExtW.cutL p c) i = if i < c then ExtW.look p i else none := by
  have hE : truncE (EL s p) 2 c = 0 := by
    unfold truncE
    rw [el_find]
    simp only
    rw [if_neg (by decide), if_neg (by omega)]
  refine ⟨hE, ?_, cut_good hg c, look_cut p c⟩
  unfold truncL
  rw [el_find]
  simp only [hE, if_true]
  rfl
/-- the file behind k writes: F tells of each place the last write, plus one -/
structure En (k : Nat) (p : List Pt) (F : Nat → Int) : Prop where
  good : ExtW.Good p
  len : p.length ≤ 2 * k
  rng : ∀ z, 0 ≤ F z ∧ F z ≤ k
  look : ∀ z : Nat, (ExtW.look p z).map (·.1) = if F z = 0 then none else some (F z - 1)
theorem en_nil : En 0 [] (fun _ => 0) := ⟨⟨by simp, trivial⟩, by simp, fun _ => ⟨by simp, by simp⟩, fun _ => rfl⟩
theorem En.write {k : Nat} {p : List Pt} {F : Nat → Int} (h : En k p F) (hk : k < 30) {off n : Int} (ho : 0 ≤ off ∧ off ≤ 255) (hn : 1 ≤ n ∧ n ≤ 256) : En (k + 1) (putL p ⟨off, n, k, 0⟩) (fun z => if off ≤ (z : Int) ∧ (z : Int) < off + n then k + 1 else F z) := by
  obtain ⟨_, _, g1, g2, g3⟩ := en_write (s := 0) h.good h.len hk ho hn
  refine ⟨g1, g2, fun z => ?_, fun z => ?_⟩
  · have := h.rng z
    split <;> omega
  · rw [g3 z]
    by_cases hz : off ≤ (z : Int) ∧ (z : Int) < off + n
    · rw [if_pos hz]
      simp only [if_pos hz]
      rw [if_neg (by omega)]
      simp
    · rw [if_neg hz]
      simp only [if_neg hz]
      exact h.look z
/-- what counts of an address behind the cut: the places ahead of it that the write wrote last -/
theorem En.count {k : Nat} {p : List Pt} {F : Nat → Int} (h : En k p F) {c : Nat} (hc : c ≤ 255) (i : Nat) : (lk (partsU [] (ExtW.cutL p c)) i).getD 0 = hits (fun z => if z < (c : Int) then ExtW.look p z else none) i 8192 := by
  obtain ⟨_, _, g1, g2⟩ := en_cut (s := 0) h.good (c := c) (by omega)
  rw [partsU_get (i : Int) _ (L := []) List.Pairwise.nil, ← hits_sum (i : Int) 8192 (Int.le_refl 0) (good_sorted g1)]
  have : (lk ([] : List U) (i : Int)).getD 0 = 0 := rfl
  rw [this, Int.zero_add]
  exact hits_congr _ _ fun z _ => by rw [g2]
end Go.Proofs.Ytaaecdijbkkoiaa.LivP

/- LiveEnds, plainly: what its two counting loops come to. -/
namespace Go.Proofs.Ytaaecdijbkkoiaa.LivP
open ExtW InoP
/-- how many of the first places were written last by write number i -/
def wantN (F : Nat → Int) (i : Int) : Nat → Int
  | 0 => 0
  | k + 1 => wantN F i k + if F k = i + 1 then 1 else 0
theorem hits_cut (g : Int → Option (Int × Int)) (a : Int) (c : Nat) : ∀ K, c ≤ K → hits (fun z => if z < (c : Int) then g z else none) a K = hits g a c := by
  intro K
  induction K with
  | zero =>
    intro h
    obtain rfl : c = 0 := by omega
    rfl
  | succ k ih =>
    intro h
    by_cases hk : c = k + 1
    · subst hk
      exact hits_congr a (k + 1) fun z hz => by rw [if_pos (by omega)]
    · unfold hits
      rw [ih (by omega), if_neg (by omega : ¬ ((k : Int) < (c : Int)))]
      cases c with
      | zero => simp [hits]
      | succ c => rw [show hits g a (c + 1) = hits g a c + if (g c).map (·.1) = some a then 1 else 0 from rfl]; simp
theorem En.want {k : Nat} {p : List Pt} {F : Nat → Int} (h : En k p F) (i : Nat) : ∀ c : Nat, hits (ExtW.look p) i c = wantN F i c
  | 0 => rfl
  | c + 1 => by
    unfold hits wantN
    rw [En.want h i c, h.look c]
    by_cases hz : F c = 0
    · rw [if_pos hz, if_neg (by simp), if_neg (by omega)]
    · rw [if_neg hz]
      by_cases hi : F c = i + 1
      · rw [if_pos hi, if_pos (by rw [hi]; simp)]
      · rw [if_neg hi, if_neg (fun q => hi (by injection q with q; omega))]
/-- the law: what counts is what was written last ahead of the cut -/
theorem En.law {k : Nat} {p : List Pt} {F : Nat → Int} (h : En k p F) {c : Nat} (hc : c ≤ 255) (i : Nat) : (lk (partsU [] (ExtW.cutL p c)) i).getD 0 = wantN F i c := by
  rw [h.count hc i, hits_cut _ _ c 8192 (by omega), h.want i c]
theorem lk_take {L : List U} (h : Rises L) {k : Nat} {u : U} (hu : L[k]? = some u) (a : Int) : (lk (L.take (k + 1)) a).getD 0 = if u.a = a then u.n else (lk (L.take k) a).getD 0 := by
  rw [List.take_add_one, hu]
  obtain ⟨hk, rfl⟩ := List.getElem?_eq_some_iff.1 hu
  unfold lk Sl.look
  rw [List.find?_append]
  by_cases ha : L[k].a = a
  · rw [if_pos ha]
    have hn : (L.take k).find? (fun b => decide (b.a = a)) = none := by
      rw [List.find?_eq_none]
      intro b hb
      obtain ⟨j, hj, rfl⟩ := List.getElem_of_mem hb
      have hj' : j < k := by simp at hj; omega
      have := List.pairwise_iff_getElem.1 h j k (by omega) hk hj'
      unfold il at this
      simp only [List.getElem_take, decide_eq_true_eq]
      omega
    rw [hn]
    simp [ha]
  · rw [if_neg ha]
    simp [ha]
theorem wantN_bd (F : Nat → Int) (i : Int) : ∀ c : Nat, 0 ≤ wantN F i c ∧ wantN F i c ≤ c
  | 0 => by simp [wantN]
  | c + 1 => by
    have := wantN_bd F i c
    unfold wantN
    split <;> omega
end Go.Proofs.Ytaaecdijbkkoiaa.LivP

/- Pairs of small numbers that came in. -/
namespace Go.Proofs.Ytaaecdijbkkoiaa.InoW
set_option maxRecDepth 100000
open Go.RowKit InoP ExtW Go.ChangeShapes Go.WideShapes Go.Deep
def encP (k : IntKind) (x : Int × Int) : List Value := [.int k x.1, .int k x.2]
section
variable {H : Type} {enc : TypeId × Value → H} {P : Program} {w : World} {base b0 : Nat} {spare : Nat → Bool} {held : Bool} {r : Reach} {v : Value} {d : DataW H} {p : List MemPlace}
/-- pairs of numbers that came in -/
theorem open_pairs {k : IntKind} {t e ei : TypeId} (ht : P.underlying t = some (.slice e)) (he : P.underlying e = some (.array 2 ei)) (hei : P.underlying ei = some (.int k)) (hcei : P.cellsOf ei = 1) (hce : P.cellsOf e = 2)
    (hv : Value.okWide P w r b0 t v) (h : DataW.Trod enc P w base spare held t v d p) :
    ∃ (oa : Option Addr) (cap : Nat) (l : List (Int × Int)), v = .slice oa l.length cap ∧ KAt (encP k) 2 w.heap.size oa l w ∧ (∀ x ∈ l, (Lit.int k x.1).wf = true ∧ (Lit.int k x.2).wf = true) ∧ l.length ≤ maxLen := by
  obtain ⟨oa, len, cap, rfl⟩ := okWide_slice ht hv
  obtain ⟨fuel, hf⟩ := h
  rcases open_slice ht hf with ⟨hcs, _⟩ | ⟨a, len', cap', m, n, D, Pl, hcs, _, hl, hm, hmm, _, hi⟩
  · simp [Value.cells] at hcs
    obtain ⟨rfl, rfl, rfl⟩ := hcs
    exact ⟨none, 0, [], rfl, KAt.nil _ _ _, by simp, by simp⟩
  · simp [Value.cells] at hcs
    obtain ⟨rfl, rfl, rfl⟩ := hcs
    have key : ∀ i, ∃ x : Int × Int, ((Lit.int k x.1).wf = true ∧ (Lit.int k x.2).wf = true) ∧ (i < len → a.block < w.heap.size ∧ ∀ j u, (encP k x)[j]? = some u → w.cell? (fieldOf (a.add (i * 2)) j) = some u) := by
      intro i
      by_cases hil : i < len
      · have him : i < m := by rw [hmm]; split <;> omega
        obtain ⟨cs', hc, ht'⟩ := hi i him
        rw [hce] at hc
        obtain ⟨_, hcl, hat⟩ := World.cells?_some hc
        obtain ⟨xs, n', _, _, hl2, hxl, hg⟩ := DataW.trod_array he ht'
        rw [hcei] at hg
        have g0 := hg 0 (by omega)
        have g1 := hg 1 (by omega)
        match cs', hcl with
        | [u0, u1], _ =>
          simp only [Nat.zero_mul, List.drop_zero, List.take_succ_cons, List.take_zero, Nat.one_mul, List.drop_succ_cons] at g0 g1
          rw [List.getElem?_eq_getElem (by omega)] at g0 g1
          obtain ⟨z0, e0, _, w0⟩ := DataW.trod_int hei g0
          obtain ⟨z1, e1, _, w1⟩ := DataW.trod_int hei g1
          obtain rfl : u0 = .int k z0 := by simpa using e0
          obtain rfl : u1 = .int k z1 := by simpa using e1
          have c0 := hat 0 (by omega)
          have c1 := hat 1 (by omega)
          refine ⟨(z0, z1), ⟨w0, w1⟩, fun _ => ⟨?_, ?_⟩⟩
          · have := World.block_lt_of_cell? _ _ c0
            rw [add_block, add_block] at this
            exact this
          · intro j u hj
            rw [← fieldOf_add, ← Go.Deep.add_add]
            match j with
            | 0 => simp only [encP, List.getElem?_cons_zero, Option.some.injEq] at hj; rw [← hj]; exact c0
            | 1 => simp only [encP, List.getElem?_cons_succ, List.getElem?_cons_zero, Option.some.injEq] at hj; rw [← hj]; exact c1
            | j + 2 => simp [encP] at hj
      · have z : (Lit.int k 0).wf = true := by cases k <;> decide
        exact ⟨(0, 0), ⟨z, z⟩, fun h => absurd h hil⟩
    refine ⟨some a, cap, (List.range len).map (fun i => (key i).choose), by simp, fun i x hx => ?_, fun x hx => ?_, by simp; omega⟩
    · have hil : i < len := by have := (List.getElem?_eq_some_iff.1 hx).1; simpa using this
      obtain rfl : (key i).choose = x := by simpa [hil] using hx
      obtain ⟨h1, h2⟩ := (key i).choose_spec.2 hil
      exact ⟨a, rfl, h1, h2⟩
    · obtain ⟨i, _, rfl⟩ := List.mem_map.1 hx
      exact (key i).choose_spec.1
end
theorem open_u8s {H : Type} {enc : TypeId × Value → H} {w : World} {base b0 : Nat} {spare : Nat → Bool} {held : Bool} {r : Reach} {v : Value} {d : DataW H} {p : List MemPlace} (hv : Value.okWide Try.prog w r b0 53 v) (h : DataW.Trod enc Try.prog w base spare held 53 v d p) :
    ∃ (oa : Option Addr) (cap : Nat) (l : List (Int × Int)), v = .slice oa l.length cap ∧ KAt (encP .u8) 2 w.heap.size oa l w ∧ (∀ x ∈ l, (Lit.int .u8 x.1).wf = true ∧ (Lit.int .u8 x.2).wf = true) ∧ l.length ≤ maxLen :=
  open_pairs Try.underlying53 Try.underlying60 Try.underlying5 (by kernel_rfl) (by kernel_rfl) hv h
theorem pr_at {k : IntKind} {B : Nat} {oa : Option Addr} {l : List (Int × Int)} {w : World} (h : KAt (encP k) 2 B oa l w) {i : Nat} {x : Int × Int} (hx : l[i]? = some x) :
    ∃ a, oa = some a ∧ a.block < B ∧ w.cell? (a.add (i * 2)) = some (.int k x.1) ∧ w.cell? ⟨(a.add (i * 2)).block, (a.add (i * 2)).off + 1, none⟩ = some (.int k x.2) := by
  obtain ⟨a, h1, h2, h3⟩ := h i x hx
  exact ⟨a, h1, h2, h3 0 _ rfl, h3 1 _ rfl⟩
end Go.Proofs.Ytaaecdijbkkoiaa.InoW

/- The walk of LiveEnds. -/
namespace Go.Proofs.Ytaaecdijbkkoiaa.LivW
set_option maxRecDepth 100000
open Go.RowKit LivP InoP InoW ExtW
def wl1 : List Ino := [root, ⟨2, 2, 0, 0, 0, []⟩]
theorem ke_make : makeI [root] 2 2 = 2 ∧ makeE [root] 2 2 = 0 ∧ makeN [root] 2 2 = 3 := by decide +kernel
theorem ke_link : linkE (makeL [root] 2 2) 2 1 = 0 ∧ linkL (makeL [root] 2 2) 2 1 = EL 0 [] := by decide +kernel
theorem ke_unlink (s : Int) (p : List Pt) : linkE (EL s p) 2 (-1) = 0 ∧ linkL (EL s p) 2 (-1) = [root] := ⟨rfl, rfl⟩
theorem u8_bd {x : Int} (h : (Lit.int .u8 x).wf = true) : 0 ≤ x ∧ x ≤ 255 := by simpa [Lit.wf, IntKind.min, IntKind.max, IntKind.signed, IntKind.bits] using h
/-- the array of the last writes -/
def Last (w : World) (ab : Nat) (F : Nat → Int) : Prop := ∃ cs t, w.heap[ab]? = some (.cells cs t (0, 0)) ∧ cs.size = 600 ∧ ∀ z, z < 600 → cs[z]? = some (.int .i64 (F z))
theorem Last.cell {w : World} {ab : Nat} {F : Nat → Int} (h : Last w ab F) {z : Nat} (hz : z < 600) : w.cell? ⟨ab, z, none⟩ = some (.int .i64 (F z)) := by
  obtain ⟨cs, t, h1, h2, h3⟩ := h
  unfold World.cell?
  rw [h1]
  exact h3 z hz
theorem Last.free {w : World} {ab : Nat} {F : Nat → Int} (h : Last w ab F) (z : Nat) : w.frozen? ⟨ab, z, none⟩ = false := by
  obtain ⟨cs, t, h1, _, _⟩ := h
  exact Lib.frozen_of_heap h1 z
theorem Last.grow {w w' : World} {ab : Nat} {F : Nat → Int} (h : Last w ab F) (k : Below w.heap.size w w') : Last w' ab F := by
  obtain ⟨cs, t, h1, h2, h3⟩ := h
  exact ⟨cs, t, (k.block ab (lt_of_block h1)).trans h1, h2, h3⟩
theorem Last.only {w w' : World} {ab b : Nat} {F : Nat → Int} (h : Last w ab F) (k : Only b w w') (hne : ab ≠ b) : Last w' ab F := by
  obtain ⟨cs, t, h1, h2, h3⟩ := h
  exact ⟨cs, t, k.heap h1 hne, h2, h3⟩
theorem Last.set {w : World} {ab : Nat} {F : Nat → Int} (h : Last w ab F) (y : Nat) (v : Int) : Last (w.setCell ⟨ab, y, none⟩ (.int .i64 v)) ab (fun z => if z = y then v else F z) := by
  obtain ⟨cs, t, h1, h2, h3⟩ := h
  refine ⟨cs.setIfInBounds y (.int .i64 v), t, Lib.heap_setCell_same h1 _, by simpa using h2, fun z hz => ?_⟩
  show _ = some (Value.int .i64 (if z = y then v else F z))
  rw [Array.getElem?_setIfInBounds]
  by_cases hy : z = y
  · subst hy
    rw [if_pos rfl, if_pos (by omega)]
    simp
  · rw [if_neg (fun e => hy e.symm), if_neg hy]
    exact h3 z hz
theorem Last.congr {w : World} {ab : Nat} {F G : Nat → Int} (h : Last w ab F) (k : ∀ z, F z = G z) : Last w ab G := by
  obtain ⟨cs, t, h1, h2, h3⟩ := h
  exact ⟨cs, t, h1, h2, fun z hz => by rw [← k]; exact h3 z hz⟩
/-- so far -/
structure Em (w W : World) (tb b ab : Nat) (s : Int) (p : List Pt) (F : Nat → Int) : Prop where
  t : TIsF w tb b (EL s p) 3 ab
  last : Last w ab F
  below : Below W.heap.size W w
variable {w w' W : World} {tb b ab : Nat} {s s' : Int} {p p' : List Pt} {F G : Nat → Int}
theorem Em.grow (h : Em w W tb b ab s p F) (k : Below w.heap.size w w') : Em w' W tb b ab s p F := ⟨h.t.grow k, h.last.grow k, bstep h.below k⟩
theorem Em.only (h : Em w W tb b ab s p F) (t : TIsF w' tb b (EL s' p') 3 ab) (ho : Only b w w') (hb : W.heap.size ≤ b) : Em w' W tb b ab s' p' F :=
  ⟨t, h.last.only ho h.t.ne.2.1, h.below.trans (ho.below hb h.below.size)⟩
theorem Em.set (h : Em w W tb b ab s p F) (hab : W.heap.size ≤ ab) (y : Nat) (v : Int) (hG : ∀ z, (if z = y then v else F z) = G z) : Em (w.setCell ⟨ab, y, none⟩ (.int .i64 v)) W tb b ab s p G :=
  ⟨h.t.only ((Only.refl ab w).setCell y _), (h.last.set y v).congr hG, h.below.setCell (p := ⟨ab, y, none⟩) hab _⟩
theorem Em.congr (h : Em w W tb b ab s p F) (k : ∀ z, F z = G z) : Em w W tb b ab s p G := ⟨h.t, h.last.congr k, h.below⟩
set_option maxHeartbeats 12800000 in
theorem ends_walk (oa : Option Addr) (cap : Nat) (l : List (Int × Int)) (hwf : ∀ x ∈ l, (Lit.int .u8 x.1).wf = true ∧ (Lit.int .u8 x.2).wf = true) (hlen : l.length ≤ maxLen) (cut : Int) (hcut : (Lit.int .u8 cut).wf = true) (W : World) (h : KAt (encP .u8) 2 W.heap.size oa l W) :
    Calls Try.prog 6 #[.slice oa l.length cap, .int .u8 cut] W fun e w' => e = .returned (.bool true) ∧ Below W.heap.size W w' := by
  have H := Lib.hid h
  have HL : Hid (∀ x ∈ l, (0 ≤ x.1 ∧ x.1 ≤ 255) ∧ (0 ≤ x.2 ∧ x.2 ≤ 255)) := Lib.hid fun x hx => ⟨u8_bd (hwf x hx).1, u8_bd (hwf x hx).2⟩
  have HC0 : Hid (0 ≤ cut ∧ cut ≤ 255) := Lib.hid (u8_bd hcut)
  have HI2 : Hid (iOk 2) := Lib.hid (iOk_of (by omega))
  have HLM := Lib.hid hlen
  obtain ⟨m1, m2, m3⟩ := ke_make
  obtain ⟨k1, k2⟩ := ke_link
  obtain ⟨D, hD⟩ : ∃ D, decide ((30 : Int) < (l.length : Int)) = D := ⟨_, rfl⟩
  clear h hwf hcut hlen
  cases D
  · have HL30 : Hid (l.length ≤ 30) := Lib.hid (by have := of_decide_eq_false hD; omega)
    go_enter Try.func6, Try.ntmps6
    go_wp2_with (first
      | (go_at_call 21; refine (link_any 2 1 HI2.out _ HT2.out).mono ?_; rintro e w3 ⟨rfl, ht3, ho3⟩; rw [k2] at ht3; rw [k1]; have HT3 := Lib.hid ht3; have HO3 := Lib.hid ho3; clear ht3 ho3)
      | (go_at_call 20; refine (make_any 2 _ HT1.out).mono ?_; rintro e w2 ⟨rfl, ht2, ho2⟩; rw [m3] at ht2; rw [m1, m2]; have HT2 := Lib.hid ht2; have HO2 := Lib.hid ho2; clear ht2 ho2)
      | (go_at_call 19; refine (new_any _).mono ?_; rintro e w1 ⟨rfl, ht1, hb1⟩; have HT1 := Lib.hid ht1; have HB1 := Lib.hid hb1; clear ht1 hb1))
    have HT4 := Lib.hid (HT3.out.far (.cells Try.zeroCells59 59))
    have HBA := Lib.hid (below_alloc w3 (.cells Try.zeroCells59 59))
    have HLA : Hid (Last (w3.alloc (.cells Try.zeroCells59 59)) w3.heap.size (fun _ => 0)) := Lib.hid ⟨_, _, heap_alloc_new w3 _, by kernel_rfl, fun z hz => by
      have e : Try.zeroCells59 = Array.replicate 600 (Value.int .i64 0) := by kernel_rfl
      rw [e, Array.getElem?_replicate, if_pos hz]⟩
    generalize w3.alloc (.cells Try.zeroCells59 59) = w4 at *
    have b1 := HB1.out
    have hlt := HT1.out.lt
    have b2 := b1.trans (HO2.out.below (by omega) (Nat.le_refl _) b1.size)
    have b3 := b2.trans (HO3.out.below (Nat.le_refl _) b2.size)
    have HZ : Hid (Em w4 W (W.heap.size + 1) W.heap.size w3.heap.size 0 [] (fun _ => 0)) := Lib.hid ⟨HT4.out, HLA.out, bstep b3 HBA.out⟩
    have HAB : Hid (W.heap.size ≤ w3.heap.size) := Lib.hid b3.size
    clear b1 b2 b3 hlt HB1 HT1 HT2 HT3 HO2 HO3 HT4 HBA HLA
    generalize W.heap.size + 1 = tb at *
    generalize w3.heap.size = ab at *
    obtain ⟨b, hbb⟩ : ∃ b, b = W.heap.size := ⟨_, rfl⟩
    have HBB : Hid (W.heap.size ≤ b) := Lib.hid (by omega)
    have HZ2 : Hid (Em w4 W tb b ab 0 [] (fun _ => 0)) := Lib.hid (by rw [hbb]; exact HZ.out)
    clear HZ hbb
    go_loopw [9] (fun i wr => ∃ (k : Nat) (s : Int) (p : List Pt) (F : Nat → Int), k ≤ l.length ∧ i = .int .i64 (k : Int) ∧ Em wr W tb b ab s p F ∧ En k p F) (fun i _ => (l.length - intOf i).toNat)
    case atStart => exact ⟨0, 0, [], _, by omega, rfl, HZ2.out, en_nil⟩
    case round =>
      obtain ⟨k, s, p, F, hk, rfl, hz, hen⟩ := hrel
      have HS := Lib.hid hz
      have HEN := Lib.hid hen
      clear hz hen
      have hl30 := HL30.out
      by_cases hlt : k < l.length
      · have hlt1 : (k : Int) < (l.length : Int) := by omega
        obtain ⟨x, hx⟩ : ∃ x, l[k]? = some x := ⟨_, List.getElem?_eq_getElem hlt⟩
        obtain ⟨x1, x2⟩ := x
        obtain ⟨a, rfl, hab, c0, c1⟩ := pr_at (H.out.below HS.out.below) hx
        simp only at c0 c1
        obtain ⟨⟨q1, q2⟩, q3, q4⟩ := HL.out _ (List.mem_of_getElem? hx)
        simp only at q1 q2 q3 q4
        obtain ⟨o, rfl⟩ : ∃ o : Nat, x1 = (o : Int) := ⟨x1.toNat, by omega⟩
        obtain ⟨n, hn⟩ : ∃ n : Nat, 1 + x2 = (n : Int) := ⟨(1 + x2).toNat, by omega⟩
        have HO : Hid (o ≤ 255 ∧ 1 ≤ n ∧ n ≤ 256) := Lib.hid (by omega)
        have e1 : IntKind.i64.wrap (o : Int) = (o : Int) := IntWalk.i64_in _ (by omega)
        have e2 : IntKind.i64.wrap x2 = x2 := IntWalk.i64_in _ (by omega)
        have e3 : IntKind.i64.wrap (1 + x2) = (n : Int) := by rw [hn]; exact IntWalk.i64_in _ (by omega)
        have HK : Hid (k < 30) := Lib.hid (by omega)
        have HWR := Lib.hid (en_write (s := s) HEN.out.good HEN.out.len HK.out (off := (o : Int)) (n := (n : Int)) (by have := HO.out; omega) (by have := HO.out; omega))
        have HE2 := Lib.hid (HEN.out.write HK.out (off := (o : Int)) (n := (n : Int)) (by have := HO.out; omega) (by have := HO.out; omega))
        have HMW : Hid (mayW (o : Int) (n : Int) = true) := Lib.hid (decide_eq_true (by have := HO.out; omega))
        have HFE : Hid (fileE (EL s p) 2 = 0) := Lib.hid rfl
        obtain ⟨s2, hs2⟩ : ∃ s2, max s ((o : Int) + n) = s2 := ⟨_, rfl⟩
        obtain ⟨p2, hp2⟩ : ∃ p2, putL p ⟨(o : Int), (n : Int), (k : Int), 0⟩ = p2 := ⟨_, rfl⟩
        rw [hs2, hp2] at HWR
        rw [hp2] at HE2
        have HW1 := Lib.hid HWR.out.1
        have HW2 := Lib.hid HWR.out.2.1
        clear hx q1 q2 q3 q4 hn hs2 hp2 HWR hab
        go_wp2_with fail
        refine held_below (by kernel_rfl) (by kernel_rfl) ?_
        repeat first
          | (refine held_skip ?_ ?_; (· first | rfl | (go_simp; done)); simp only [Act.put, List.setIfInBounds_toArray, List.set_cons_zero, List.set_cons_succ])
          | (refine held_val (v := ?_) ?_ ?_ ?_
             rotate_left
             · first | rfl | (go_simp; done)
             · intro wq hq
               have g0 := cell_step hq c0
               have g1 := cell_step hq c1
               go_simp
               with_reducible rfl
             simp only [Act.put, List.setIfInBounds_toArray, List.set_cons_zero, List.set_cons_succ])
        refine held_nil ?_
        intro w2 hb2
        have HS3 := Lib.hid (HS.out.grow hb2)
        clear hb2 c0 c1 e1 e2 e3
        go_wp2_with (first
          | (go_at_call 22; go_loud (refine (write_far 2 o n k HFE.out HMW.out HW1.out _ HS3.out.t).mono ?_; rintro e w5 ⟨rfl, h5, ho5⟩; rw [HW2.out] at h5; have HS5 := Lib.hid (HS3.out.only h5 ho5 HBB.out); clear h5 ho5)))
        have hwk : IntKind.i64.wrap ((k : Int) + 1) = (k : Int) + 1 := IntWalk.i64_in _ (by omega)
        have hwo : IntKind.i64.wrap ((o : Int) + (n : Int)) = (o : Int) + (n : Int) := IntWalk.i64_in _ (by have := HO.out; omega)
        go_loopw [12] (fun j wr2 => ∃ y : Nat, o ≤ y ∧ y ≤ o + n ∧ j = .int .i64 (y : Int) ∧ Em wr2 W tb b ab s2 p2 (fun z => if o ≤ z ∧ z < y then (k : Int) + 1 else F z)) (fun j _ => ((o : Int) + n - intOf j).toNat)
        case atStart => exact ⟨o, by omega, by omega, rfl, HS5.out.congr fun z => by rw [if_neg (by omega)]⟩
        case round =>
          obtain ⟨y, hy1, hy2, rfl, hz⟩ := hrel
          have HZ := Lib.hid hz
          clear hz
          have hy6 : y < 600 := by have := HO.out; omega
          by_cases hlty : y < o + n
          · have hly : (y : Int) < (o : Int) + (n : Int) := by omega
            have hlast := HZ.out.last.cell hy6
            have hfree := HZ.out.last.free y
            go_wp2_with fail
            refine ⟨⟨y + 1, by omega, by omega, by simp, HZ.out.set HAB.out y _ fun z => ?_⟩, by simp [intOf]; omega⟩
            by_cases hzy : z = y
            · subst hzy
              rw [if_pos rfl, if_pos ⟨by omega, by omega⟩]
            · rw [if_neg hzy]
              by_cases hzz : o ≤ z ∧ z < y
              · rw [if_pos hzz, if_pos ⟨hzz.1, by omega⟩]
              · rw [if_neg hzz, if_neg (by omega)]
          · obtain rfl : y = o + n := by omega
            have hly : ¬ (((o + n : Nat) : Int) < (o : Int) + (n : Int)) := by omega
            go_wp2_with fail
            refine ⟨⟨k + 1, s2, p2, _, by omega, by simp, HZ.out.congr (G := fun z => if (o : Int) ≤ (z : Int) ∧ (z : Int) < (o : Int) + (n : Int) then (k : Int) + 1 else F z) fun z => ?_, ?_⟩, by simp [intOf]; omega⟩
            · by_cases hzz : o ≤ z ∧ z < o + n
              · rw [if_pos hzz, if_pos (by omega)]
              · rw [if_neg hzz, if_neg (by omega)]
            · exact HE2.out
      · obtain rfl : k = l.length := by omega
        obtain ⟨hc1, hc2⟩ := HC0.out
        obtain ⟨c, rfl⟩ : ∃ c : Nat, cut = (c : Int) := ⟨cut.toNat, by omega⟩
        have hwc : IntKind.i64.wrap (c : Int) = (c : Int) := IntWalk.i64_in _ (by omega)
        have HCL : Hid (c ≤ 255) := Lib.hid (by omega)
        have HCU := Lib.hid (en_cut (s := s) HEN.out.good (c := (c : Int)) (by omega))
        obtain ⟨p2, hp2⟩ : ∃ p2, cutL p (c : Int) = p2 := ⟨_, rfl⟩
        have HLAW : Hid (∀ i : Nat, (lk (partsU [] p2) i).getD 0 = wantN F i c) := Lib.hid fun i => by rw [← hp2]; exact HEN.out.law HCL.out i
        rw [hp2] at HCU
        have HU : Hid (allU (EL (c : Int) p2) = partsU [] p2) := Lib.hid (el_all _ _)
        have HTI := Lib.hid HS.out.t.ti
        clear hp2 hc1 hc2 HC0
        go_wp2_with (first
          | (go_at_call 9; go_loud (refine (addrs_any _ HT6.out).mono ?_; rintro e w7 ⟨v7, rfl, hr7, hb7⟩; obtain ⟨o7, k7, rfl, _⟩ := hr7.form; rw [HU.out] at hr7 ⊢; have HR7 := Lib.hid hr7; have HT7 := Lib.hid (HT6.out.grow hb7); have HB7 := Lib.hid (bstep HB6.out hb7); have HA7 := Lib.hid (HA6.out.grow hb7); clear hr7 hb7))
          | (go_at_call 23; go_loud (refine (trunc_any 2 c HI2.out _ HTI.out).mono ?_; rintro e w6 ⟨rfl, h6, ho6⟩; rw [HCU.out.1]; rw [HCU.out.2.1] at h6; have HT6 := Lib.hid h6; have HB6 := Lib.hid (HS.out.below.trans (ho6.below HBB.out HS.out.below.size)); have HA6 := Lib.hid (HS.out.last.only ho6 HS.out.t.ne.2.1); clear h6 ho6)))
        have HOKU : Hid (Okay (partsU [] p2) (64 * 2)) := Lib.hid (by rw [← HU.out]; exact okay_all _ fun x hx => HT7.out.good.all x hx)
        generalize partsU [] p2 = U at *
        have hul := HOKU.out.len
        go_loopw [15] (fun i wr => wr = w7 ∧ ∃ k : Nat, k ≤ l.length ∧ i = .int .i64 (k : Int)) (fun i _ => (l.length - intOf i).toNat)
        case atStart => exact ⟨rfl, 0, by omega, rfl⟩
        case round =>
          obtain ⟨rfl, k, hk2, rfl⟩ := hrel
          by_cases hltk : k < l.length
          · have hlt1 : (k : Int) < (l.length : Int) := by omega
            have hwk : IntKind.i64.wrap ((k : Int) + 1) = (k : Int) + 1 := IntWalk.i64_in _ (by omega)
            go_wp2_with fail
            go_loopw [16, 18] (fun g j wr2 => wr2 = wr ∧ ∃ j0 : Nat, j0 ≤ c ∧ j = .int .i64 (j0 : Int) ∧ g = .int .i64 (wantN F k j0)) (fun _ j _ => ((c : Int) - intOf j).toNat)
            case atStart => exact ⟨rfl, 0, by omega, rfl, rfl⟩
            case round =>
              obtain ⟨rfl, j, hj, rfl, rfl⟩ := hrel
              by_cases hjc : j < c
              · have hj1 : (j : Int) < (c : Int) := by omega
                have hj2 : j < 600 := by have := HCL.out; omega
                have hlast := HA7.out.cell hj2
                have HWN : Hid (wantN F k (j + 1) = wantN F k j + if F j = k + 1 then 1 else 0) := Lib.hid rfl
                have hbd := wantN_bd F k j
                have hc5 := HCL.out
                have hw1 : IntKind.i64.wrap (wantN F k j + 1) = wantN F k j + 1 := IntWalk.i64_in _ (by omega)
                generalize wantN F k j = T at *
                by_cases hf : F j = (k : Int) + 1
                · rw [if_pos hf] at HWN
                  rw [hf] at hlast
                  clear hf hbd hc5
                  go_wp2_with fail
                  exact ⟨⟨trivial, j + 1, by omega, by simp, by rw [HWN.out]⟩, by simp [intOf]; omega⟩
                · rw [if_neg hf] at HWN
                  have hfb : (F j == (k : Int) + 1) = false := beq_eq_false_iff_ne.2 hf
                  generalize F j = f at *
                  clear hf hbd hc5
                  go_wp2_with fail
                  exact ⟨⟨trivial, j + 1, by omega, by simp, by rw [HWN.out, Int.add_zero]⟩, by simp [intOf]; omega⟩
              · obtain rfl : j = c := by omega
                have hj1 : ¬ ((j : Int) < (j : Int)) := by omega
                have HLK := Lib.hid (HLAW.out k)
                obtain ⟨N, hN⟩ : ∃ N, wantN F k j = N := ⟨_, rfl⟩
                rw [hN] at HLK ⊢
                clear hN
                go_wp2_with fail
                go_loopw [17, 19] (fun g y wr3 => wr3 = wr ∧ ∃ m : Nat, m ≤ U.length ∧ y = .int .i64 (m : Int) ∧ g = .int .i64 ((lk (U.take m) k).getD 0)) (fun _ y _ => (U.length - intOf y).toNat)
                case atStart => exact ⟨rfl, 0, by omega, rfl, rfl⟩
                case round =>
                  obtain ⟨rfl, m, hm, rfl, rfl⟩ := hrel
                  by_cases hmu : m < U.length
                  · have hm1 : (m : Int) < (U.length : Int) := by omega
                    obtain ⟨u, hu⟩ : ∃ u, U[m]? = some u := ⟨_, List.getElem?_eq_getElem hmu⟩
                    obtain ⟨a, rfl, _, hcc⟩ := RowK.pts us_len (by omega) HR7.out m u hu
                    have c0 := hcc 0 _ rfl
                    have c1 := hcc 1 _ rfl
                    simp only [fieldOf, Nat.zero_add] at c0 c1
                    have HTK := Lib.hid (lk_take HOKU.out.rises hu k)
                    clear hcc
                    generalize (lk (U.take m) (k : Int)).getD 0 = T at *
                    by_cases hf : u.a = (k : Int)
                    · rw [if_pos hf] at HTK
                      rw [hf] at c0
                      clear hf hu
                      go_wp2_with fail
                      exact ⟨⟨trivial, m + 1, by omega, by simp, by rw [HTK.out]⟩, by simp [intOf]; omega⟩
                    · rw [if_neg hf] at HTK
                      have hfb : (u.a == (k : Int)) = false := beq_eq_false_iff_ne.2 hf
                      clear hf hu
                      go_wp2_with fail
                      exact ⟨⟨trivial, m + 1, by omega, by simp, by rw [HTK.out]⟩, by simp [intOf]; omega⟩
                  · obtain rfl : m = U.length := by omega
                    have hm1 : ¬ ((U.length : Int) < (U.length : Int)) := by omega
                    rw [List.take_length, HLK.out]
                    go_wp2_with fail
                    exact ⟨⟨trivial, k + 1, by omega, by simp⟩, by simp [intOf]; omega⟩
          · obtain rfl : k = l.length := by omega
            obtain ⟨u1, u2⟩ := ke_unlink (c : Int) p2
            go_wp2_with (first
              | (go_at_call 8; refine (wakes_any _).mono ?_; rintro e w11 ⟨rfl, hb11⟩; have HB11 := Lib.hid (bstep HB10.out hb11); clear hb11)
              | (go_at_call 11; go_loud (refine (oldest_any _ [] 77 _ (addrs_any _ HT9.out)).mono ?_; rintro e w10 ⟨rfl, hb10⟩; have HB10 := Lib.hid (bstep HB9.out hb10); clear hb10))
              | (go_at_call 9; go_loud (refine (addrs_any _ HT8.out).mono ?_; rintro e w9 ⟨v9, rfl, hr9, hb9⟩; obtain ⟨o9, k9, rfl, _⟩ := hr9.form; have HT9 := Lib.hid (HT8.out.grow hb9); have HB9 := Lib.hid (bstep HB8.out hb9); clear hr9 hb9))
              | (go_at_call 21; go_loud (refine (link_any 2 (-1) HI2.out _ HT7.out).mono ?_; rintro e w8 ⟨rfl, ht8, ho8⟩; rw [u2] at ht8; rw [u1]; have HT8 := Lib.hid ht8; have HB8 := Lib.hid (HB7.out.trans (ho8.below HBB.out HB7.out.size)); clear ht8 ho8)))
            go_ret
            exact ⟨rfl, HB11.out⟩
  · clear HL
    go_enter Try.func6, Try.ntmps6
    go_wp2_with (first
      | (go_at_call 8; refine (wakes_any _).mono ?_; rintro e w4 ⟨rfl, hb4⟩; have HB4 := Lib.hid hb4; clear hb4)
      | (go_at_call 21; refine (link_any 2 1 HI2.out _ HT2.out).mono ?_; rintro e w3 ⟨rfl, ht3, ho3⟩; rw [k1]; have HO3 := Lib.hid ho3; clear ht3 ho3)
      | (go_at_call 20; refine (make_any 2 _ HT1.out).mono ?_; rintro e w2 ⟨rfl, ht2, ho2⟩; rw [m3] at ht2; rw [m1, m2]; have HT2 := Lib.hid ht2; have HO2 := Lib.hid ho2; clear ht2 ho2)
      | (go_at_call 19; refine (new_any _).mono ?_; rintro e w1 ⟨rfl, ht1, hb1⟩; have HT1 := Lib.hid ht1; have HB1 := Lib.hid hb1; clear ht1 hb1))
    go_ret
    have b1 := HB1.out
    have hlt := HT1.out.lt
    have b2 := b1.trans (HO2.out.below (by omega) (Nat.le_refl _) b1.size)
    have b3 := b2.trans (HO3.out.below (Nat.le_refl _) b2.size)
    exact ⟨rfl, b3.trans (HB4.out.mono b3.size)⟩
end Go.Proofs.Ytaaecdijbkkoiaa.LivW
