/- live.Segments, live.Oldest, live.Safe. -/
import Derived.Test.YtaaecdijbkkoiaaLivAddrs
namespace Go.Proofs.Ytaaecdijbkkoiaa.LivP
theorem addU_fitsK {L : List U} (h : Rises L) {m K : Int} (hf : Fits L m) (hm : 0 ≤ m) {a n : Int} (hn : 0 ≤ n ∧ n ≤ K) : Fits (addU L a n) (m + K) := by
  have hb := fits_lk h hf hm a
  unfold addU
  intro u hu
  cases hk : lk L a with
  | some v =>
    rw [hk] at hu hb
    simp only [List.mem_map, Option.getD_some] at hu hb
    obtain ⟨x, hx, e⟩ := hu
    have := hf x hx
    split at e
    · rw [← e]; simp only; omega
    · rw [← e]; omega
  | none =>
    rw [hk] at hu
    rcases (Sl.mem_ins L ⟨a, n⟩ u).1 hu with rfl | hu
    · simp only; omega
    · have := hf u hu; omega
theorem addU_key {L : List U} {a n : Int} {u : U} (hu : u ∈ addU L a n) : u.a = a ∨ ∃ v ∈ L, v.a = u.a := by
  unfold addU at hu
  cases hk : lk L a with
  | some v =>
    rw [hk] at hu
    simp only [List.mem_map] at hu
    obtain ⟨x, hx, e⟩ := hu
    split at e
    · exact .inl (by rw [← e])
    · exact .inr ⟨x, hx, by rw [← e]⟩
  | none =>
    rw [hk] at hu
    rcases (Sl.mem_ins L ⟨a, n⟩ u).1 hu with rfl | hu
    · exact .inl rfl
    · exact .inr ⟨u, hu, rfl⟩
/-- what Addrs may come to -/
structure Fine (A : List U) : Prop where
  rises : Rises A
  fits : Fits A 4194304
  len : A.length ≤ 4096
  keys : ∀ u ∈ A, 0 ≤ u.a ∧ u.a < 16384
theorem fine_nil : Fine [] := ⟨List.Pairwise.nil, fun u h => by simp at h, by simp, fun u h => by simp at h⟩
def segF (size : Int) (A : List U) : List U := A.foldl (fun M u => addU M (Int.tdiv u.a size) u.n) []
def segL (size : Int) (A : List U) : List U := if size < 1 then [] else segF size A
theorem segF_snoc (size : Int) (A : List U) (u : U) : segF size (A ++ [u]) = addU (segF size A) (Int.tdiv u.a size) u.n := by unfold segF; simp
structure Okay2 (L : List U) (c : Nat) : Prop where
  rises : Rises L
  fits : Fits L (4194304 * c)
  len : L.length ≤ c
theorem Okay2.add {L : List U} {c : Nat} (h : Okay2 L c) {a n : Int} (hn : 0 ≤ n ∧ n ≤ 4194304) : Okay2 (addU L a n) (c + 1) :=
  ⟨addU_rises h.rises a n, by have := addU_fitsK h.rises h.fits (by omega) (a := a) hn; rw [show (4194304 : Int) * (c : Nat) + 4194304 = 4194304 * ((c + 1 : Nat) : Int) by omega] at this; exact this, by have := addU_len L a n; have := h.len; omega⟩
theorem okay2_from (size : Int) : ∀ (A : List U), (∀ u ∈ A, 0 ≤ u.n ∧ u.n ≤ 4194304) → ∀ {L : List U} {c : Nat}, Okay2 L c → Okay2 (A.foldl (fun M u => addU M (Int.tdiv u.a size) u.n) L) (c + A.length)
  | [], _, _, _, h => h
  | x :: xs, hx, _, c, h => by
    have := okay2_from size xs (fun y hy => hx y (by simp [hy])) (h.add (a := Int.tdiv x.a size) (hx x (by simp)))
    rw [List.foldl_cons, List.length_cons, Nat.add_comm xs.length 1, ← Nat.add_assoc]
    exact this
theorem okay2_seg (size : Int) (A : List U) (h : ∀ u ∈ A, 0 ≤ u.n ∧ u.n ≤ 4194304) : Okay2 (segF size A) A.length := by
  have := okay2_from size A h (L := []) (c := 0) ⟨List.Pairwise.nil, fun u h => by simp at h, by simp⟩
  rwa [Nat.zero_add] at this
def oldE (A : List U) (next : Int) : Int := match A with | [] => next | u :: _ => min u.a next
def safeE (i o : Int) : Int := max (min i o) 0
end Go.Proofs.Ytaaecdijbkkoiaa.LivP
namespace Go.Proofs.Ytaaecdijbkkoiaa.LivW
set_option maxRecDepth 100000
open Go.RowKit LivP InoP InoW ExtW
theorem keys_parts {L : List U} (h : ∀ u ∈ L, 0 ≤ u.a ∧ u.a < 16384) : ∀ (l : List Pt), (∀ x ∈ l, One x) → ∀ u ∈ partsU L l, 0 ≤ u.a ∧ u.a < 16384 := by
  intro l
  induction l generalizing L with
  | nil => intro _; exact h
  | cons x l ih =>
    intro hx
    refine ih (L := addU L x.a x.n) (fun u hu => ?_) (fun y hy => hx y (by simp [hy]))
    rcases addU_key hu with e | ⟨v, hv, e⟩
    · have := (hx x (by simp)).small; omega
    · have := h v hv; omega
theorem keys_from : ∀ (xs : List Ino), (∀ x ∈ xs, IGood x) → ∀ {L : List U}, (∀ u ∈ L, 0 ≤ u.a ∧ u.a < 16384) → ∀ u ∈ xs.foldl (fun L x => partsU L x.p) L, 0 ≤ u.a ∧ u.a < 16384
  | [], _, _, h => h
  | x :: xs, hx, _, h => keys_from xs (fun y hy => hx y (by simp [hy])) (keys_parts h x.p (chain_ones (hx x (by simp)).p.2))
theorem fine_all {L : List Ino} {next : Int} (h : TGood L next) : Fine (allU L) := by
  have h1 := okay_all L h.all
  have h2 := h.len
  exact ⟨h1.rises, fun u hu => by have := h1.fits u hu; omega, by have := h1.len; omega, keys_from L h.all (fun u hu => by simp at hu)⟩
/-- a use, boxed -/
def UBox (w : World) (b : Nat) (u : U) : Prop := w.heap[b]? = some (.cells #[.int .i64 u.a, .int .i64 u.n] 40 (0, 0))
theorem UBox.made (w : World) (u : U) : UBox (w.alloc (.cells #[.int .i64 u.a, .int .i64 u.n] 40)) w.heap.size u := heap_alloc_new w _
theorem UBox.cells {w : World} {b : Nat} {u : U} (h : UBox w b u) : w.cell? ⟨b, 0, none⟩ = some (.int .i64 u.a) ∧ w.cell? ⟨b, 1, none⟩ = some (.int .i64 u.n) :=
  ⟨(Lib.cell_of_heap h 0).trans rfl, (Lib.cell_of_heap h 1).trans rfl⟩
set_option maxHeartbeats 400000 in
theorem safe_any (i o : Int) (w : World) : Calls Try.prog 12 #[.int .i64 i, .int .i64 o] w fun e w' => e = .returned (.int .i64 (safeE i o)) ∧ w = w' := by
  go_enter Try.func12, Try.ntmps12
  go_wp2_with fail
  go_ret
  exact ⟨rfl, rfl⟩
set_option maxHeartbeats 6400000 in
theorem segs_any (p : Value) (A : List U) (hA : Fine A) (size : Int) (w : World) (HA : ∀ W, Below w.heap.size w W → Calls Try.prog 9 #[p] W fun e w' => ∃ v, e = .returned v ∧ RowK 40 encU 2 W.heap.size w' v A ∧ Below W.heap.size W w') :
    Calls Try.prog 10 #[p, .int .i64 size] w fun e w' => ∃ v, e = .returned v ∧ RowK 40 encU 2 w.heap.size w' v (segL size A) ∧ Below w.heap.size w w' := by
  have HAA := Lib.hid HA
  have HF := Lib.hid hA
  have hmk := @run_makeMap Try.prog
  clear HA hA
  by_cases hs : size < 1
  · have HE : Hid (segL size A = []) := Lib.hid (if_pos hs)
    go_enter Try.func10, Try.ntmps10
    go_wp2_with fail
    go_ret
    exact ⟨_, rfl, by rw [HE.out]; exact RowK.nil _ _, Below.refl _ _⟩
  have HE : Hid (segL size A = segF size A) := Lib.hid (if_neg hs)
  have HSZ : Hid (1 ≤ size) := Lib.hid (by omega)
  go_enter Try.func10, Try.ntmps10
  go_wp2_with (go_at_call 9; refine (HAA.out _ (below_alloc w (.map #[] 0))).mono ?_; rintro e w1 ⟨v, rfl, hr1, hb1⟩; obtain ⟨oa, cap, rfl, hc, hc2, hnone⟩ := hr1.form; have HROW := Lib.hid hr1; have HNIL := Lib.hid hnone; have HB1 := Lib.hid hb1; clear hr1 hnone hb1 hc hc2)
  obtain ⟨mb, hmb⟩ : ∃ mb, mb = w.heap.size := ⟨_, rfl⟩
  rw [← hmb]
  have HMB := Lib.hid hmb
  have HBW : Hid (Below w.heap.size w w1) := Lib.hid ((below_alloc w _).trans (HB1.out.mono (by simp)))
  have HM0 : Hid (KyIs w1 mb 0 (lk [])) := Lib.hid (by rw [HMB.out]; exact MapIs.keep (MapIs.made w) HB1.out)
  have HRB : Hid (w.heap.size + 1 ≤ (w.alloc (.map #[] 0)).heap.size) := Lib.hid (by simp)
  clear hmb HB1 hs
  go_loopw [14] (fun i wr => ∃ k : Nat, k ≤ A.length ∧ i = .int .i64 (k : Int) ∧ KyIs wr mb k (lk (segF size (A.take k))) ∧ Only mb w1 wr) (fun i _ => (A.length - intOf i).toNat)
  case atStart => exact ⟨0, by omega, rfl, HM0.out, Only.refl _ _⟩
  case round =>
    obtain ⟨k, hk, rfl, hm, ho⟩ := hrel
    have HM := Lib.hid hm
    have HO := Lib.hid ho
    clear hm ho
    have hll := HF.out.len
    by_cases hlt : k < A.length
    · obtain ⟨y, hy⟩ : ∃ y, A[k]? = some y := ⟨_, List.getElem?_eq_getElem hlt⟩
      have hym : y ∈ A := List.mem_of_getElem? hy
      have HTM : Hid (segF size (A.take (k + 1)) = addU (segF size (A.take k)) (Int.tdiv y.a size) y.n) := Lib.hid (by rw [List.take_add_one, hy]; exact segF_snoc _ _ _)
      have HAM : Hid (Okay2 (segF size (A.take k)) k) := Lib.hid (by
        have := okay2_seg size (A.take k) (fun u hu => HF.out.fits u (List.mem_of_mem_take hu))
        rwa [List.length_take, Nat.min_eq_left hk] at this)
      have HRQ := Lib.hid (HO.out.keepRow HROW.out (fun e => by have := (World.ownsRow.lt HROW.out) _ e; have := HRB.out; have := HMB.out; omega))
      obtain ⟨a3, rfl, hab3, hcc⟩ := (RowK.pts us_len (by omega) HRQ.out) k y hy
      have c0 := hcc 0 _ rfl
      have c1 := hcc 1 _ rfl
      simp only [fieldOf, Nat.zero_add] at c0 c1
      have hyk := HF.out.keys y hym
      have hyn := HF.out.fits y hym
      have hq : 0 ≤ Int.tdiv y.a size ∧ Int.tdiv y.a size < 16384 := ⟨Int.tdiv_nonneg hyk.1 (by have := HSZ.out; omega), Int.lt_of_le_of_lt (Int.tdiv_le_self _ hyk.1) hyk.2⟩
      obtain ⟨q, hqe⟩ : ∃ q, Int.tdiv y.a size = q := ⟨_, rfl⟩
      rw [hqe] at hq HTM
      have HWQ : Hid (IntKind.i64.wrap (Int.tdiv y.a size) = q) := Lib.hid (by rw [hqe]; exact IntWalk.i64_in _ (by omega))
      have HS0' : Hid (¬ size = 0) := Lib.hid (by have := HSZ.out; omega)
      have HWX' : Hid (IntKind.i64.wrap ((lk (segF size (A.take k)) q).getD 0 + y.n) = (lk (segF size (A.take k)) q).getD 0 + y.n) := Lib.hid (by
        have := fits_lk HAM.out.rises HAM.out.fits (by omega) q
        exact IntWalk.i64_in _ (by omega))
      generalize segF size (A.take k) = C at *
      clear hy hym hab3 hcc hqe hyk
      go_wp2_with fail
      have HBX := Lib.hid (UBox.made wr y)
      have HMB2 := Lib.hid (MapIs.alloc HM.out (.cells #[.int .i64 y.a, .int .i64 y.n] 40))
      have HOB := Lib.hid (Only.of_below (b := mb) (below_alloc wr (.cells #[.int .i64 y.a, .int .i64 y.n] 40)))
      have HXM : Hid (wr.heap.size ≠ mb) := Lib.hid (by have := MapIs.lt HM.out; omega)
      generalize wr.alloc (.cells #[.int .i64 y.a, .int .i64 y.n] 40) = w5 at *
      generalize wr.heap.size = xb at *
      have HS0 : Hid (UBox w5.drew xb y) := Lib.hid HBX.out
      have hok : kyOk q := kyOk_of (by omega)
      obtain ⟨st, w6, hrun6, hm6, ho6, hs6, hst⟩ := MapIs.entry (MapIs.drew HMB2.out) kyMK kyLaw Try.underlying69 0 inZero (by unfold maxLen; omega) q hok
      obtain ⟨w7, hrun7, hm7, ho7, hs7⟩ := hst w6 ((lk C q).getD 0 + y.n) rfl
      have hlk5 := MapIs.look (MapIs.drew HMB2.out) kyMK Try.underlying69 (inZero w5.drew) q hok false
      have hlk6 := MapIs.look hm6 kyMK Try.underlying69 (inZero w6) q hok false
      rw [if_neg (by simp)] at hlk5 hlk6
      have hv6 : ((if q = q then some ((lk C q).getD 0) else lk C q).map inV).getD (inV 0) = .int .i64 ((lk C q).getD 0) := by rw [if_pos rfl]; rfl
      have hv5 : ((lk C q).map inV).getD (inV 0) = .int .i64 ((lk C q).getD 0) := by cases lk C q <;> rfl
      rw [hv6] at hlk6
      rw [hv5] at hlk5
      have HBX6 : Hid (UBox w6 xb y) := Lib.hid (ho6.heap HS0.out HXM.out)
      have hm7' : KyIs w7 mb (k + 1) (lk (addU C q y.n)) := by rw [lk_add HAM.out.rises]; exact MapIs.mono (MapIs.congr hm7 (by funext z; split <;> rfl)) (by omega)
      have HM7 := Lib.hid hm7'
      have HO7 : Hid (Only mb w5.drew w7) := Lib.hid (ho6.trans ho7)
      have HE6 := Lib.hid hrun6
      have HE7 := Lib.hid hrun7
      have HL5 := Lib.hid hlk5
      have HL6 := Lib.hid hlk6
      clear hrun6 hrun7 hlk5 hlk6 hm7 hm7' hv5 hv6 hst hm6 ho6 hs6 ho7 hs7 hok
      generalize (lk C q).getD 0 = v0 at *
      refine regionL 12 13 (fun w' => UBox w' xb y) (by kernel_rfl) rfl ?_
      refine takeL 0 (some 18) (v := ?_) rfl (by kernel_rfl) (by kernel_rfl) (by kernel_rfl) (by kernel_rfl) (fun _ _ _ h => h) rfl rfl HS0.out ?_ ?_
      rotate_left
      · intro wq hq
        obtain ⟨g0, g1⟩ := UBox.cells hq
        have g2 := HWQ.out
        have g3 := HS0'.out
        go_simp
        with_reducible rfl
      simp only [Act.put, List.setIfInBounds_toArray, List.set_cons_zero, List.set_cons_succ]
      refine takeL 1 (some 19) (v := ?_) rfl (by kernel_rfl) (by kernel_rfl) (by kernel_rfl) (by kernel_rfl) (fun _ _ _ h => h) rfl rfl HS0.out ?_ ?_
      rotate_left
      · intro wq hq
        obtain ⟨g0, g1⟩ := UBox.cells hq
        have g2 := HWQ.out
        have g3 := HS0'.out
        go_simp
        with_reducible rfl
      simp only [Act.put, List.setIfInBounds_toArray, List.set_cons_zero, List.set_cons_succ]
      refine takeL 2 (some 20) (v := ?_) rfl (by kernel_rfl) (by kernel_rfl) (by kernel_rfl) (by kernel_rfl) (fun _ _ _ h => h) rfl rfl HS0.out ?_ ?_
      rotate_left
      · intro wq hq
        obtain ⟨g0, g1⟩ := UBox.cells hq
        have g2 := HWQ.out
        have g3 := HS0'.out
        go_simp
        with_reducible rfl
      simp only [Act.put, List.setIfInBounds_toArray, List.set_cons_zero, List.set_cons_succ]
      refine takeL 3 (some 21) (v := ?_) rfl (by kernel_rfl) (by kernel_rfl) (by kernel_rfl) (by kernel_rfl) (fun _ _ _ h => h) rfl rfl HS0.out ?_ ?_
      rotate_left
      · intro wq hq
        obtain ⟨g0, g1⟩ := UBox.cells hq
        have g2 := HWQ.out
        have g3 := HS0'.out
        go_simp
        with_reducible rfl
      simp only [Act.put, List.setIfInBounds_toArray, List.set_cons_zero, List.set_cons_succ]
      refine takeL 4 (some 22) (v := ?_) rfl (by kernel_rfl) (by kernel_rfl) (by kernel_rfl) (by kernel_rfl) (fun _ _ _ h => h) rfl rfl HS0.out ?_ ?_
      rotate_left
      · intro wq hq
        obtain ⟨g0, g1⟩ := UBox.cells hq
        have g2 := HWQ.out
        have g3 := HS0'.out
        go_simp
        with_reducible rfl
      simp only [Act.put, List.setIfInBounds_toArray, List.set_cons_zero, List.set_cons_succ]
      refine takeL 5 (some 23) (v := ?_) rfl (by kernel_rfl) (by kernel_rfl) (by kernel_rfl) (by kernel_rfl) (fun _ _ _ h => h) rfl rfl HS0.out ?_ ?_
      rotate_left
      · intro wq hq
        obtain ⟨g0, g1⟩ := UBox.cells hq
        have g2 := HWQ.out
        have g3 := HS0'.out
        go_simp
        with_reducible rfl
      simp only [Act.put, List.setIfInBounds_toArray, List.set_cons_zero, List.set_cons_succ]
      refine takeL 7 (some 25) (v := ?_) rfl (by kernel_rfl) (by kernel_rfl) (by kernel_rfl) (by kernel_rfl) (fun _ _ _ h => h) rfl rfl HS0.out ?_ ?_
      rotate_left
      · intro wq hq
        obtain ⟨g0, g1⟩ := UBox.cells hq
        have g2 := HWQ.out
        have g3 := HS0'.out
        go_simp
        with_reducible rfl
      simp only [Act.put, List.setIfInBounds_toArray, List.set_cons_zero, List.set_cons_succ]
      refine takeL 8 (some 26) (v := ?_) rfl (by kernel_rfl) (by kernel_rfl) (by kernel_rfl) (by kernel_rfl) (fun _ _ _ h => h) rfl rfl HS0.out ?_ ?_
      rotate_left
      · intro wq hq
        obtain ⟨g0, g1⟩ := UBox.cells hq
        have g2 := HWQ.out
        have g3 := HS0'.out
        go_simp
        with_reducible rfl
      simp only [Act.put, List.setIfInBounds_toArray, List.set_cons_zero, List.set_cons_succ]
      refine twoL 6 10 (by kernel_rfl) rfl rfl rfl rfl (wp_runs (some 24) (v := .int .i64 v0) (w' := w5.drew) rfl (by have h5 := HL5.out; unfold kyV at h5; go_simp) ⟨fun _ => HS0.out, ?_⟩) (wp_runs (some 28) (v := .tuple #[.int .i64 v0, goInt st]) (w' := w6) rfl (by have h5 := HE6.out; unfold kyV at h5; go_simp; rfl) ⟨fun _ => HBX6.out, ?_⟩)
      · simp only [Act.put, List.setIfInBounds_toArray, List.set_cons_zero, List.set_cons_succ]
        refine takeL 9 (some 27) (v := ?_) rfl (by kernel_rfl) (by kernel_rfl) (by kernel_rfl) (by kernel_rfl) (fun _ _ _ h => h) rfl rfl HS0.out ?_ ?_
        rotate_left
        · intro wq hq
          have g0 := HWX'.out
          go_simp
          with_reducible rfl
        simp only [Act.put, List.setIfInBounds_toArray, List.set_cons_zero, List.set_cons_succ]
        refine oneL 10 (by kernel_rfl) rfl rfl (wp_runs (some 28) (v := .tuple #[.int .i64 v0, goInt st]) (w' := w6) rfl (by have h5 := HE6.out; unfold kyV at h5; go_simp; rfl) ⟨fun _ => HBX6.out, ?_⟩)
        simp only [Act.put, List.setIfInBounds_toArray, List.set_cons_zero, List.set_cons_succ]
        refine takeL 11 (some 29) (v := ?_) rfl (by kernel_rfl) (by kernel_rfl) (by kernel_rfl) (by kernel_rfl) (fun _ _ _ h => h) rfl rfl HBX6.out ?_ ?_
        rotate_left
        · intro wq hq
          have g0 := hq
          go_simp
          with_reducible rfl
        simp only [Act.put, List.setIfInBounds_toArray, List.set_cons_zero, List.set_cons_succ]
        refine oneL 12 (by kernel_rfl) rfl rfl (wp_skips none (w' := w7) rfl ?_ ⟨fun e => absurd rfl e, ?_⟩)
        · have h5 : (Instr.entryStore 69 (.map (some mb)) (.int .i64 (st : Int)) (.int .i64 (v0 + y.n))).run Try.prog w6 = .ok () w7 := HE7.out
          go_simp
        refine doneL (by kernel_rfl) ?_
        go_wp2_with fail
        exact ⟨⟨k + 1, by omega, by simp, by rw [HTM.out]; exact HM7.out, HO.out.trans (HOB.out.drew.trans HO7.out)⟩, by simp [intOf]; omega⟩
      · simp only [Act.put, List.setIfInBounds_toArray, List.set_cons_zero, List.set_cons_succ]
        refine takeL 11 (some 29) (v := ?_) rfl (by kernel_rfl) (by kernel_rfl) (by kernel_rfl) (by kernel_rfl) (fun _ _ _ h => h) rfl rfl HBX6.out ?_ ?_
        rotate_left
        · intro wq hq
          have g0 := hq
          go_simp
          with_reducible rfl
        simp only [Act.put, List.setIfInBounds_toArray, List.set_cons_zero, List.set_cons_succ]
        refine oneL 6 (by kernel_rfl) rfl rfl (wp_runs (some 24) (v := .int .i64 v0) (w' := w6) rfl (by have h5 := HL6.out; unfold kyV at h5; go_simp) ⟨fun _ => HBX6.out, ?_⟩)
        simp only [Act.put, List.setIfInBounds_toArray, List.set_cons_zero, List.set_cons_succ]
        refine takeL 9 (some 27) (v := ?_) rfl (by kernel_rfl) (by kernel_rfl) (by kernel_rfl) (by kernel_rfl) (fun _ _ _ h => h) rfl rfl HBX6.out ?_ ?_
        rotate_left
        · intro wq hq
          have g0 := HWX'.out
          go_simp
          with_reducible rfl
        simp only [Act.put, List.setIfInBounds_toArray, List.set_cons_zero, List.set_cons_succ]
        refine oneL 12 (by kernel_rfl) rfl rfl (wp_skips none (w' := w7) rfl ?_ ⟨fun e => absurd rfl e, ?_⟩)
        · have h5 : (Instr.entryStore 69 (.map (some mb)) (.int .i64 (st : Int)) (.int .i64 (v0 + y.n))).run Try.prog w6 = .ok () w7 := HE7.out
          go_simp
        refine doneL (by kernel_rfl) ?_
        go_wp2_with fail
        exact ⟨⟨k + 1, by omega, by simp, by rw [HTM.out]; exact HM7.out, HO.out.trans (HOB.out.drew.trans HO7.out)⟩, by simp [intOf]; omega⟩
    · obtain rfl : k = A.length := by omega
      rw [List.take_length] at HM
      have HSO := Lib.hid (okay2_seg size A HF.out.fits)
      go_wp2_with (go_at_call 31; refine (sorted_any mb _ _ _ HM.out HSO.out.rises (by have := HSO.out.len; omega)).mono ?_; rintro e w7 ⟨v, rfl, hr7, hb7⟩; have HR7 := Lib.hid hr7; have HB7 := Lib.hid hb7; clear hr7 hb7)
      go_ret
      have hwr : Below w.heap.size w wr := HBW.out.trans (HO.out.below (by rw [HMB.out]; exact Nat.le_refl _) HBW.out.size)
      exact ⟨_, rfl, by rw [HE.out]; exact HR7.out.mono hwr.size, hwr.trans (HB7.out.mono hwr.size)⟩
set_option maxHeartbeats 1600000 in
theorem oldest_any (p : Value) (A : List U) (next : Int) (w : World) (HA : Calls Try.prog 9 #[p] w fun e w' => ∃ v, e = .returned v ∧ RowK 40 encU 2 w.heap.size w' v A ∧ Below w.heap.size w w') :
    Calls Try.prog 11 #[p, .int .i64 next] w fun e w' => e = .returned (.int .i64 (oldE A next)) ∧ Below w.heap.size w w' := by
  have HAA := Lib.hid HA
  clear HA
  match A with
  | [] =>
    go_enter Try.func11, Try.ntmps11
    go_wp2_with (go_at_call 9; refine HAA.out.mono ?_; rintro e w1 ⟨v, rfl, hr1, hb1⟩; obtain ⟨oa, cap, rfl, hc, hc2, hnone⟩ := hr1.form; have HROW := Lib.hid hr1; have HB1 := Lib.hid hb1; clear hr1 hnone hb1 hc hc2; simp only [List.length_nil])
    go_ret
    exact ⟨rfl, HB1.out⟩
  | u :: A =>
    have HE : Hid (oldE (u :: A) next = min u.a next) := Lib.hid rfl
    have hl : ¬ ((A.length : Int) + 1 = 0) := by omega
    go_enter Try.func11, Try.ntmps11
    go_wp2_with (go_at_call 9; refine HAA.out.mono ?_; rintro e w1 ⟨v, rfl, hr1, hb1⟩; obtain ⟨oa, cap, rfl, hc, hc2, hnone⟩ := hr1.form; have HB1 := Lib.hid hb1; obtain ⟨g, rfl, hab, _, hcc⟩ := RowK.at us_len (by omega) hr1 (i := 0) rfl; have c0 := hcc 0 _ rfl; simp only [Nat.zero_mul, Nat.add_zero, List.length_cons] at c0 ⊢; clear hr1 hnone hb1 hc hc2 hcc hab)
    go_ret
    exact ⟨ret_int HE.out.symm, HB1.out⟩
variable {tb b : Nat} {L : List Ino} {next : Int}
theorem addrs_on {w : World} (h : TIs w tb b L next) (W : World) (hb : Below w.heap.size w W) : Calls Try.prog 9 #[.pointer (some ⟨tb, 0, none⟩)] W fun e w' => ∃ v, e = .returned v ∧ RowK 40 encU 2 W.heap.size w' v (allU L) ∧ Below W.heap.size W w' := addrs_any W (h.grow hb)
set_option maxHeartbeats 400000 in
theorem nall_any (w : World) : Calls Try.prog 29 #[.pointer none] w fun e w' => e = .returned (.slice none 0 0) ∧ w = w' := by
  go_enter Try.func29, Try.ntmps29
  go_wp2_with fail
  go_ret
  exact ⟨rfl, rfl⟩
set_option maxHeartbeats 1600000 in
theorem naddrs (w : World) : Calls Try.prog 9 #[.pointer none] w fun e w' => ∃ v, e = .returned v ∧ RowK 40 encU 2 w.heap.size w' v [] ∧ Below w.heap.size w w' := by
  have hmm := @run_makeMap Try.prog
  have HM : Hid (KyIs (w.alloc (.map #[] 0)) w.heap.size 0 (lk [])) := Lib.hid (MapIs.made w)
  go_enter Try.func9, Try.ntmps9
  go_wp2_with (first
    | (go_at_call 29; refine (nall_any _).mono ?_; rintro e w1 ⟨rfl, rfl⟩)
    | (go_at_call 31; refine (sorted_any _ _ _ _ HM.out List.Pairwise.nil (by simp)).mono ?_; rintro e w7 ⟨v, rfl, hr7, hb7⟩; have HR7 := Lib.hid hr7; have HB7 := Lib.hid hb7; clear hr7 hb7))
  go_loopw [12] (fun i wr => i = .int .i64 0 ∧ wr = w.alloc (.map #[] 0)) (fun i _ => 0)
  case atStart => exact ⟨rfl, rfl⟩
  case round =>
    obtain ⟨rfl, rfl⟩ := hrel
    go_wp2_with (go_at_call 31; refine (sorted_any _ _ _ _ HM.out List.Pairwise.nil (by simp)).mono ?_; rintro e w7 ⟨v, rfl, hr7, hb7⟩; have HR7 := Lib.hid hr7; have HB7 := Lib.hid hb7; clear hr7 hb7)
    go_ret
    exact ⟨_, rfl, HR7.out.mono (by simp), (below_alloc w _).trans (HB7.out.mono (by simp))⟩
end Go.Proofs.Ytaaecdijbkkoiaa.LivW
