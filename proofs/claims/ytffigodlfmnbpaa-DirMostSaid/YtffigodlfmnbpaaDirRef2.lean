/- The document's names: Drop, Add. -/
import Derived.Test.YtffigodlfmnbpaaDirRow
import Derived.Test.YtffigodlfmnbpaaDraw
namespace Go.Proofs.Ytffigodlfmnbpaa.DirW
open Go.RowKit DirP
open PathW (nameB)
theorem flat_one (l : List En) : ∀ u ∈ l.flatMap encE, u.oneCell' = true := by
  intro u hu
  obtain ⟨a, _, h⟩ := List.mem_flatMap.1 hu
  exact en_one a u h
/-- a new list is stored -/
theorem QAt.put {w w' : World} {qb B : Nat} {v v' : Value} {L L' : List En} (h : QAt w qb B v L) (hb : Below w.heap.size w w') (hr : RowK 66 encE 3 w.heap.size w' v' L') (hB : B ≤ w.heap.size) (hg : DGood L') :
    QIs (w'.setCell ⟨qb, 0, none⟩ v') qb B L' ∧ Only qb w (w'.setCell ⟨qb, 0, none⟩ v') := by
  have hq := h.lt
  have hh := (hb.block qb hq).trans h.head
  refine ⟨⟨v', ?_, ?_, hg⟩, (Only.of_below hb).trans ((Only.refl _ _).setCell 0 v')⟩
  · rw [heap_setCell_same w' qb 0 _ _ _ hh]
    congr 2
  · refine ((Only.refl qb w').setCell 0 v').keepRow (hr.mono hB) (fun e => ?_)
    have := World.ownsRow.lt hr qb e
    omega
set_option maxHeartbeats 1600000 in
theorem rdrop_any (qb B : Nat) (L : List En) (hlen : L.length ≤ 100000) (d : Int) (s : ByteArray) (w : World) (h : QIs w qb B L) (hBw : B ≤ w.heap.size) :
    Calls Try.prog 16 #[.pointer (some ⟨qb, 0, none⟩), .int .i64 d, .string s] w fun e w' => e = .returned (.int .i64 (dropE L d s)) ∧ QIs w' qb B (del L (d, s)) ∧ Only qb w w' := by
  obtain ⟨i0, hi, hz0, hz1, hz2⟩ := info_parts ren_info
  have HQ := Lib.hid h
  have HLEN := Lib.hid hlen
  obtain ⟨v, h⟩ := h
  have HV := Lib.hid h
  obtain ⟨oa, cap, rfl, hc, hc2, _⟩ := h.row.form
  have HP := Lib.hid (h.row.pts en_len (by omega))
  obtain ⟨p0, f0⟩ := h.v0
  clear h
  cases hl : lk L (d, s) with
  | none =>
    have HE : Hid (dropE L d s = 60) := Lib.hid (by unfold dropE; rw [hl]; rfl)
    have HA := Lib.hid (at_none hl)
    have HD := Lib.hid (del_none hl)
    clear hl
    go_enter Try.func16, Try.ntmps16
    go_wp2_with (go_at_call 29; refine (at_any _ _ _ HLEN.out _ _ _ HQ.out).mono ?_; rintro e w2 ⟨rfl, rfl⟩; rw [HA.out])
    go_ret
    exact ⟨ret_int HE.out.symm, by rw [HD.out]; exact HQ.out, Only.refl _ _⟩
  | some i =>
    have HE : Hid (dropE L d s = 0) := Lib.hid (by unfold dropE; rw [hl]; rfl)
    obtain ⟨j, hj, hx⟩ := at_some hl
    have HA := Lib.hid hj
    have hD : del L (d, s) = L.take j ++ L.drop (j + 1) := del_at HQ.out.good.rises hx
    obtain ⟨a, rfl, hab, c0, c1, c2⟩ := en_at HP.out hx
    have hjl : j < L.length := (List.getElem?_eq_some_iff.1 hx).1
    simp only at c0 c1 c2
    have hw1 : IntKind.i64.wrap ((j : Int) + 1) = (j : Int) + 1 := IntWalk.i64_in _ (by unfold maxLen at hc2; omega)
    have hq1 : (0 : Int) ≤ (j : Int) + 1 := by omega
    have hq2 : ((j : Int) + 1).toNat = j + 1 := by omega
    have hq3 : (j : Int) ≤ (cap : Int) := by omega
    have hq4 : (j : Int) + 1 ≤ (L.length : Int) := by omega
    have hq5 : (L.length : Int) ≤ (cap : Int) := by omega
    have hqb : qb < w.heap.size := HQ.out.lt
    have HL1 : Hid (((L.take j).flatMap encE).length = j * 3) := Lib.hid (by rw [flat_len en_len, List.length_take, Nat.min_eq_left (by omega)])
    have HL2 : Hid (((L.drop (j + 1)).flatMap encE).length = (L.length - (j + 1)) * 3) := Lib.hid (by rw [flat_len en_len, List.length_drop])
    have HLN : Hid ([] ++ (L.take j).flatMap encE ++ (L.drop (j + 1)).flatMap encE = (del L (d, s)).flatMap encE ∧ 0 + (j) + (L.length - (j + 1)) = (del L (d, s)).length) := Lib.hid (by
      rw [hD]
      refine ⟨by simp, ?_⟩
      rw [List.length_append, List.length_take, List.length_drop, Nat.min_eq_left (by omega)]; omega)
    have HW1 := Lib.hid fun W (hb : Below w.heap.size w W) => news_take en_len (by omega) (HP.out.below hb) j
    have HW2 := Lib.hid fun W (hb : Below w.heap.size w W) => news_drop en_len (by omega) (HP.out.below hb) hc (j + 1)
    clear hl hj hx hD
    go_enter Try.func16, Try.ntmps16
    go_wp2_with (go_at_call 29; refine (at_any _ _ _ HLEN.out _ _ _ HQ.out).mono ?_; rintro e w2 ⟨rfl, rfl⟩; rw [HA.out])
    have HS0 := Lib.hid (seeS p0 (Below.refl w.heap.size w).drew)
    refine regionL 19 20 (fun w' => w'.cell? ⟨qb, 0, none⟩ = some ((.slice (some a) L.length cap)) ∧ Below w.heap.size w w') (by kernel_rfl) rfl ?_
    refine takeL 0 (some 14) (v := ?_) rfl (by kernel_rfl) (by kernel_rfl) (by kernel_rfl) (by kernel_rfl) (fun _ _ _ h => h) rfl rfl HS0.out ?_ ?_
    rotate_left
    · intro wq hq
      have g0 := hq.1
      go_simp
      with_reducible rfl
    simp only [Act.put, List.setIfInBounds_toArray, List.set_cons_zero, List.set_cons_succ]
    refine takeL 2 (some 16) (v := ?_) rfl (by kernel_rfl) (by kernel_rfl) (by kernel_rfl) (by kernel_rfl) (fun _ _ _ h => h) rfl rfl HS0.out ?_ ?_
    rotate_left
    · intro wq hq
      have g0 := hq.1
      go_simp
      with_reducible rfl
    simp only [Act.put, List.setIfInBounds_toArray, List.set_cons_zero, List.set_cons_succ]
    refine takeL 3 (some 17) (v := ?_) rfl (by kernel_rfl) (by kernel_rfl) (by kernel_rfl) (by kernel_rfl) (fun _ _ _ h => h) rfl rfl HS0.out ?_ ?_
    rotate_left
    · intro wq hq
      have g0 := hq.1
      go_simp
      with_reducible rfl
    simp only [Act.put, List.setIfInBounds_toArray, List.set_cons_zero, List.set_cons_succ]
    refine takeL 4 (some 18) (v := ?_) rfl (by kernel_rfl) (by kernel_rfl) (by kernel_rfl) (by kernel_rfl) (fun _ _ _ h => h) rfl rfl HS0.out ?_ ?_
    rotate_left
    · intro wq hq
      have g0 := hq.1
      go_simp
      with_reducible rfl
    simp only [Act.put, List.setIfInBounds_toArray, List.set_cons_zero, List.set_cons_succ]
    refine takeL 5 (some 19) (v := ?_) rfl (by kernel_rfl) (by kernel_rfl) (by kernel_rfl) (by kernel_rfl) (fun _ _ _ h => h) rfl rfl HS0.out ?_ ?_
    rotate_left
    · intro wq hq
      have g0 := hq.1
      go_simp
      with_reducible rfl
    simp only [Act.put, List.setIfInBounds_toArray, List.set_cons_zero, List.set_cons_succ]
    refine takeL 6 (some 20) (v := ?_) rfl (by kernel_rfl) (by kernel_rfl) (by kernel_rfl) (by kernel_rfl) (fun _ _ _ h => h) rfl rfl HS0.out ?_ ?_
    rotate_left
    · intro wq hq
      have g0 := hq.1
      go_simp
      with_reducible rfl
    simp only [Act.put, List.setIfInBounds_toArray, List.set_cons_zero, List.set_cons_succ]
    refine takeL 7 (some 21) (v := ?_) rfl (by kernel_rfl) (by kernel_rfl) (by kernel_rfl) (by kernel_rfl) (fun _ _ _ h => h) rfl rfl HS0.out ?_ ?_
    rotate_left
    · intro wq hq
      have g0 := hq.1
      go_simp
      with_reducible rfl
    simp only [Act.put, List.setIfInBounds_toArray, List.set_cons_zero, List.set_cons_succ]
    refine takeL 9 (some 23) (v := ?_) rfl (by kernel_rfl) (by kernel_rfl) (by kernel_rfl) (by kernel_rfl) (fun _ _ _ h => h) rfl rfl HS0.out ?_ ?_
    rotate_left
    · intro wq hq
      have g0 := hq.1
      go_simp
      with_reducible rfl
    simp only [Act.put, List.setIfInBounds_toArray, List.set_cons_zero, List.set_cons_succ]
    refine takeL 10 (some 24) (v := ?_) rfl (by kernel_rfl) (by kernel_rfl) (by kernel_rfl) (by kernel_rfl) (fun _ _ _ h => h) rfl rfl HS0.out ?_ ?_
    rotate_left
    · intro wq hq
      have g0 := hq.1
      go_simp
      with_reducible rfl
    simp only [Act.put, List.setIfInBounds_toArray, List.set_cons_zero, List.set_cons_succ]
    refine takeL 11 (some 25) (v := ?_) rfl (by kernel_rfl) (by kernel_rfl) (by kernel_rfl) (by kernel_rfl) (fun _ _ _ h => h) rfl rfl HS0.out ?_ ?_
    rotate_left
    · intro wq hq
      have g0 := hq.1
      go_simp
      with_reducible rfl
    simp only [Act.put, List.setIfInBounds_toArray, List.set_cons_zero, List.set_cons_succ]
    refine takeL 12 (some 26) (v := ?_) rfl (by kernel_rfl) (by kernel_rfl) (by kernel_rfl) (by kernel_rfl) (fun _ _ _ h => h) rfl rfl HS0.out ?_ ?_
    rotate_left
    · intro wq hq
      have g0 := hq.1
      go_simp
      with_reducible rfl
    simp only [Act.put, List.setIfInBounds_toArray, List.set_cons_zero, List.set_cons_succ]
    refine takeL 13 (some 27) (v := ?_) rfl (by kernel_rfl) (by kernel_rfl) (by kernel_rfl) (by kernel_rfl) (fun _ _ _ h => h) rfl rfl HS0.out ?_ ?_
    rotate_left
    · intro wq hq
      have g0 := hq.1
      go_simp
      with_reducible rfl
    simp only [Act.put, List.setIfInBounds_toArray, List.set_cons_zero, List.set_cons_succ]
    refine takeL 14 (some 28) (v := ?_) rfl (by kernel_rfl) (by kernel_rfl) (by kernel_rfl) (by kernel_rfl) (fun _ _ _ h => h) rfl rfl HS0.out ?_ ?_
    rotate_left
    · intro wq hq
      have g0 := hq.1
      go_simp
      with_reducible rfl
    simp only [Act.put, List.setIfInBounds_toArray, List.set_cons_zero, List.set_cons_succ]
    refine takeL 15 (some 29) (v := ?_) rfl (by kernel_rfl) (by kernel_rfl) (by kernel_rfl) (by kernel_rfl) (fun _ _ _ h => h) rfl rfl HS0.out ?_ ?_
    rotate_left
    · intro wq hq
      have g0 := hq.1
      go_simp
      with_reducible rfl
    simp only [Act.put, List.setIfInBounds_toArray, List.set_cons_zero, List.set_cons_succ]
    refine oneL 1 (by kernel_rfl) rfl rfl (wp_runs (some 15) (v := .slice (some ⟨w.heap.size, 0, none⟩) 0 0) (w' := (w.alloc (.cells #[] 66)).drew) rfl (by go_simp) ⟨fun _ => seeS p0 (below_alloc w _).drew, ?_⟩)
    simp only [Act.put, List.setIfInBounds_toArray, List.set_cons_zero, List.set_cons_succ]
    refine oneL 8 (by kernel_rfl) rfl rfl (wp_append_both (some 22) rfl rfl _ _ 42 rfl w.heap.size 66 i0 (.agg #[.int .i64 0, .string ByteArray.empty, .int .i64 0]) 3 32 Try.underlying42 hi hz0 hz1 hz2 rfl (by decide) _ (.slice (some ⟨w.heap.size, 0, none⟩) 0 0) (0) ([]) rfl (own_empty_at (W := w.drew) rfl _ _ _ (Nat.le_refl _)) (some a) (j) (cap) ((L.take j).flatMap encE) rfl (fun e => by cases e) HL1.out (HW1.out _ (below_alloc w _).drew) (flat_one _) (by unfold maxLen; omega) (by omega) (below_alloc w _).drew.size ?_)
    intro oa1 cap1 w1 h1 h2 h3
    have HR1 := Lib.hid h1
    have HB1 := Lib.hid ((below_alloc w _).drew.trans h2)
    clear h1 h2 h3
    refine ⟨fun _ => seeS p0 HB1.out, ?_⟩
    simp only [Act.put, List.setIfInBounds_toArray, List.set_cons_zero, List.set_cons_succ]
    refine oneL 16 (by kernel_rfl) rfl rfl (wp_append_both (some 30) rfl rfl _ _ 42 rfl w.heap.size 66 i0 (.agg #[.int .i64 0, .string ByteArray.empty, .int .i64 0]) 3 32 Try.underlying42 hi hz0 hz1 hz2 rfl (by decide) _ (.slice oa1 (0 + (j)) cap1) (0 + (j)) ([] ++ ((L.take j).flatMap encE)) rfl HR1.out (if cap = j + 1 then some a else some (a.add ((j + 1) * 3))) (L.length - (j + 1)) ((cap - (j + 1))) ((L.drop (j + 1)).flatMap encE) rfl (fun e => by split at e <;> cases e) HL2.out (HW2.out _ HB1.out) (flat_one _) (by unfold maxLen; omega) (by omega) HB1.out.size ?_)
    intro oaL capL wL h1 h2 h3
    have HRL : Hid (RowK 66 encE 3 w.heap.size wL (.slice oaL (0 + (j) + (L.length - (j + 1))) capL) (del L (d, s))) := Lib.hid (own_row h1 HLN.out)
    have HBL := Lib.hid (HB1.out.trans h2)
    clear h1 h2 h3
    refine ⟨fun _ => seeS p0 HBL.out, ?_⟩
    simp only [Act.put, List.setIfInBounds_toArray, List.set_cons_zero, List.set_cons_succ]
    have q0 := cell_step HBL.out p0
    have r0 : wL.frozen? ⟨qb, 0, none⟩ = false := (HBL.out.frozen hqb).trans f0
    generalize (if cap = j + 1 then some a else some (a.add ((j + 1) * 3))) = oD
    refine oneL 17 (by kernel_rfl) rfl rfl (wp_runs (some 31) (v := .pointer (some ⟨qb, 0, none⟩)) (w' := wL) rfl (by go_simp) ⟨fun _ => seeS p0 HBL.out, ?_⟩)
    simp only [Act.put, List.setIfInBounds_toArray, List.set_cons_zero, List.set_cons_succ]
    refine oneL 18 (by kernel_rfl) rfl rfl (wp_runs (some 32) (v := .pointer (some ⟨qb, 0, none⟩)) (w' := wL) rfl (by go_simp) ⟨fun _ => seeS p0 HBL.out, ?_⟩)
    simp only [Act.put, List.setIfInBounds_toArray, List.set_cons_zero, List.set_cons_succ]
    generalize 0 + (j) + (L.length - (j + 1)) = nL at HRL ⊢
    refine oneL 19 (by kernel_rfl) rfl rfl (wp_skips none (w' := wL.setCell ⟨qb, 0, none⟩ (.slice oaL nL capL)) rfl (by go_simp) ⟨fun h => absurd rfl h, ?_⟩)
    simp only [Act.put]
    refine doneL (by kernel_rfl) ?_
    go_wp2
    go_ret
    obtain ⟨r1, r2⟩ := HV.out.put HBL.out HRL.out hBw (HV.out.good.filter _)
    exact ⟨ret_int HE.out.symm, r1, r2⟩
theorem low_at {L : List En} {x : Int × ByteArray} {k : Nat} (hk : k ≤ (low L x).length) {a : En} (ha : L[k]? = some a) : (kl a.key x ↔ k < (low L x).length) := Sl.low_step (key := En.key) (kl := kl) hk ha
theorem ins_at (L : List En) (a : En) : ins L a = L.take (low L a.key).length ++ a :: L.drop (low L a.key).length := Sl.ins_take (key := En.key) (kl := kl) L a
theorem low_length (L : List En) (x : Int × ByteArray) : (low L x).length ≤ L.length := Sl.low_length L x
theorem rname_is (s : ByteArray) (b : Bool) (hb : nameB s.data.toList = b) (hs : s.size ≤ 9223372036854775807) (w : World) :
    Calls Try.prog 28 #[.string s] w fun e w' => e = .returned (.bool b) ∧ w = w' := by
  rw [← hb]; exact PathW.rname_any s hs w
theorem rlist_len (qb B : Nat) (L : List En) (hlen : L.length ≤ 100000) (d : Int) (m : Nat) (hm : cnt L d = m) (w : World) (h : QIs w qb B L) :
    Calls Try.prog 20 #[.pointer (some ⟨qb, 0, none⟩), .int .i64 d] w fun e w' => (∃ oa cap, e = .returned (.slice oa m cap)) ∧ Below w.heap.size w w' := by
  refine (rlist_any qb B L hlen d w h).mono ?_
  rintro e w' ⟨v, rfl, hr, hb⟩
  obtain ⟨oa, cap, rfl, _⟩ := hr.form
  rw [names_len, hm]
  exact ⟨⟨oa, cap, rfl⟩, hb⟩
set_option maxRecDepth 100000 in
set_option maxHeartbeats 8000000 in
theorem radd_any (qb B : Nat) (L : List En) (hlen : L.length ≤ 100000) (d : Int) (s : ByteArray) (i : Int) (hs : s.size ≤ 9223372036854775807) (W0 : World) (h : QIs W0 qb B L) (hBw0 : B ≤ W0.heap.size) :
    Calls Try.prog 15 #[.pointer (some ⟨qb, 0, none⟩), .int .i64 d, .string s, .int .i64 i] W0 fun e w' => e = .returned (.int .i64 (addE L d s i)) ∧ QIs w' qb B (addL L d s i) ∧ Only qb W0 w' := by
  obtain ⟨i0, hi, hz0, hz1, hz2⟩ := info_parts ren_info
  have HQ := Lib.hid h
  have HS := Lib.hid hs
  have HLEN := Lib.hid hlen
  have HBW := Lib.hid hBw0
  clear h hs hBw0
  cases hn : nameB s.data.toList with
  | false =>
    have HN := Lib.hid hn
    have HE : Hid (addE L d s i = 11) := Lib.hid (by unfold addE; rw [hn]; rfl)
    clear hn
    go_enter Try.func15, Try.ntmps15
    go_wp2_with (go_at_call 28; refine (rname_is _ _ HN.out HS.out _).mono ?_; rintro e w2 ⟨rfl, rfl⟩)
    go_ret
    exact ⟨ret_int HE.out.symm, by unfold addL; rw [HE.out]; exact HQ.out, Only.refl _ _⟩
  | true =>
    have HN := Lib.hid hn
    by_cases hr : rngB d i = true
    · obtain ⟨⟨r1, r2⟩, r3, r4⟩ := of_decide_eq_true hr
      cases hl : lk L (d, s) with
      | some j =>
        have HE : Hid (addE L d s i = 61) := Lib.hid (by unfold addE; rw [if_pos hn, if_pos hr, hl]; rfl)
        obtain ⟨p, hp, _⟩ := at_some hl
        have HA := Lib.hid hp
        clear hn hr hl hp
        go_enter Try.func15, Try.ntmps15
        go_wp2_with (first
          | (go_at_call 28; refine (rname_is _ _ HN.out HS.out _).mono ?_; rintro e w2 ⟨rfl, rfl⟩)
          | (go_at_call 29; refine (at_any _ _ _ HLEN.out _ _ _ HQ.out).mono ?_; rintro e w2 ⟨rfl, rfl⟩; rw [HA.out]))
        go_ret
        exact ⟨ret_int HE.out.symm, by unfold addL; rw [HE.out]; exact HQ.out, Only.refl _ _⟩
      | none =>
        have HA := Lib.hid (at_none hl)
        obtain ⟨M, hM⟩ : ∃ M, cnt L d = M := ⟨_, rfl⟩
        have HM := Lib.hid hM
        by_cases hct : 64 ≤ M
        · have HE : Hid (addE L d s i = 67) := Lib.hid (by unfold addE; rw [if_pos hn, if_pos hr, hl, if_neg (by simp), if_pos (by omega)])
          have hci : (64 : Int) ≤ (M : Int) := by omega
          clear hn hr hl hct hM
          go_enter Try.func15, Try.ntmps15
          go_wp2_with (first
            | (go_at_call 28; refine (rname_is _ _ HN.out HS.out _).mono ?_; rintro e w2 ⟨rfl, rfl⟩)
            | (go_at_call 29; refine (at_any _ _ _ HLEN.out _ _ _ HQ.out).mono ?_; rintro e w2 ⟨rfl, rfl⟩; rw [HA.out])
            | (go_at_call 20; refine (rlist_len _ _ _ HLEN.out _ _ HM.out _ HQ.out).mono ?_; rintro e w3 ⟨⟨o3, c3, rfl⟩, hb3⟩; have HB3 := Lib.hid hb3; clear hb3))
          go_ret
          exact ⟨ret_int HE.out.symm, by unfold addL; rw [HE.out]; exact HQ.out.grow HB3.out, Only.of_below HB3.out⟩
        · have HE : Hid (addE L d s i = 0) := Lib.hid (by unfold addE; rw [if_pos hn, if_pos hr, hl, if_neg (by simp), if_neg (by omega)])
          have HLL : Hid (addL L d s i = ins L ⟨d, s, i⟩) := Lib.hid (by unfold addL; rw [if_pos HE.out])
          have HGI : Hid (DGood (ins L ⟨d, s, i⟩)) := Lib.hid (HQ.out.good.ins hn hr hl (by omega))
          have hci : (M : Int) < 64 := by omega
          have HIN : Hid (ins L ⟨d, s, i⟩ = L.take (low L (d, s)).length ++ ⟨d, s, i⟩ :: L.drop (low L (d, s)).length) := Lib.hid (ins_at L ⟨d, s, i⟩)
          have HLOW := Lib.hid (low_length L (d, s))
          clear hn hr hl hct hM
          go_enter Try.func15, Try.ntmps15
          go_wp2_with (first
            | (go_at_call 28; refine (rname_is _ _ HN.out HS.out _).mono ?_; rintro e w2 ⟨rfl, rfl⟩)
            | (go_at_call 29; refine (at_any _ _ _ HLEN.out _ _ _ HQ.out).mono ?_; rintro e w2 ⟨rfl, rfl⟩; rw [HA.out])
            | (go_at_call 20; refine (rlist_len _ _ _ HLEN.out _ _ HM.out _ HQ.out).mono ?_; rintro e w3 ⟨⟨o3, c3, rfl⟩, hb3⟩; have HB3 := Lib.hid hb3; clear hb3))
          have HB4 := Lib.hid (bstep HB3.out (below_alloc w3 (.cells #[.int .i64 d, .string s, .int .i64 i] 66)))
          have HBX : Hid ((w3.alloc (.cells #[.int .i64 d, .string s, .int .i64 i] 66)).heap[w3.heap.size]? = some (.cells #[.int .i64 d, .string s, .int .i64 i] 66 (0, 0))) := Lib.hid (heap_alloc_new w3 _)
          have HQ4 := Lib.hid (HQ.out.grow HB4.out)
          generalize w3.alloc (.cells #[.int .i64 d, .string s, .int .i64 i] 66) = w4 at *
          generalize w3.heap.size = xb at *
          obtain ⟨v, hv⟩ := HQ4.out
          obtain ⟨oa, cap, rfl, hc, hc2, hnone⟩ := hv.row.form
          have HV4 := Lib.hid hv
          clear hv
          go_loopw [10] (fun k wr => ∃ m : Nat, m ≤ (low L (d, s)).length ∧ k = .int .i64 (m : Int) ∧ Below w4.heap.size w4 wr) (fun k _ => ((L.length : Int) - intOf k).toNat)
          case atStart => exact ⟨0, Nat.zero_le _, rfl, Below.refl _ _⟩
          case round =>
            obtain ⟨k, hk, rfl, hbel⟩ := hrel
            have HB := Lib.hid hbel
            have hkl : k ≤ L.length := Nat.le_trans hk HLOW.out
            have HV : Hid (QAt wr qb B (.slice oa L.length cap) L) := Lib.hid ⟨(hbel.block qb HV4.out.lt).trans HV4.out.head, HV4.out.row.grow hbel, HV4.out.good⟩
            have HX : Hid (wr.heap[xb]? = some (.cells #[.int .i64 d, .string s, .int .i64 i] 66 (0, 0))) := Lib.hid ((hbel.block xb (lt_of_block HBX.out)).trans HBX.out)
            have HP := Lib.hid (HV.out.row.pts en_len (by omega))
            obtain ⟨p0, f0⟩ := HV.out.v0
            obtain ⟨x0, x1, x2, _, _, _⟩ := new_cells3 HX.out
            have hqb : qb < wr.heap.size := HV.out.lt
            have hBw : B ≤ wr.heap.size := by have := HBW.out; have := HB4.out.size; have := hbel.size; omega
            clear hbel
            by_cases hlt : k < L.length
            · obtain ⟨x, hx⟩ : ∃ x, L[k]? = some x := ⟨_, List.getElem?_eq_getElem hlt⟩
              obtain ⟨a, rfl, hab, c0, c1, c2⟩ := en_at HP.out hx
              have HLA := Lib.hid (low_at hk hx)
              obtain ⟨xd, xs, xi⟩ := x
              simp only at c0 c1 c2
              have hi1 : (k : Int) < (L.length : Int) := by omega
              by_cases hgo : k < (low L (d, s)).length
              · have HAH : Hid (decide (kl (⟨xd, xs, xi⟩ : En).key (⟨d, s, i⟩ : En).key) = true) := Lib.hid (decide_eq_true (HLA.out.2 hgo))
                have HGO := Lib.hid hgo
                clear hx hgo hk
                go_wp2_with fail
                refine held_below (by kernel_rfl) (by kernel_rfl) ?_
                repeat first
                  | (refine held_skip ?_ ?_; (· first | rfl | (go_simp; done)); simp only [Act.put, List.setIfInBounds_toArray, List.set_cons_zero, List.set_cons_succ])
                  | (refine held_val (v := ?_) ?_ ?_ ?_
                     rotate_left
                     · first | rfl | (go_simp; done)
                     · intro wq hq
                       have g0 := cell_step hq p0
                       have g1 := cell_step hq c0
                       have g2 := cell_step hq c1
                       have g3 := cell_step hq c2
                       have g4 := cell_step hq x0
                       have g5 := cell_step hq x1
                       have g6 := cell_step hq x2
                       go_simp
                       with_reducible rfl
                     simp only [Act.put, List.setIfInBounds_toArray, List.set_cons_zero, List.set_cons_succ])
                  | (refine held_call (v := ?_) (f := ?_) (args := ?_) ?_ ?_ ?_ ?_
                     rotate_left 3
                     · first | rfl | (go_simp; done)
                     · intro wq
                       go_simp
                       constructor
                       · rfl
                       · rfl
                     · intro wq hq
                       first
                         | (refine (ahead_is ⟨xd, xs, xi⟩ ⟨d, s, i⟩ _ HAH.out _).mono ?_
                            rintro e w1 ⟨rfl, hb1⟩
                            constructor
                            · rfl
                            · exact bstep hq hb1)
                     simp only [Act.put, List.setIfInBounds_toArray, List.set_cons_zero, List.set_cons_succ])
                refine held_nil ?_
                intro w2 hb2
                have HB2 := Lib.hid (bstep HB.out hb2)
                clear hb2
                go_wp2_with fail
                exact ⟨⟨k + 1, HGO.out, by simp, HB2.out⟩, by simp [intOf]; omega⟩
              · have hke : k = (low L (d, s)).length := by omega
                have HAH : Hid (decide (kl (⟨xd, xs, xi⟩ : En).key (⟨d, s, i⟩ : En).key) = false) := Lib.hid (decide_eq_false (fun h => hgo (HLA.out.1 h)))
                have HKE := Lib.hid hke
                clear hx hgo hk hke
                go_wp2_with fail
                refine held_below (by kernel_rfl) (by kernel_rfl) ?_
                repeat first
                  | (refine held_skip ?_ ?_; (· first | rfl | (go_simp; done)); simp only [Act.put, List.setIfInBounds_toArray, List.set_cons_zero, List.set_cons_succ])
                  | (refine held_val (v := ?_) ?_ ?_ ?_
                     rotate_left
                     · first | rfl | (go_simp; done)
                     · intro wq hq
                       have g0 := cell_step hq p0
                       have g1 := cell_step hq c0
                       have g2 := cell_step hq c1
                       have g3 := cell_step hq c2
                       have g4 := cell_step hq x0
                       have g5 := cell_step hq x1
                       have g6 := cell_step hq x2
                       go_simp
                       with_reducible rfl
                     simp only [Act.put, List.setIfInBounds_toArray, List.set_cons_zero, List.set_cons_succ])
                  | (refine held_call (v := ?_) (f := ?_) (args := ?_) ?_ ?_ ?_ ?_
                     rotate_left 3
                     · first | rfl | (go_simp; done)
                     · intro wq
                       go_simp
                       constructor
                       · rfl
                       · rfl
                     · intro wq hq
                       first
                         | (refine (ahead_is ⟨xd, xs, xi⟩ ⟨d, s, i⟩ _ HAH.out _).mono ?_
                            rintro e w1 ⟨rfl, hb1⟩
                            constructor
                            · rfl
                            · exact bstep hq hb1)
                     simp only [Act.put, List.setIfInBounds_toArray, List.set_cons_zero, List.set_cons_succ])
                refine held_nil ?_
                intro w2 hb2
                obtain ⟨w9, rfl⟩ : ∃ w9, w9 = w2 := ⟨_, rfl⟩
                have HB9 := Lib.hid (bstep HB.out hb2)
                have HBA := Lib.hid (bstep HB4.out HB9.out)
                clear p0 f0 x0 x1 x2
                have HV9 : Hid (QAt w9 qb B (.slice (some a) L.length cap) L) := Lib.hid ⟨(hb2.block qb hqb).trans HV.out.head, HV.out.row.grow hb2, HV.out.good⟩
                have HX9 : Hid (w9.heap[xb]? = some (.cells #[.int .i64 d, .string s, .int .i64 i] 66 (0, 0))) := Lib.hid ((hb2.block xb (lt_of_block HX.out)).trans HX.out)
                clear HV HX HP
                have HV := HV9
                have hBw : B ≤ w9.heap.size := Nat.le_trans hBw hb2.size
                have hqb : qb < w9.heap.size := HV.out.lt
                have HP := Lib.hid (HV.out.row.pts en_len (by omega))
                obtain ⟨p0, f0⟩ := HV.out.v0
                obtain ⟨x0, x1, x2, _, _, _⟩ := new_cells3 HX9.out
                clear hb2
                have HL1 : Hid (((L.take k).flatMap encE).length = k * 3) := Lib.hid (by rw [flat_len en_len, List.length_take, Nat.min_eq_left (by omega)])
                have HL2 : Hid (((L.drop k).flatMap encE).length = (L.length - k) * 3) := Lib.hid (by rw [flat_len en_len, List.length_drop])
                have HLN : Hid ([] ++ (L.take k).flatMap encE ++ (#[.int .i64 d, .string s, .int .i64 i] : Array Value).toList ++ (L.drop k).flatMap encE = (ins L ⟨d, s, i⟩).flatMap encE ∧ 0 + (k) + 1 + (L.length - k) = (ins L ⟨d, s, i⟩).length) := Lib.hid (by
                  rw [HIN.out, ← HKE.out]
                  refine ⟨by simp [encE], ?_⟩
                  rw [List.length_append, List.length_cons, List.length_take, List.length_drop, Nat.min_eq_left (by omega)]; omega)
                have HW1 := Lib.hid fun W (hb : Below w9.heap.size w9 W) => news_take en_len (by omega) (HP.out.below hb) k
                have HW2 := Lib.hid fun W (hb : Below w9.heap.size w9 W) => news_drop en_len (by omega) (HP.out.below hb) hc k
                have hq3 : (k : Int) ≤ (cap : Int) := by omega
                have hq4 : (k : Int) ≤ (L.length : Int) := by omega
                have hq5 : (L.length : Int) ≤ (cap : Int) := by omega
                go_wp2_with fail
                have HS0 := Lib.hid (seeS p0 (Below.refl w9.heap.size w9).drew)
                refine regionL 21 22 (fun w' => w'.cell? ⟨qb, 0, none⟩ = some ((.slice (some a) L.length cap)) ∧ Below w9.heap.size w9 w') (by kernel_rfl) rfl ?_
                refine takeL 0 (some 62) (v := ?_) rfl (by kernel_rfl) (by kernel_rfl) (by kernel_rfl) (by kernel_rfl) (fun _ _ _ h => h) rfl rfl HS0.out ?_ ?_
                rotate_left
                · intro wq hq
                  have g0 := hq.1
                  have g4 := cell_step hq.2 x0
                  have g5 := cell_step hq.2 x1
                  have g6 := cell_step hq.2 x2
                  go_simp
                  with_reducible rfl
                simp only [Act.put, List.setIfInBounds_toArray, List.set_cons_zero, List.set_cons_succ]
                refine takeL 2 (some 64) (v := ?_) rfl (by kernel_rfl) (by kernel_rfl) (by kernel_rfl) (by kernel_rfl) (fun _ _ _ h => h) rfl rfl HS0.out ?_ ?_
                rotate_left
                · intro wq hq
                  have g0 := hq.1
                  have g4 := cell_step hq.2 x0
                  have g5 := cell_step hq.2 x1
                  have g6 := cell_step hq.2 x2
                  go_simp
                  with_reducible rfl
                simp only [Act.put, List.setIfInBounds_toArray, List.set_cons_zero, List.set_cons_succ]
                refine takeL 3 (some 65) (v := ?_) rfl (by kernel_rfl) (by kernel_rfl) (by kernel_rfl) (by kernel_rfl) (fun _ _ _ h => h) rfl rfl HS0.out ?_ ?_
                rotate_left
                · intro wq hq
                  have g0 := hq.1
                  have g4 := cell_step hq.2 x0
                  have g5 := cell_step hq.2 x1
                  have g6 := cell_step hq.2 x2
                  go_simp
                  with_reducible rfl
                simp only [Act.put, List.setIfInBounds_toArray, List.set_cons_zero, List.set_cons_succ]
                refine takeL 4 (some 66) (v := ?_) rfl (by kernel_rfl) (by kernel_rfl) (by kernel_rfl) (by kernel_rfl) (fun _ _ _ h => h) rfl rfl HS0.out ?_ ?_
                rotate_left
                · intro wq hq
                  have g0 := hq.1
                  have g4 := cell_step hq.2 x0
                  have g5 := cell_step hq.2 x1
                  have g6 := cell_step hq.2 x2
                  go_simp
                  with_reducible rfl
                simp only [Act.put, List.setIfInBounds_toArray, List.set_cons_zero, List.set_cons_succ]
                refine takeL 5 (some 67) (v := ?_) rfl (by kernel_rfl) (by kernel_rfl) (by kernel_rfl) (by kernel_rfl) (fun _ _ _ h => h) rfl rfl HS0.out ?_ ?_
                rotate_left
                · intro wq hq
                  have g0 := hq.1
                  have g4 := cell_step hq.2 x0
                  have g5 := cell_step hq.2 x1
                  have g6 := cell_step hq.2 x2
                  go_simp
                  with_reducible rfl
                simp only [Act.put, List.setIfInBounds_toArray, List.set_cons_zero, List.set_cons_succ]
                refine takeL 6 (some 68) (v := ?_) rfl (by kernel_rfl) (by kernel_rfl) (by kernel_rfl) (by kernel_rfl) (fun _ _ _ h => h) rfl rfl HS0.out ?_ ?_
                rotate_left
                · intro wq hq
                  have g0 := hq.1
                  have g4 := cell_step hq.2 x0
                  have g5 := cell_step hq.2 x1
                  have g6 := cell_step hq.2 x2
                  go_simp
                  with_reducible rfl
                simp only [Act.put, List.setIfInBounds_toArray, List.set_cons_zero, List.set_cons_succ]
                refine takeL 7 (some 69) (v := ?_) rfl (by kernel_rfl) (by kernel_rfl) (by kernel_rfl) (by kernel_rfl) (fun _ _ _ h => h) rfl rfl HS0.out ?_ ?_
                rotate_left
                · intro wq hq
                  have g0 := hq.1
                  have g4 := cell_step hq.2 x0
                  have g5 := cell_step hq.2 x1
                  have g6 := cell_step hq.2 x2
                  go_simp
                  with_reducible rfl
                simp only [Act.put, List.setIfInBounds_toArray, List.set_cons_zero, List.set_cons_succ]
                refine takeL 9 (some 71) (v := ?_) rfl (by kernel_rfl) (by kernel_rfl) (by kernel_rfl) (by kernel_rfl) (fun _ _ _ h => h) rfl rfl HS0.out ?_ ?_
                rotate_left
                · intro wq hq
                  have g0 := hq.1
                  have g4 := cell_step hq.2 x0
                  have g5 := cell_step hq.2 x1
                  have g6 := cell_step hq.2 x2
                  go_simp
                  with_reducible rfl
                simp only [Act.put, List.setIfInBounds_toArray, List.set_cons_zero, List.set_cons_succ]
                refine takeL 12 (some 74) (v := ?_) rfl (by kernel_rfl) (by kernel_rfl) (by kernel_rfl) (by kernel_rfl) (fun _ _ _ h => h) rfl rfl HS0.out ?_ ?_
                rotate_left
                · intro wq hq
                  have g0 := hq.1
                  have g4 := cell_step hq.2 x0
                  have g5 := cell_step hq.2 x1
                  have g6 := cell_step hq.2 x2
                  go_simp
                  with_reducible rfl
                simp only [Act.put, List.setIfInBounds_toArray, List.set_cons_zero, List.set_cons_succ]
                refine takeL 13 (some 75) (v := ?_) rfl (by kernel_rfl) (by kernel_rfl) (by kernel_rfl) (by kernel_rfl) (fun _ _ _ h => h) rfl rfl HS0.out ?_ ?_
                rotate_left
                · intro wq hq
                  have g0 := hq.1
                  have g4 := cell_step hq.2 x0
                  have g5 := cell_step hq.2 x1
                  have g6 := cell_step hq.2 x2
                  go_simp
                  with_reducible rfl
                simp only [Act.put, List.setIfInBounds_toArray, List.set_cons_zero, List.set_cons_succ]
                refine takeL 14 (some 76) (v := ?_) rfl (by kernel_rfl) (by kernel_rfl) (by kernel_rfl) (by kernel_rfl) (fun _ _ _ h => h) rfl rfl HS0.out ?_ ?_
                rotate_left
                · intro wq hq
                  have g0 := hq.1
                  have g4 := cell_step hq.2 x0
                  have g5 := cell_step hq.2 x1
                  have g6 := cell_step hq.2 x2
                  go_simp
                  with_reducible rfl
                simp only [Act.put, List.setIfInBounds_toArray, List.set_cons_zero, List.set_cons_succ]
                refine takeL 15 (some 77) (v := ?_) rfl (by kernel_rfl) (by kernel_rfl) (by kernel_rfl) (by kernel_rfl) (fun _ _ _ h => h) rfl rfl HS0.out ?_ ?_
                rotate_left
                · intro wq hq
                  have g0 := hq.1
                  have g4 := cell_step hq.2 x0
                  have g5 := cell_step hq.2 x1
                  have g6 := cell_step hq.2 x2
                  go_simp
                  with_reducible rfl
                simp only [Act.put, List.setIfInBounds_toArray, List.set_cons_zero, List.set_cons_succ]
                refine takeL 16 (some 78) (v := ?_) rfl (by kernel_rfl) (by kernel_rfl) (by kernel_rfl) (by kernel_rfl) (fun _ _ _ h => h) rfl rfl HS0.out ?_ ?_
                rotate_left
                · intro wq hq
                  have g0 := hq.1
                  have g4 := cell_step hq.2 x0
                  have g5 := cell_step hq.2 x1
                  have g6 := cell_step hq.2 x2
                  go_simp
                  with_reducible rfl
                simp only [Act.put, List.setIfInBounds_toArray, List.set_cons_zero, List.set_cons_succ]
                refine takeL 17 (some 79) (v := ?_) rfl (by kernel_rfl) (by kernel_rfl) (by kernel_rfl) (by kernel_rfl) (fun _ _ _ h => h) rfl rfl HS0.out ?_ ?_
                rotate_left
                · intro wq hq
                  have g0 := hq.1
                  have g4 := cell_step hq.2 x0
                  have g5 := cell_step hq.2 x1
                  have g6 := cell_step hq.2 x2
                  go_simp
                  with_reducible rfl
                simp only [Act.put, List.setIfInBounds_toArray, List.set_cons_zero, List.set_cons_succ]
                refine twoL 1 10 (by kernel_rfl) rfl rfl rfl rfl (wp_runs (some 63) (v := .slice (some ⟨w9.heap.size, 0, none⟩) 0 0) (w' := (w9.alloc (.cells #[] 66)).drew) rfl (by go_simp) ⟨fun _ => seeS p0 (below_alloc w9 _).drew, ?_⟩) (wp_runs (some 72) (v := .slice (some ⟨w9.heap.size, 0, none⟩) 1 1) (w' := (w9.alloc (.cells #[.int .i64 d, .string s, .int .i64 i] 66)).drew) rfl (by go_simp) ⟨fun _ => seeS p0 (below_alloc w9 _).drew, ?_⟩)
                · simp only [Act.put, List.setIfInBounds_toArray, List.set_cons_zero, List.set_cons_succ]
                  refine twoL 8 10 (by kernel_rfl) rfl rfl rfl rfl (wp_append_both (some 70) rfl rfl _ _ 42 rfl w9.heap.size 66 i0 (.agg #[.int .i64 0, .string ByteArray.empty, .int .i64 0]) 3 32 Try.underlying42 hi hz0 hz1 hz2 rfl (by decide) _ (.slice (some ⟨w9.heap.size, 0, none⟩) 0 0) (0) ([]) rfl (own_empty_at (W := w9.drew) rfl _ _ _ (Nat.le_refl _)) (some a) (k) (cap) ((L.take k).flatMap encE) rfl (fun e => by cases e) HL1.out (HW1.out _ (below_alloc w9 _).drew) (flat_one _) (by unfold maxLen; omega) (by omega) (below_alloc w9 _).drew.size ?_) (wp_runs (some 72) (v := .slice (some ⟨w9.heap.size + 1, 0, none⟩) 1 1) (w' := ((w9.alloc (.cells #[] 66)).alloc (.cells #[.int .i64 d, .string s, .int .i64 i] 66)).drew) rfl (by go_simp) ⟨fun _ => seeS p0 ((below_alloc w9 (.cells #[] 66)).trans ((below_alloc (w9.alloc (.cells #[] 66)) (.cells #[.int .i64 d, .string s, .int .i64 i] 66)).mono (by simp))).drew, ?_⟩)
                  · intro oa1 cap1 w1 h1 h2 h3
                    have HR1 := Lib.hid h1
                    have HB1 := Lib.hid ((below_alloc w9 _).drew.trans h2)
                    clear h1 h2 h3
                    refine ⟨fun _ => seeS p0 HB1.out, ?_⟩
                    simp only [Act.put, List.setIfInBounds_toArray, List.set_cons_zero, List.set_cons_succ]
                    refine oneL 10 (by kernel_rfl) rfl rfl (wp_runs (some 72) (v := .slice (some ⟨w1.heap.size, 0, none⟩) 1 1) (w' := w1.alloc (.cells #[.int .i64 d, .string s, .int .i64 i] 66)) rfl (by go_simp) ⟨fun _ => seeS p0 (HB1.out.trans ((below_alloc w1 _).mono HB1.out.size)), ?_⟩)
                    simp only [Act.put, List.setIfInBounds_toArray, List.set_cons_zero, List.set_cons_succ]
                    refine oneL 11 (by kernel_rfl) rfl rfl (wp_append_both (some 73) rfl rfl _ _ 42 rfl w9.heap.size 66 i0 (.agg #[.int .i64 0, .string ByteArray.empty, .int .i64 0]) 3 32 Try.underlying42 hi hz0 hz1 hz2 rfl (by decide) _ (.slice oa1 (0 + (k)) cap1) (0 + (k)) ([] ++ ((L.take k).flatMap encE)) rfl (own_grow HR1.out (below_alloc w1 _)) (some ⟨w1.heap.size, 0, none⟩) (1) (1) ((#[.int .i64 d, .string s, .int .i64 i] : Array Value).toList) rfl (fun e => by cases e) rfl (fun ad e => by cases e; exact World.news_of_block (heap_alloc_new w1 _)) (en_one ⟨d, s, i⟩) (by unfold maxLen; omega) (by omega) (by have := HB1.out.size; simp; omega) ?_)
                    intro oa2 cap2 w2 h1 h2 h3
                    have HR2 := Lib.hid h1
                    have HB2 := Lib.hid ((HB1.out.trans ((below_alloc w1 _).mono HB1.out.size)).trans h2)
                    clear h1 h2 h3
                    refine ⟨fun _ => seeS p0 HB2.out, ?_⟩
                    simp only [Act.put, List.setIfInBounds_toArray, List.set_cons_zero, List.set_cons_succ]
                    refine oneL 18 (by kernel_rfl) rfl rfl (wp_append_both (some 80) rfl rfl _ _ 42 rfl w9.heap.size 66 i0 (.agg #[.int .i64 0, .string ByteArray.empty, .int .i64 0]) 3 32 Try.underlying42 hi hz0 hz1 hz2 rfl (by decide) _ (.slice oa2 (0 + (k) + 1) cap2) (0 + (k) + 1) ([] ++ ((L.take k).flatMap encE) ++ ((#[.int .i64 d, .string s, .int .i64 i] : Array Value).toList)) rfl HR2.out (if cap = k then some a else some (a.add (k * 3))) (L.length - k) ((cap - k)) ((L.drop k).flatMap encE) rfl (fun e => by split at e <;> cases e) HL2.out (HW2.out _ HB2.out) (flat_one _) (by unfold maxLen; omega) (by omega) HB2.out.size ?_)
                    intro oaL capL wL h1 h2 h3
                    have HRL : Hid (RowK 66 encE 3 w9.heap.size wL (.slice oaL (0 + (k) + 1 + (L.length - k)) capL) (ins L ⟨d, s, i⟩)) := Lib.hid (own_row h1 HLN.out)
                    have HBL := Lib.hid (HB2.out.trans h2)
                    clear h1 h2 h3
                    refine ⟨fun _ => seeS p0 HBL.out, ?_⟩
                    simp only [Act.put, List.setIfInBounds_toArray, List.set_cons_zero, List.set_cons_succ]
                    have q0 := cell_step HBL.out p0
                    have r0 : wL.frozen? ⟨qb, 0, none⟩ = false := (HBL.out.frozen hqb).trans f0
                    generalize (if cap = k then some a else some (a.add (k * 3))) = oD
                    refine oneL 19 (by kernel_rfl) rfl rfl (wp_runs (some 81) (v := .pointer (some ⟨qb, 0, none⟩)) (w' := wL) rfl (by go_simp) ⟨fun _ => seeS p0 HBL.out, ?_⟩)
                    simp only [Act.put, List.setIfInBounds_toArray, List.set_cons_zero, List.set_cons_succ]
                    refine oneL 20 (by kernel_rfl) rfl rfl (wp_runs (some 82) (v := .pointer (some ⟨qb, 0, none⟩)) (w' := wL) rfl (by go_simp) ⟨fun _ => seeS p0 HBL.out, ?_⟩)
                    simp only [Act.put, List.setIfInBounds_toArray, List.set_cons_zero, List.set_cons_succ]
                    generalize 0 + (k) + 1 + (L.length - k) = nL at HRL ⊢
                    refine oneL 21 (by kernel_rfl) rfl rfl (wp_skips none (w' := wL.setCell ⟨qb, 0, none⟩ (.slice oaL nL capL)) rfl (by go_simp) ⟨fun h => absurd rfl h, ?_⟩)
                    simp only [Act.put]
                    refine doneL (by kernel_rfl) ?_
                    go_wp2
                    go_ret
                    obtain ⟨r1, r2⟩ := HV.out.put HBL.out HRL.out hBw HGI.out
                    exact ⟨ret_int HE.out.symm, by rw [HLL.out]; exact r1, (Only.of_below HBA.out).trans r2⟩
                  · simp only [Act.put, List.setIfInBounds_toArray, List.set_cons_zero, List.set_cons_succ]
                    refine oneL 8 (by kernel_rfl) rfl rfl (wp_append_both (some 70) rfl rfl _ _ 42 rfl w9.heap.size 66 i0 (.agg #[.int .i64 0, .string ByteArray.empty, .int .i64 0]) 3 32 Try.underlying42 hi hz0 hz1 hz2 rfl (by decide) _ (.slice (some ⟨w9.heap.size, 0, none⟩) 0 0) (0) ([]) rfl (own_grow (own_empty_at (W := w9.drew) rfl _ _ _ (Nat.le_refl _)) (below_alloc _ _)) (some a) (k) (cap) ((L.take k).flatMap encE) rfl (fun e => by cases e) HL1.out (HW1.out _ ((below_alloc w9 (.cells #[] 66)).trans ((below_alloc (w9.alloc (.cells #[] 66)) (.cells #[.int .i64 d, .string s, .int .i64 i] 66)).mono (by simp))).drew) (flat_one _) (by unfold maxLen; omega) (by omega) (by simp; omega) ?_)
                    intro oa1 cap1 w1 h1 h2 h3
                    have HR1 := Lib.hid h1
                    have HX1 : Hid (w1.heap[w9.heap.size + 1]? = some (.cells #[.int .i64 d, .string s, .int .i64 i] 66)) := Lib.hid ((h3.block _ (by simp) (by simp [Value.ownBlock])).trans (by have := heap_alloc_new (w9.alloc (.cells #[] 66)) (.cells #[.int .i64 d, .string s, .int .i64 i] 66); rw [show (w9.alloc (.cells #[] 66)).heap.size = w9.heap.size + 1 by simp] at this; exact this))
                    have HB1 := Lib.hid (((below_alloc w9 (.cells #[] 66)).trans ((below_alloc (w9.alloc (.cells #[] 66)) (.cells #[.int .i64 d, .string s, .int .i64 i] 66)).mono (by simp))).drew.trans h2)
                    clear h1 h2 h3
                    refine ⟨fun _ => seeS p0 HB1.out, ?_⟩
                    simp only [Act.put, List.setIfInBounds_toArray, List.set_cons_zero, List.set_cons_succ]
                    refine oneL 11 (by kernel_rfl) rfl rfl (wp_append_both (some 73) rfl rfl _ _ 42 rfl w9.heap.size 66 i0 (.agg #[.int .i64 0, .string ByteArray.empty, .int .i64 0]) 3 32 Try.underlying42 hi hz0 hz1 hz2 rfl (by decide) _ (.slice oa1 (0 + (k)) cap1) (0 + (k)) ([] ++ ((L.take k).flatMap encE)) rfl HR1.out (some ⟨w9.heap.size + 1, 0, none⟩) (1) (1) ((#[.int .i64 d, .string s, .int .i64 i] : Array Value).toList) rfl (fun e => by cases e) rfl (fun ad e => by cases e; exact World.news_of_block HX1.out) (en_one ⟨d, s, i⟩) (by unfold maxLen; omega) (by omega) HB1.out.size ?_)
                    intro oa2 cap2 w2 h1 h2 h3
                    have HR2 := Lib.hid h1
                    have HB2 := Lib.hid (HB1.out.trans h2)
                    clear h1 h2 h3
                    refine ⟨fun _ => seeS p0 HB2.out, ?_⟩
                    simp only [Act.put, List.setIfInBounds_toArray, List.set_cons_zero, List.set_cons_succ]
                    refine oneL 18 (by kernel_rfl) rfl rfl (wp_append_both (some 80) rfl rfl _ _ 42 rfl w9.heap.size 66 i0 (.agg #[.int .i64 0, .string ByteArray.empty, .int .i64 0]) 3 32 Try.underlying42 hi hz0 hz1 hz2 rfl (by decide) _ (.slice oa2 (0 + (k) + 1) cap2) (0 + (k) + 1) ([] ++ ((L.take k).flatMap encE) ++ ((#[.int .i64 d, .string s, .int .i64 i] : Array Value).toList)) rfl HR2.out (if cap = k then some a else some (a.add (k * 3))) (L.length - k) ((cap - k)) ((L.drop k).flatMap encE) rfl (fun e => by split at e <;> cases e) HL2.out (HW2.out _ HB2.out) (flat_one _) (by unfold maxLen; omega) (by omega) HB2.out.size ?_)
                    intro oaL capL wL h1 h2 h3
                    have HRL : Hid (RowK 66 encE 3 w9.heap.size wL (.slice oaL (0 + (k) + 1 + (L.length - k)) capL) (ins L ⟨d, s, i⟩)) := Lib.hid (own_row h1 HLN.out)
                    have HBL := Lib.hid (HB2.out.trans h2)
                    clear h1 h2 h3
                    refine ⟨fun _ => seeS p0 HBL.out, ?_⟩
                    simp only [Act.put, List.setIfInBounds_toArray, List.set_cons_zero, List.set_cons_succ]
                    have q0 := cell_step HBL.out p0
                    have r0 : wL.frozen? ⟨qb, 0, none⟩ = false := (HBL.out.frozen hqb).trans f0
                    generalize (if cap = k then some a else some (a.add (k * 3))) = oD
                    refine oneL 19 (by kernel_rfl) rfl rfl (wp_runs (some 81) (v := .pointer (some ⟨qb, 0, none⟩)) (w' := wL) rfl (by go_simp) ⟨fun _ => seeS p0 HBL.out, ?_⟩)
                    simp only [Act.put, List.setIfInBounds_toArray, List.set_cons_zero, List.set_cons_succ]
                    refine oneL 20 (by kernel_rfl) rfl rfl (wp_runs (some 82) (v := .pointer (some ⟨qb, 0, none⟩)) (w' := wL) rfl (by go_simp) ⟨fun _ => seeS p0 HBL.out, ?_⟩)
                    simp only [Act.put, List.setIfInBounds_toArray, List.set_cons_zero, List.set_cons_succ]
                    generalize 0 + (k) + 1 + (L.length - k) = nL at HRL ⊢
                    refine oneL 21 (by kernel_rfl) rfl rfl (wp_skips none (w' := wL.setCell ⟨qb, 0, none⟩ (.slice oaL nL capL)) rfl (by go_simp) ⟨fun h => absurd rfl h, ?_⟩)
                    simp only [Act.put]
                    refine doneL (by kernel_rfl) ?_
                    go_wp2
                    go_ret
                    obtain ⟨r1, r2⟩ := HV.out.put HBL.out HRL.out hBw HGI.out
                    exact ⟨ret_int HE.out.symm, by rw [HLL.out]; exact r1, (Only.of_below HBA.out).trans r2⟩
                · simp only [Act.put, List.setIfInBounds_toArray, List.set_cons_zero, List.set_cons_succ]
                  refine oneL 1 (by kernel_rfl) rfl rfl (wp_runs (some 63) (v := .slice (some ⟨w9.heap.size + 1, 0, none⟩) 0 0) (w' := ((w9.alloc (.cells #[.int .i64 d, .string s, .int .i64 i] 66)).alloc (.cells #[] 66)).drew) rfl (by go_simp) ⟨fun _ => seeS p0 ((below_alloc w9 (.cells #[.int .i64 d, .string s, .int .i64 i] 66)).trans ((below_alloc (w9.alloc (.cells #[.int .i64 d, .string s, .int .i64 i] 66)) (.cells #[] 66)).mono (by simp))).drew, ?_⟩)
                  simp only [Act.put, List.setIfInBounds_toArray, List.set_cons_zero, List.set_cons_succ]
                  refine oneL 8 (by kernel_rfl) rfl rfl (wp_append_both (some 70) rfl rfl _ _ 42 rfl w9.heap.size 66 i0 (.agg #[.int .i64 0, .string ByteArray.empty, .int .i64 0]) 3 32 Try.underlying42 hi hz0 hz1 hz2 rfl (by decide) _ (.slice (some ⟨w9.heap.size + 1, 0, none⟩) 0 0) (0) ([]) rfl (own_empty_at (W := (w9.alloc (.cells #[.int .i64 d, .string s, .int .i64 i] 66)).drew) (by simp) _ _ _ (by omega)) (some a) (k) (cap) ((L.take k).flatMap encE) rfl (fun e => by cases e) HL1.out (HW1.out _ ((below_alloc w9 (.cells #[.int .i64 d, .string s, .int .i64 i] 66)).trans ((below_alloc (w9.alloc (.cells #[.int .i64 d, .string s, .int .i64 i] 66)) (.cells #[] 66)).mono (by simp))).drew) (flat_one _) (by unfold maxLen; omega) (by omega) (by simp; omega) ?_)
                  intro oa1 cap1 w1 h1 h2 h3
                  have HR1 := Lib.hid h1
                  have HX1 : Hid (w1.heap[w9.heap.size]? = some (.cells #[.int .i64 d, .string s, .int .i64 i] 66)) := Lib.hid ((h3.block _ (by simp; omega) (by simp [Value.ownBlock])).trans ((Below.heap_alloc (w9.alloc (.cells #[.int .i64 d, .string s, .int .i64 i] 66)) (.cells #[] 66) _ (by simp)).trans (heap_alloc_new w9 _)))
                  have HB1 := Lib.hid (((below_alloc w9 (.cells #[.int .i64 d, .string s, .int .i64 i] 66)).trans ((below_alloc (w9.alloc (.cells #[.int .i64 d, .string s, .int .i64 i] 66)) (.cells #[] 66)).mono (by simp))).drew.trans h2)
                  clear h1 h2 h3
                  refine ⟨fun _ => seeS p0 HB1.out, ?_⟩
                  simp only [Act.put, List.setIfInBounds_toArray, List.set_cons_zero, List.set_cons_succ]
                  refine oneL 11 (by kernel_rfl) rfl rfl (wp_append_both (some 73) rfl rfl _ _ 42 rfl w9.heap.size 66 i0 (.agg #[.int .i64 0, .string ByteArray.empty, .int .i64 0]) 3 32 Try.underlying42 hi hz0 hz1 hz2 rfl (by decide) _ (.slice oa1 (0 + (k)) cap1) (0 + (k)) ([] ++ ((L.take k).flatMap encE)) rfl HR1.out (some ⟨w9.heap.size, 0, none⟩) (1) (1) ((#[.int .i64 d, .string s, .int .i64 i] : Array Value).toList) rfl (fun e => by cases e) rfl (fun ad e => by cases e; exact World.news_of_block HX1.out) (en_one ⟨d, s, i⟩) (by unfold maxLen; omega) (by omega) HB1.out.size ?_)
                  intro oa2 cap2 w2 h1 h2 h3
                  have HR2 := Lib.hid h1
                  have HB2 := Lib.hid (HB1.out.trans h2)
                  clear h1 h2 h3
                  refine ⟨fun _ => seeS p0 HB2.out, ?_⟩
                  simp only [Act.put, List.setIfInBounds_toArray, List.set_cons_zero, List.set_cons_succ]
                  refine oneL 18 (by kernel_rfl) rfl rfl (wp_append_both (some 80) rfl rfl _ _ 42 rfl w9.heap.size 66 i0 (.agg #[.int .i64 0, .string ByteArray.empty, .int .i64 0]) 3 32 Try.underlying42 hi hz0 hz1 hz2 rfl (by decide) _ (.slice oa2 (0 + (k) + 1) cap2) (0 + (k) + 1) ([] ++ ((L.take k).flatMap encE) ++ ((#[.int .i64 d, .string s, .int .i64 i] : Array Value).toList)) rfl HR2.out (if cap = k then some a else some (a.add (k * 3))) (L.length - k) ((cap - k)) ((L.drop k).flatMap encE) rfl (fun e => by split at e <;> cases e) HL2.out (HW2.out _ HB2.out) (flat_one _) (by unfold maxLen; omega) (by omega) HB2.out.size ?_)
                  intro oaL capL wL h1 h2 h3
                  have HRL : Hid (RowK 66 encE 3 w9.heap.size wL (.slice oaL (0 + (k) + 1 + (L.length - k)) capL) (ins L ⟨d, s, i⟩)) := Lib.hid (own_row h1 HLN.out)
                  have HBL := Lib.hid (HB2.out.trans h2)
                  clear h1 h2 h3
                  refine ⟨fun _ => seeS p0 HBL.out, ?_⟩
                  simp only [Act.put, List.setIfInBounds_toArray, List.set_cons_zero, List.set_cons_succ]
                  have q0 := cell_step HBL.out p0
                  have r0 : wL.frozen? ⟨qb, 0, none⟩ = false := (HBL.out.frozen hqb).trans f0
                  generalize (if cap = k then some a else some (a.add (k * 3))) = oD
                  refine oneL 19 (by kernel_rfl) rfl rfl (wp_runs (some 81) (v := .pointer (some ⟨qb, 0, none⟩)) (w' := wL) rfl (by go_simp) ⟨fun _ => seeS p0 HBL.out, ?_⟩)
                  simp only [Act.put, List.setIfInBounds_toArray, List.set_cons_zero, List.set_cons_succ]
                  refine oneL 20 (by kernel_rfl) rfl rfl (wp_runs (some 82) (v := .pointer (some ⟨qb, 0, none⟩)) (w' := wL) rfl (by go_simp) ⟨fun _ => seeS p0 HBL.out, ?_⟩)
                  simp only [Act.put, List.setIfInBounds_toArray, List.set_cons_zero, List.set_cons_succ]
                  generalize 0 + (k) + 1 + (L.length - k) = nL at HRL ⊢
                  refine oneL 21 (by kernel_rfl) rfl rfl (wp_skips none (w' := wL.setCell ⟨qb, 0, none⟩ (.slice oaL nL capL)) rfl (by go_simp) ⟨fun h => absurd rfl h, ?_⟩)
                  simp only [Act.put]
                  refine doneL (by kernel_rfl) ?_
                  go_wp2
                  go_ret
                  obtain ⟨r1, r2⟩ := HV.out.put HBL.out HRL.out hBw HGI.out
                  exact ⟨ret_int HE.out.symm, by rw [HLL.out]; exact r1, (Only.of_below HBA.out).trans r2⟩
            · have hke : k = (low L (d, s)).length := by have := HLOW.out; omega
              have HKE := Lib.hid hke
              have hi1 : decide (k < L.length) = false := decide_eq_false hlt
              clear hk hke
              cases oa with
              | some a =>
                clear hlt
                go_wp2_with fail
                refine held_below (by kernel_rfl) (by kernel_rfl) ?_
                repeat first
                  | (refine held_skip ?_ ?_; (· first | rfl | (go_simp; done)); simp only [Act.put, List.setIfInBounds_toArray, List.set_cons_zero, List.set_cons_succ])
                  | (refine held_val (v := ?_) ?_ ?_ ?_
                     rotate_left
                     · first | rfl | (go_simp; done)
                     · intro wq hq
                       have g0 := cell_step hq p0
                       have g4 := cell_step hq x0
                       go_simp
                       with_reducible rfl
                     simp only [Act.put, List.setIfInBounds_toArray, List.set_cons_zero, List.set_cons_succ])
                refine held_nil ?_
                intro w2 hb2
                obtain ⟨w9, rfl⟩ : ∃ w9, w9 = w2 := ⟨_, rfl⟩
                have HB9 := Lib.hid (bstep HB.out hb2)
                have HBA := Lib.hid (bstep HB4.out HB9.out)
                clear p0 f0 x0 x1 x2
                have HV9 : Hid (QAt w9 qb B (.slice (some a) L.length cap) L) := Lib.hid ⟨(hb2.block qb hqb).trans HV.out.head, HV.out.row.grow hb2, HV.out.good⟩
                have HX9 : Hid (w9.heap[xb]? = some (.cells #[.int .i64 d, .string s, .int .i64 i] 66 (0, 0))) := Lib.hid ((hb2.block xb (lt_of_block HX.out)).trans HX.out)
                clear HV HX HP
                have HV := HV9
                have hBw : B ≤ w9.heap.size := Nat.le_trans hBw hb2.size
                have hqb : qb < w9.heap.size := HV.out.lt
                have HP := Lib.hid (HV.out.row.pts en_len (by omega))
                obtain ⟨p0, f0⟩ := HV.out.v0
                obtain ⟨x0, x1, x2, _, _, _⟩ := new_cells3 HX9.out
                clear hb2
                have HL1 : Hid (((L.take k).flatMap encE).length = k * 3) := Lib.hid (by rw [flat_len en_len, List.length_take, Nat.min_eq_left (by omega)])
                have HL2 : Hid (((L.drop k).flatMap encE).length = (L.length - k) * 3) := Lib.hid (by rw [flat_len en_len, List.length_drop])
                have HLN : Hid ([] ++ (L.take k).flatMap encE ++ (#[.int .i64 d, .string s, .int .i64 i] : Array Value).toList ++ (L.drop k).flatMap encE = (ins L ⟨d, s, i⟩).flatMap encE ∧ 0 + (k) + 1 + (L.length - k) = (ins L ⟨d, s, i⟩).length) := Lib.hid (by
                  rw [HIN.out, ← HKE.out]
                  refine ⟨by simp [encE], ?_⟩
                  rw [List.length_append, List.length_cons, List.length_take, List.length_drop, Nat.min_eq_left (by omega)]; omega)
                have HW1 := Lib.hid fun W (hb : Below w9.heap.size w9 W) => news_take en_len (by omega) (HP.out.below hb) k
                have HW2 := Lib.hid fun W (hb : Below w9.heap.size w9 W) => news_drop en_len (by omega) (HP.out.below hb) hc k
                have hq3 : (k : Int) ≤ (cap : Int) := by omega
                have hq4 : (k : Int) ≤ (L.length : Int) := by omega
                have hq5 : (L.length : Int) ≤ (cap : Int) := by omega
                go_wp2_with fail
                have HS0 := Lib.hid (seeS p0 (Below.refl w9.heap.size w9).drew)
                refine regionL 21 22 (fun w' => w'.cell? ⟨qb, 0, none⟩ = some ((.slice (some a) L.length cap)) ∧ Below w9.heap.size w9 w') (by kernel_rfl) rfl ?_
                refine takeL 0 (some 62) (v := ?_) rfl (by kernel_rfl) (by kernel_rfl) (by kernel_rfl) (by kernel_rfl) (fun _ _ _ h => h) rfl rfl HS0.out ?_ ?_
                rotate_left
                · intro wq hq
                  have g0 := hq.1
                  have g4 := cell_step hq.2 x0
                  have g5 := cell_step hq.2 x1
                  have g6 := cell_step hq.2 x2
                  go_simp
                  with_reducible rfl
                simp only [Act.put, List.setIfInBounds_toArray, List.set_cons_zero, List.set_cons_succ]
                refine takeL 2 (some 64) (v := ?_) rfl (by kernel_rfl) (by kernel_rfl) (by kernel_rfl) (by kernel_rfl) (fun _ _ _ h => h) rfl rfl HS0.out ?_ ?_
                rotate_left
                · intro wq hq
                  have g0 := hq.1
                  have g4 := cell_step hq.2 x0
                  have g5 := cell_step hq.2 x1
                  have g6 := cell_step hq.2 x2
                  go_simp
                  with_reducible rfl
                simp only [Act.put, List.setIfInBounds_toArray, List.set_cons_zero, List.set_cons_succ]
                refine takeL 3 (some 65) (v := ?_) rfl (by kernel_rfl) (by kernel_rfl) (by kernel_rfl) (by kernel_rfl) (fun _ _ _ h => h) rfl rfl HS0.out ?_ ?_
                rotate_left
                · intro wq hq
                  have g0 := hq.1
                  have g4 := cell_step hq.2 x0
                  have g5 := cell_step hq.2 x1
                  have g6 := cell_step hq.2 x2
                  go_simp
                  with_reducible rfl
                simp only [Act.put, List.setIfInBounds_toArray, List.set_cons_zero, List.set_cons_succ]
                refine takeL 4 (some 66) (v := ?_) rfl (by kernel_rfl) (by kernel_rfl) (by kernel_rfl) (by kernel_rfl) (fun _ _ _ h => h) rfl rfl HS0.out ?_ ?_
                rotate_left
                · intro wq hq
                  have g0 := hq.1
                  have g4 := cell_step hq.2 x0
                  have g5 := cell_step hq.2 x1
                  have g6 := cell_step hq.2 x2
                  go_simp
                  with_reducible rfl
                simp only [Act.put, List.setIfInBounds_toArray, List.set_cons_zero, List.set_cons_succ]
                refine takeL 5 (some 67) (v := ?_) rfl (by kernel_rfl) (by kernel_rfl) (by kernel_rfl) (by kernel_rfl) (fun _ _ _ h => h) rfl rfl HS0.out ?_ ?_
                rotate_left
                · intro wq hq
                  have g0 := hq.1
                  have g4 := cell_step hq.2 x0
                  have g5 := cell_step hq.2 x1
                  have g6 := cell_step hq.2 x2
                  go_simp
                  with_reducible rfl
                simp only [Act.put, List.setIfInBounds_toArray, List.set_cons_zero, List.set_cons_succ]
                refine takeL 6 (some 68) (v := ?_) rfl (by kernel_rfl) (by kernel_rfl) (by kernel_rfl) (by kernel_rfl) (fun _ _ _ h => h) rfl rfl HS0.out ?_ ?_
                rotate_left
                · intro wq hq
                  have g0 := hq.1
                  have g4 := cell_step hq.2 x0
                  have g5 := cell_step hq.2 x1
                  have g6 := cell_step hq.2 x2
                  go_simp
                  with_reducible rfl
                simp only [Act.put, List.setIfInBounds_toArray, List.set_cons_zero, List.set_cons_succ]
                refine takeL 7 (some 69) (v := ?_) rfl (by kernel_rfl) (by kernel_rfl) (by kernel_rfl) (by kernel_rfl) (fun _ _ _ h => h) rfl rfl HS0.out ?_ ?_
                rotate_left
                · intro wq hq
                  have g0 := hq.1
                  have g4 := cell_step hq.2 x0
                  have g5 := cell_step hq.2 x1
                  have g6 := cell_step hq.2 x2
                  go_simp
                  with_reducible rfl
                simp only [Act.put, List.setIfInBounds_toArray, List.set_cons_zero, List.set_cons_succ]
                refine takeL 9 (some 71) (v := ?_) rfl (by kernel_rfl) (by kernel_rfl) (by kernel_rfl) (by kernel_rfl) (fun _ _ _ h => h) rfl rfl HS0.out ?_ ?_
                rotate_left
                · intro wq hq
                  have g0 := hq.1
                  have g4 := cell_step hq.2 x0
                  have g5 := cell_step hq.2 x1
                  have g6 := cell_step hq.2 x2
                  go_simp
                  with_reducible rfl
                simp only [Act.put, List.setIfInBounds_toArray, List.set_cons_zero, List.set_cons_succ]
                refine takeL 12 (some 74) (v := ?_) rfl (by kernel_rfl) (by kernel_rfl) (by kernel_rfl) (by kernel_rfl) (fun _ _ _ h => h) rfl rfl HS0.out ?_ ?_
                rotate_left
                · intro wq hq
                  have g0 := hq.1
                  have g4 := cell_step hq.2 x0
                  have g5 := cell_step hq.2 x1
                  have g6 := cell_step hq.2 x2
                  go_simp
                  with_reducible rfl
                simp only [Act.put, List.setIfInBounds_toArray, List.set_cons_zero, List.set_cons_succ]
                refine takeL 13 (some 75) (v := ?_) rfl (by kernel_rfl) (by kernel_rfl) (by kernel_rfl) (by kernel_rfl) (fun _ _ _ h => h) rfl rfl HS0.out ?_ ?_
                rotate_left
                · intro wq hq
                  have g0 := hq.1
                  have g4 := cell_step hq.2 x0
                  have g5 := cell_step hq.2 x1
                  have g6 := cell_step hq.2 x2
                  go_simp
                  with_reducible rfl
                simp only [Act.put, List.setIfInBounds_toArray, List.set_cons_zero, List.set_cons_succ]
                refine takeL 14 (some 76) (v := ?_) rfl (by kernel_rfl) (by kernel_rfl) (by kernel_rfl) (by kernel_rfl) (fun _ _ _ h => h) rfl rfl HS0.out ?_ ?_
                rotate_left
                · intro wq hq
                  have g0 := hq.1
                  have g4 := cell_step hq.2 x0
                  have g5 := cell_step hq.2 x1
                  have g6 := cell_step hq.2 x2
                  go_simp
                  with_reducible rfl
                simp only [Act.put, List.setIfInBounds_toArray, List.set_cons_zero, List.set_cons_succ]
                refine takeL 15 (some 77) (v := ?_) rfl (by kernel_rfl) (by kernel_rfl) (by kernel_rfl) (by kernel_rfl) (fun _ _ _ h => h) rfl rfl HS0.out ?_ ?_
                rotate_left
                · intro wq hq
                  have g0 := hq.1
                  have g4 := cell_step hq.2 x0
                  have g5 := cell_step hq.2 x1
                  have g6 := cell_step hq.2 x2
                  go_simp
                  with_reducible rfl
                simp only [Act.put, List.setIfInBounds_toArray, List.set_cons_zero, List.set_cons_succ]
                refine takeL 16 (some 78) (v := ?_) rfl (by kernel_rfl) (by kernel_rfl) (by kernel_rfl) (by kernel_rfl) (fun _ _ _ h => h) rfl rfl HS0.out ?_ ?_
                rotate_left
                · intro wq hq
                  have g0 := hq.1
                  have g4 := cell_step hq.2 x0
                  have g5 := cell_step hq.2 x1
                  have g6 := cell_step hq.2 x2
                  go_simp
                  with_reducible rfl
                simp only [Act.put, List.setIfInBounds_toArray, List.set_cons_zero, List.set_cons_succ]
                refine takeL 17 (some 79) (v := ?_) rfl (by kernel_rfl) (by kernel_rfl) (by kernel_rfl) (by kernel_rfl) (fun _ _ _ h => h) rfl rfl HS0.out ?_ ?_
                rotate_left
                · intro wq hq
                  have g0 := hq.1
                  have g4 := cell_step hq.2 x0
                  have g5 := cell_step hq.2 x1
                  have g6 := cell_step hq.2 x2
                  go_simp
                  with_reducible rfl
                simp only [Act.put, List.setIfInBounds_toArray, List.set_cons_zero, List.set_cons_succ]
                refine twoL 1 10 (by kernel_rfl) rfl rfl rfl rfl (wp_runs (some 63) (v := .slice (some ⟨w9.heap.size, 0, none⟩) 0 0) (w' := (w9.alloc (.cells #[] 66)).drew) rfl (by go_simp) ⟨fun _ => seeS p0 (below_alloc w9 _).drew, ?_⟩) (wp_runs (some 72) (v := .slice (some ⟨w9.heap.size, 0, none⟩) 1 1) (w' := (w9.alloc (.cells #[.int .i64 d, .string s, .int .i64 i] 66)).drew) rfl (by go_simp) ⟨fun _ => seeS p0 (below_alloc w9 _).drew, ?_⟩)
                · simp only [Act.put, List.setIfInBounds_toArray, List.set_cons_zero, List.set_cons_succ]
                  refine twoL 8 10 (by kernel_rfl) rfl rfl rfl rfl (wp_append_both (some 70) rfl rfl _ _ 42 rfl w9.heap.size 66 i0 (.agg #[.int .i64 0, .string ByteArray.empty, .int .i64 0]) 3 32 Try.underlying42 hi hz0 hz1 hz2 rfl (by decide) _ (.slice (some ⟨w9.heap.size, 0, none⟩) 0 0) (0) ([]) rfl (own_empty_at (W := w9.drew) rfl _ _ _ (Nat.le_refl _)) (some a) (k) (cap) ((L.take k).flatMap encE) rfl (fun e => by cases e) HL1.out (HW1.out _ (below_alloc w9 _).drew) (flat_one _) (by unfold maxLen; omega) (by omega) (below_alloc w9 _).drew.size ?_) (wp_runs (some 72) (v := .slice (some ⟨w9.heap.size + 1, 0, none⟩) 1 1) (w' := ((w9.alloc (.cells #[] 66)).alloc (.cells #[.int .i64 d, .string s, .int .i64 i] 66)).drew) rfl (by go_simp) ⟨fun _ => seeS p0 ((below_alloc w9 (.cells #[] 66)).trans ((below_alloc (w9.alloc (.cells #[] 66)) (.cells #[.int .i64 d, .string s, .int .i64 i] 66)).mono (by simp))).drew, ?_⟩)
                  · intro oa1 cap1 w1 h1 h2 h3
                    have HR1 := Lib.hid h1
                    have HB1 := Lib.hid ((below_alloc w9 _).drew.trans h2)
                    clear h1 h2 h3
                    refine ⟨fun _ => seeS p0 HB1.out, ?_⟩
                    simp only [Act.put, List.setIfInBounds_toArray, List.set_cons_zero, List.set_cons_succ]
                    refine oneL 10 (by kernel_rfl) rfl rfl (wp_runs (some 72) (v := .slice (some ⟨w1.heap.size, 0, none⟩) 1 1) (w' := w1.alloc (.cells #[.int .i64 d, .string s, .int .i64 i] 66)) rfl (by go_simp) ⟨fun _ => seeS p0 (HB1.out.trans ((below_alloc w1 _).mono HB1.out.size)), ?_⟩)
                    simp only [Act.put, List.setIfInBounds_toArray, List.set_cons_zero, List.set_cons_succ]
                    refine oneL 11 (by kernel_rfl) rfl rfl (wp_append_both (some 73) rfl rfl _ _ 42 rfl w9.heap.size 66 i0 (.agg #[.int .i64 0, .string ByteArray.empty, .int .i64 0]) 3 32 Try.underlying42 hi hz0 hz1 hz2 rfl (by decide) _ (.slice oa1 (0 + (k)) cap1) (0 + (k)) ([] ++ ((L.take k).flatMap encE)) rfl (own_grow HR1.out (below_alloc w1 _)) (some ⟨w1.heap.size, 0, none⟩) (1) (1) ((#[.int .i64 d, .string s, .int .i64 i] : Array Value).toList) rfl (fun e => by cases e) rfl (fun ad e => by cases e; exact World.news_of_block (heap_alloc_new w1 _)) (en_one ⟨d, s, i⟩) (by unfold maxLen; omega) (by omega) (by have := HB1.out.size; simp; omega) ?_)
                    intro oa2 cap2 w2 h1 h2 h3
                    have HR2 := Lib.hid h1
                    have HB2 := Lib.hid ((HB1.out.trans ((below_alloc w1 _).mono HB1.out.size)).trans h2)
                    clear h1 h2 h3
                    refine ⟨fun _ => seeS p0 HB2.out, ?_⟩
                    simp only [Act.put, List.setIfInBounds_toArray, List.set_cons_zero, List.set_cons_succ]
                    refine oneL 18 (by kernel_rfl) rfl rfl (wp_append_both (some 80) rfl rfl _ _ 42 rfl w9.heap.size 66 i0 (.agg #[.int .i64 0, .string ByteArray.empty, .int .i64 0]) 3 32 Try.underlying42 hi hz0 hz1 hz2 rfl (by decide) _ (.slice oa2 (0 + (k) + 1) cap2) (0 + (k) + 1) ([] ++ ((L.take k).flatMap encE) ++ ((#[.int .i64 d, .string s, .int .i64 i] : Array Value).toList)) rfl HR2.out (if cap = k then some a else some (a.add (k * 3))) (L.length - k) ((cap - k)) ((L.drop k).flatMap encE) rfl (fun e => by split at e <;> cases e) HL2.out (HW2.out _ HB2.out) (flat_one _) (by unfold maxLen; omega) (by omega) HB2.out.size ?_)
                    intro oaL capL wL h1 h2 h3
                    have HRL : Hid (RowK 66 encE 3 w9.heap.size wL (.slice oaL (0 + (k) + 1 + (L.length - k)) capL) (ins L ⟨d, s, i⟩)) := Lib.hid (own_row h1 HLN.out)
                    have HBL := Lib.hid (HB2.out.trans h2)
                    clear h1 h2 h3
                    refine ⟨fun _ => seeS p0 HBL.out, ?_⟩
                    simp only [Act.put, List.setIfInBounds_toArray, List.set_cons_zero, List.set_cons_succ]
                    have q0 := cell_step HBL.out p0
                    have r0 : wL.frozen? ⟨qb, 0, none⟩ = false := (HBL.out.frozen hqb).trans f0
                    generalize (if cap = k then some a else some (a.add (k * 3))) = oD
                    refine oneL 19 (by kernel_rfl) rfl rfl (wp_runs (some 81) (v := .pointer (some ⟨qb, 0, none⟩)) (w' := wL) rfl (by go_simp) ⟨fun _ => seeS p0 HBL.out, ?_⟩)
                    simp only [Act.put, List.setIfInBounds_toArray, List.set_cons_zero, List.set_cons_succ]
                    refine oneL 20 (by kernel_rfl) rfl rfl (wp_runs (some 82) (v := .pointer (some ⟨qb, 0, none⟩)) (w' := wL) rfl (by go_simp) ⟨fun _ => seeS p0 HBL.out, ?_⟩)
                    simp only [Act.put, List.setIfInBounds_toArray, List.set_cons_zero, List.set_cons_succ]
                    generalize 0 + (k) + 1 + (L.length - k) = nL at HRL ⊢
                    refine oneL 21 (by kernel_rfl) rfl rfl (wp_skips none (w' := wL.setCell ⟨qb, 0, none⟩ (.slice oaL nL capL)) rfl (by go_simp) ⟨fun h => absurd rfl h, ?_⟩)
                    simp only [Act.put]
                    refine doneL (by kernel_rfl) ?_
                    go_wp2
                    go_ret
                    obtain ⟨r1, r2⟩ := HV.out.put HBL.out HRL.out hBw HGI.out
                    exact ⟨ret_int HE.out.symm, by rw [HLL.out]; exact r1, (Only.of_below HBA.out).trans r2⟩
                  · simp only [Act.put, List.setIfInBounds_toArray, List.set_cons_zero, List.set_cons_succ]
                    refine oneL 8 (by kernel_rfl) rfl rfl (wp_append_both (some 70) rfl rfl _ _ 42 rfl w9.heap.size 66 i0 (.agg #[.int .i64 0, .string ByteArray.empty, .int .i64 0]) 3 32 Try.underlying42 hi hz0 hz1 hz2 rfl (by decide) _ (.slice (some ⟨w9.heap.size, 0, none⟩) 0 0) (0) ([]) rfl (own_grow (own_empty_at (W := w9.drew) rfl _ _ _ (Nat.le_refl _)) (below_alloc _ _)) (some a) (k) (cap) ((L.take k).flatMap encE) rfl (fun e => by cases e) HL1.out (HW1.out _ ((below_alloc w9 (.cells #[] 66)).trans ((below_alloc (w9.alloc (.cells #[] 66)) (.cells #[.int .i64 d, .string s, .int .i64 i] 66)).mono (by simp))).drew) (flat_one _) (by unfold maxLen; omega) (by omega) (by simp; omega) ?_)
                    intro oa1 cap1 w1 h1 h2 h3
                    have HR1 := Lib.hid h1
                    have HX1 : Hid (w1.heap[w9.heap.size + 1]? = some (.cells #[.int .i64 d, .string s, .int .i64 i] 66)) := Lib.hid ((h3.block _ (by simp) (by simp [Value.ownBlock])).trans (by have := heap_alloc_new (w9.alloc (.cells #[] 66)) (.cells #[.int .i64 d, .string s, .int .i64 i] 66); rw [show (w9.alloc (.cells #[] 66)).heap.size = w9.heap.size + 1 by simp] at this; exact this))
                    have HB1 := Lib.hid (((below_alloc w9 (.cells #[] 66)).trans ((below_alloc (w9.alloc (.cells #[] 66)) (.cells #[.int .i64 d, .string s, .int .i64 i] 66)).mono (by simp))).drew.trans h2)
                    clear h1 h2 h3
                    refine ⟨fun _ => seeS p0 HB1.out, ?_⟩
                    simp only [Act.put, List.setIfInBounds_toArray, List.set_cons_zero, List.set_cons_succ]
                    refine oneL 11 (by kernel_rfl) rfl rfl (wp_append_both (some 73) rfl rfl _ _ 42 rfl w9.heap.size 66 i0 (.agg #[.int .i64 0, .string ByteArray.empty, .int .i64 0]) 3 32 Try.underlying42 hi hz0 hz1 hz2 rfl (by decide) _ (.slice oa1 (0 + (k)) cap1) (0 + (k)) ([] ++ ((L.take k).flatMap encE)) rfl HR1.out (some ⟨w9.heap.size + 1, 0, none⟩) (1) (1) ((#[.int .i64 d, .string s, .int .i64 i] : Array Value).toList) rfl (fun e => by cases e) rfl (fun ad e => by cases e; exact World.news_of_block HX1.out) (en_one ⟨d, s, i⟩) (by unfold maxLen; omega) (by omega) HB1.out.size ?_)
                    intro oa2 cap2 w2 h1 h2 h3
                    have HR2 := Lib.hid h1
                    have HB2 := Lib.hid (HB1.out.trans h2)
                    clear h1 h2 h3
                    refine ⟨fun _ => seeS p0 HB2.out, ?_⟩
                    simp only [Act.put, List.setIfInBounds_toArray, List.set_cons_zero, List.set_cons_succ]
                    refine oneL 18 (by kernel_rfl) rfl rfl (wp_append_both (some 80) rfl rfl _ _ 42 rfl w9.heap.size 66 i0 (.agg #[.int .i64 0, .string ByteArray.empty, .int .i64 0]) 3 32 Try.underlying42 hi hz0 hz1 hz2 rfl (by decide) _ (.slice oa2 (0 + (k) + 1) cap2) (0 + (k) + 1) ([] ++ ((L.take k).flatMap encE) ++ ((#[.int .i64 d, .string s, .int .i64 i] : Array Value).toList)) rfl HR2.out (if cap = k then some a else some (a.add (k * 3))) (L.length - k) ((cap - k)) ((L.drop k).flatMap encE) rfl (fun e => by split at e <;> cases e) HL2.out (HW2.out _ HB2.out) (flat_one _) (by unfold maxLen; omega) (by omega) HB2.out.size ?_)
                    intro oaL capL wL h1 h2 h3
                    have HRL : Hid (RowK 66 encE 3 w9.heap.size wL (.slice oaL (0 + (k) + 1 + (L.length - k)) capL) (ins L ⟨d, s, i⟩)) := Lib.hid (own_row h1 HLN.out)
                    have HBL := Lib.hid (HB2.out.trans h2)
                    clear h1 h2 h3
                    refine ⟨fun _ => seeS p0 HBL.out, ?_⟩
                    simp only [Act.put, List.setIfInBounds_toArray, List.set_cons_zero, List.set_cons_succ]
                    have q0 := cell_step HBL.out p0
                    have r0 : wL.frozen? ⟨qb, 0, none⟩ = false := (HBL.out.frozen hqb).trans f0
                    generalize (if cap = k then some a else some (a.add (k * 3))) = oD
                    refine oneL 19 (by kernel_rfl) rfl rfl (wp_runs (some 81) (v := .pointer (some ⟨qb, 0, none⟩)) (w' := wL) rfl (by go_simp) ⟨fun _ => seeS p0 HBL.out, ?_⟩)
                    simp only [Act.put, List.setIfInBounds_toArray, List.set_cons_zero, List.set_cons_succ]
                    refine oneL 20 (by kernel_rfl) rfl rfl (wp_runs (some 82) (v := .pointer (some ⟨qb, 0, none⟩)) (w' := wL) rfl (by go_simp) ⟨fun _ => seeS p0 HBL.out, ?_⟩)
                    simp only [Act.put, List.setIfInBounds_toArray, List.set_cons_zero, List.set_cons_succ]
                    generalize 0 + (k) + 1 + (L.length - k) = nL at HRL ⊢
                    refine oneL 21 (by kernel_rfl) rfl rfl (wp_skips none (w' := wL.setCell ⟨qb, 0, none⟩ (.slice oaL nL capL)) rfl (by go_simp) ⟨fun h => absurd rfl h, ?_⟩)
                    simp only [Act.put]
                    refine doneL (by kernel_rfl) ?_
                    go_wp2
                    go_ret
                    obtain ⟨r1, r2⟩ := HV.out.put HBL.out HRL.out hBw HGI.out
                    exact ⟨ret_int HE.out.symm, by rw [HLL.out]; exact r1, (Only.of_below HBA.out).trans r2⟩
                · simp only [Act.put, List.setIfInBounds_toArray, List.set_cons_zero, List.set_cons_succ]
                  refine oneL 1 (by kernel_rfl) rfl rfl (wp_runs (some 63) (v := .slice (some ⟨w9.heap.size + 1, 0, none⟩) 0 0) (w' := ((w9.alloc (.cells #[.int .i64 d, .string s, .int .i64 i] 66)).alloc (.cells #[] 66)).drew) rfl (by go_simp) ⟨fun _ => seeS p0 ((below_alloc w9 (.cells #[.int .i64 d, .string s, .int .i64 i] 66)).trans ((below_alloc (w9.alloc (.cells #[.int .i64 d, .string s, .int .i64 i] 66)) (.cells #[] 66)).mono (by simp))).drew, ?_⟩)
                  simp only [Act.put, List.setIfInBounds_toArray, List.set_cons_zero, List.set_cons_succ]
                  refine oneL 8 (by kernel_rfl) rfl rfl (wp_append_both (some 70) rfl rfl _ _ 42 rfl w9.heap.size 66 i0 (.agg #[.int .i64 0, .string ByteArray.empty, .int .i64 0]) 3 32 Try.underlying42 hi hz0 hz1 hz2 rfl (by decide) _ (.slice (some ⟨w9.heap.size + 1, 0, none⟩) 0 0) (0) ([]) rfl (own_empty_at (W := (w9.alloc (.cells #[.int .i64 d, .string s, .int .i64 i] 66)).drew) (by simp) _ _ _ (by omega)) (some a) (k) (cap) ((L.take k).flatMap encE) rfl (fun e => by cases e) HL1.out (HW1.out _ ((below_alloc w9 (.cells #[.int .i64 d, .string s, .int .i64 i] 66)).trans ((below_alloc (w9.alloc (.cells #[.int .i64 d, .string s, .int .i64 i] 66)) (.cells #[] 66)).mono (by simp))).drew) (flat_one _) (by unfold maxLen; omega) (by omega) (by simp; omega) ?_)
                  intro oa1 cap1 w1 h1 h2 h3
                  have HR1 := Lib.hid h1
                  have HX1 : Hid (w1.heap[w9.heap.size]? = some (.cells #[.int .i64 d, .string s, .int .i64 i] 66)) := Lib.hid ((h3.block _ (by simp; omega) (by simp [Value.ownBlock])).trans ((Below.heap_alloc (w9.alloc (.cells #[.int .i64 d, .string s, .int .i64 i] 66)) (.cells #[] 66) _ (by simp)).trans (heap_alloc_new w9 _)))
                  have HB1 := Lib.hid (((below_alloc w9 (.cells #[.int .i64 d, .string s, .int .i64 i] 66)).trans ((below_alloc (w9.alloc (.cells #[.int .i64 d, .string s, .int .i64 i] 66)) (.cells #[] 66)).mono (by simp))).drew.trans h2)
                  clear h1 h2 h3
                  refine ⟨fun _ => seeS p0 HB1.out, ?_⟩
                  simp only [Act.put, List.setIfInBounds_toArray, List.set_cons_zero, List.set_cons_succ]
                  refine oneL 11 (by kernel_rfl) rfl rfl (wp_append_both (some 73) rfl rfl _ _ 42 rfl w9.heap.size 66 i0 (.agg #[.int .i64 0, .string ByteArray.empty, .int .i64 0]) 3 32 Try.underlying42 hi hz0 hz1 hz2 rfl (by decide) _ (.slice oa1 (0 + (k)) cap1) (0 + (k)) ([] ++ ((L.take k).flatMap encE)) rfl HR1.out (some ⟨w9.heap.size, 0, none⟩) (1) (1) ((#[.int .i64 d, .string s, .int .i64 i] : Array Value).toList) rfl (fun e => by cases e) rfl (fun ad e => by cases e; exact World.news_of_block HX1.out) (en_one ⟨d, s, i⟩) (by unfold maxLen; omega) (by omega) HB1.out.size ?_)
                  intro oa2 cap2 w2 h1 h2 h3
                  have HR2 := Lib.hid h1
                  have HB2 := Lib.hid (HB1.out.trans h2)
                  clear h1 h2 h3
                  refine ⟨fun _ => seeS p0 HB2.out, ?_⟩
                  simp only [Act.put, List.setIfInBounds_toArray, List.set_cons_zero, List.set_cons_succ]
                  refine oneL 18 (by kernel_rfl) rfl rfl (wp_append_both (some 80) rfl rfl _ _ 42 rfl w9.heap.size 66 i0 (.agg #[.int .i64 0, .string ByteArray.empty, .int .i64 0]) 3 32 Try.underlying42 hi hz0 hz1 hz2 rfl (by decide) _ (.slice oa2 (0 + (k) + 1) cap2) (0 + (k) + 1) ([] ++ ((L.take k).flatMap encE) ++ ((#[.int .i64 d, .string s, .int .i64 i] : Array Value).toList)) rfl HR2.out (if cap = k then some a else some (a.add (k * 3))) (L.length - k) ((cap - k)) ((L.drop k).flatMap encE) rfl (fun e => by split at e <;> cases e) HL2.out (HW2.out _ HB2.out) (flat_one _) (by unfold maxLen; omega) (by omega) HB2.out.size ?_)
                  intro oaL capL wL h1 h2 h3
                  have HRL : Hid (RowK 66 encE 3 w9.heap.size wL (.slice oaL (0 + (k) + 1 + (L.length - k)) capL) (ins L ⟨d, s, i⟩)) := Lib.hid (own_row h1 HLN.out)
                  have HBL := Lib.hid (HB2.out.trans h2)
                  clear h1 h2 h3
                  refine ⟨fun _ => seeS p0 HBL.out, ?_⟩
                  simp only [Act.put, List.setIfInBounds_toArray, List.set_cons_zero, List.set_cons_succ]
                  have q0 := cell_step HBL.out p0
                  have r0 : wL.frozen? ⟨qb, 0, none⟩ = false := (HBL.out.frozen hqb).trans f0
                  generalize (if cap = k then some a else some (a.add (k * 3))) = oD
                  refine oneL 19 (by kernel_rfl) rfl rfl (wp_runs (some 81) (v := .pointer (some ⟨qb, 0, none⟩)) (w' := wL) rfl (by go_simp) ⟨fun _ => seeS p0 HBL.out, ?_⟩)
                  simp only [Act.put, List.setIfInBounds_toArray, List.set_cons_zero, List.set_cons_succ]
                  refine oneL 20 (by kernel_rfl) rfl rfl (wp_runs (some 82) (v := .pointer (some ⟨qb, 0, none⟩)) (w' := wL) rfl (by go_simp) ⟨fun _ => seeS p0 HBL.out, ?_⟩)
                  simp only [Act.put, List.setIfInBounds_toArray, List.set_cons_zero, List.set_cons_succ]
                  generalize 0 + (k) + 1 + (L.length - k) = nL at HRL ⊢
                  refine oneL 21 (by kernel_rfl) rfl rfl (wp_skips none (w' := wL.setCell ⟨qb, 0, none⟩ (.slice oaL nL capL)) rfl (by go_simp) ⟨fun h => absurd rfl h, ?_⟩)
                  simp only [Act.put]
                  refine doneL (by kernel_rfl) ?_
                  go_wp2
                  go_ret
                  obtain ⟨r1, r2⟩ := HV.out.put HBL.out HRL.out hBw HGI.out
                  exact ⟨ret_int HE.out.symm, by rw [HLL.out]; exact r1, (Only.of_below HBA.out).trans r2⟩
              | none =>
                obtain ⟨hL0, rfl⟩ := hnone rfl
                obtain rfl : L = [] := List.eq_nil_of_length_eq_zero hL0
                obtain rfl : k = 0 := by simpa using hkl
                simp only [List.length_nil] at *
                clear hlt hnone hL0
                go_wp2_with fail
                refine held_below (by kernel_rfl) (by kernel_rfl) ?_
                repeat first
                  | (refine held_skip ?_ ?_; (· first | rfl | (go_simp; done)); simp only [Act.put, List.setIfInBounds_toArray, List.set_cons_zero, List.set_cons_succ])
                  | (refine held_val (v := ?_) ?_ ?_ ?_
                     rotate_left
                     · first | rfl | (go_simp; done)
                     · intro wq hq
                       have g0 := cell_step hq p0
                       have g4 := cell_step hq x0
                       go_simp
                       with_reducible rfl
                     simp only [Act.put, List.setIfInBounds_toArray, List.set_cons_zero, List.set_cons_succ])
                refine held_nil ?_
                intro w2 hb2
                obtain ⟨w9, rfl⟩ : ∃ w9, w9 = w2 := ⟨_, rfl⟩
                have HB9 := Lib.hid (bstep HB.out hb2)
                have HBA := Lib.hid (bstep HB4.out HB9.out)
                clear p0 f0 x0 x1 x2
                have HV9 : Hid (QAt w9 qb B (.slice none 0 0) []) := Lib.hid ⟨(hb2.block qb hqb).trans HV.out.head, HV.out.row.grow hb2, HV.out.good⟩
                have HX9 : Hid (w9.heap[xb]? = some (.cells #[.int .i64 d, .string s, .int .i64 i] 66 (0, 0))) := Lib.hid ((hb2.block xb (lt_of_block HX.out)).trans HX.out)
                clear HV HX HP
                have HV := HV9
                have hBw : B ≤ w9.heap.size := Nat.le_trans hBw hb2.size
                have hqb : qb < w9.heap.size := HV.out.lt
                have HP := Lib.hid (HV.out.row.pts en_len (by omega))
                obtain ⟨p0, f0⟩ := HV.out.v0
                obtain ⟨x0, x1, x2, _, _, _⟩ := new_cells3 HX9.out
                clear hb2
                have HL1 : Hid ((([] : List En).flatMap encE).length = 0 * 3) := Lib.hid rfl
                have HL2 : Hid ((([] : List En).flatMap encE).length = 0 * 3) := Lib.hid rfl
                have HLN : Hid ([] ++ ([] : List En).flatMap encE ++ (#[.int .i64 d, .string s, .int .i64 i] : Array Value).toList ++ ([] : List En).flatMap encE = (ins [] ⟨d, s, i⟩).flatMap encE ∧ 0 + (0) + 1 + (0) = (ins [] ⟨d, s, i⟩).length) := Lib.hid ⟨by rfl, by rfl⟩
                have HW1 : Hid (∀ W, Below w9.heap.size w9 W → ∀ ad, (none : Option Addr) = some ad → ∀ j u, (([] : List En).flatMap encE)[j]? = some u → W.cell? (ad.add j) = some u) := Lib.hid (fun _ _ _ e => by cases e)
                have HW2 := Lib.hid HW1.out
                go_wp2_with fail
                have HS0 := Lib.hid (seeS p0 (Below.refl w9.heap.size w9).drew)
                refine regionL 21 22 (fun w' => w'.cell? ⟨qb, 0, none⟩ = some ((.slice none 0 0)) ∧ Below w9.heap.size w9 w') (by kernel_rfl) rfl ?_
                refine takeL 0 (some 62) (v := ?_) rfl (by kernel_rfl) (by kernel_rfl) (by kernel_rfl) (by kernel_rfl) (fun _ _ _ h => h) rfl rfl HS0.out ?_ ?_
                rotate_left
                · intro wq hq
                  have g0 := hq.1
                  have g4 := cell_step hq.2 x0
                  have g5 := cell_step hq.2 x1
                  have g6 := cell_step hq.2 x2
                  go_simp
                  with_reducible rfl
                simp only [Act.put, List.setIfInBounds_toArray, List.set_cons_zero, List.set_cons_succ]
                refine takeL 2 (some 64) (v := ?_) rfl (by kernel_rfl) (by kernel_rfl) (by kernel_rfl) (by kernel_rfl) (fun _ _ _ h => h) rfl rfl HS0.out ?_ ?_
                rotate_left
                · intro wq hq
                  have g0 := hq.1
                  have g4 := cell_step hq.2 x0
                  have g5 := cell_step hq.2 x1
                  have g6 := cell_step hq.2 x2
                  go_simp
                  with_reducible rfl
                simp only [Act.put, List.setIfInBounds_toArray, List.set_cons_zero, List.set_cons_succ]
                refine takeL 3 (some 65) (v := ?_) rfl (by kernel_rfl) (by kernel_rfl) (by kernel_rfl) (by kernel_rfl) (fun _ _ _ h => h) rfl rfl HS0.out ?_ ?_
                rotate_left
                · intro wq hq
                  have g0 := hq.1
                  have g4 := cell_step hq.2 x0
                  have g5 := cell_step hq.2 x1
                  have g6 := cell_step hq.2 x2
                  go_simp
                  with_reducible rfl
                simp only [Act.put, List.setIfInBounds_toArray, List.set_cons_zero, List.set_cons_succ]
                refine takeL 4 (some 66) (v := ?_) rfl (by kernel_rfl) (by kernel_rfl) (by kernel_rfl) (by kernel_rfl) (fun _ _ _ h => h) rfl rfl HS0.out ?_ ?_
                rotate_left
                · intro wq hq
                  have g0 := hq.1
                  have g4 := cell_step hq.2 x0
                  have g5 := cell_step hq.2 x1
                  have g6 := cell_step hq.2 x2
                  go_simp
                  with_reducible rfl
                simp only [Act.put, List.setIfInBounds_toArray, List.set_cons_zero, List.set_cons_succ]
                refine takeL 5 (some 67) (v := ?_) rfl (by kernel_rfl) (by kernel_rfl) (by kernel_rfl) (by kernel_rfl) (fun _ _ _ h => h) rfl rfl HS0.out ?_ ?_
                rotate_left
                · intro wq hq
                  have g0 := hq.1
                  have g4 := cell_step hq.2 x0
                  have g5 := cell_step hq.2 x1
                  have g6 := cell_step hq.2 x2
                  go_simp
                  with_reducible rfl
                simp only [Act.put, List.setIfInBounds_toArray, List.set_cons_zero, List.set_cons_succ]
                refine takeL 6 (some 68) (v := ?_) rfl (by kernel_rfl) (by kernel_rfl) (by kernel_rfl) (by kernel_rfl) (fun _ _ _ h => h) rfl rfl HS0.out ?_ ?_
                rotate_left
                · intro wq hq
                  have g0 := hq.1
                  have g4 := cell_step hq.2 x0
                  have g5 := cell_step hq.2 x1
                  have g6 := cell_step hq.2 x2
                  go_simp
                  with_reducible rfl
                simp only [Act.put, List.setIfInBounds_toArray, List.set_cons_zero, List.set_cons_succ]
                refine takeL 7 (some 69) (v := ?_) rfl (by kernel_rfl) (by kernel_rfl) (by kernel_rfl) (by kernel_rfl) (fun _ _ _ h => h) rfl rfl HS0.out ?_ ?_
                rotate_left
                · intro wq hq
                  have g0 := hq.1
                  have g4 := cell_step hq.2 x0
                  have g5 := cell_step hq.2 x1
                  have g6 := cell_step hq.2 x2
                  go_simp
                  with_reducible rfl
                simp only [Act.put, List.setIfInBounds_toArray, List.set_cons_zero, List.set_cons_succ]
                refine takeL 9 (some 71) (v := ?_) rfl (by kernel_rfl) (by kernel_rfl) (by kernel_rfl) (by kernel_rfl) (fun _ _ _ h => h) rfl rfl HS0.out ?_ ?_
                rotate_left
                · intro wq hq
                  have g0 := hq.1
                  have g4 := cell_step hq.2 x0
                  have g5 := cell_step hq.2 x1
                  have g6 := cell_step hq.2 x2
                  go_simp
                  with_reducible rfl
                simp only [Act.put, List.setIfInBounds_toArray, List.set_cons_zero, List.set_cons_succ]
                refine takeL 12 (some 74) (v := ?_) rfl (by kernel_rfl) (by kernel_rfl) (by kernel_rfl) (by kernel_rfl) (fun _ _ _ h => h) rfl rfl HS0.out ?_ ?_
                rotate_left
                · intro wq hq
                  have g0 := hq.1
                  have g4 := cell_step hq.2 x0
                  have g5 := cell_step hq.2 x1
                  have g6 := cell_step hq.2 x2
                  go_simp
                  with_reducible rfl
                simp only [Act.put, List.setIfInBounds_toArray, List.set_cons_zero, List.set_cons_succ]
                refine takeL 13 (some 75) (v := ?_) rfl (by kernel_rfl) (by kernel_rfl) (by kernel_rfl) (by kernel_rfl) (fun _ _ _ h => h) rfl rfl HS0.out ?_ ?_
                rotate_left
                · intro wq hq
                  have g0 := hq.1
                  have g4 := cell_step hq.2 x0
                  have g5 := cell_step hq.2 x1
                  have g6 := cell_step hq.2 x2
                  go_simp
                  with_reducible rfl
                simp only [Act.put, List.setIfInBounds_toArray, List.set_cons_zero, List.set_cons_succ]
                refine takeL 14 (some 76) (v := ?_) rfl (by kernel_rfl) (by kernel_rfl) (by kernel_rfl) (by kernel_rfl) (fun _ _ _ h => h) rfl rfl HS0.out ?_ ?_
                rotate_left
                · intro wq hq
                  have g0 := hq.1
                  have g4 := cell_step hq.2 x0
                  have g5 := cell_step hq.2 x1
                  have g6 := cell_step hq.2 x2
                  go_simp
                  with_reducible rfl
                simp only [Act.put, List.setIfInBounds_toArray, List.set_cons_zero, List.set_cons_succ]
                refine takeL 15 (some 77) (v := ?_) rfl (by kernel_rfl) (by kernel_rfl) (by kernel_rfl) (by kernel_rfl) (fun _ _ _ h => h) rfl rfl HS0.out ?_ ?_
                rotate_left
                · intro wq hq
                  have g0 := hq.1
                  have g4 := cell_step hq.2 x0
                  have g5 := cell_step hq.2 x1
                  have g6 := cell_step hq.2 x2
                  go_simp
                  with_reducible rfl
                simp only [Act.put, List.setIfInBounds_toArray, List.set_cons_zero, List.set_cons_succ]
                refine takeL 16 (some 78) (v := ?_) rfl (by kernel_rfl) (by kernel_rfl) (by kernel_rfl) (by kernel_rfl) (fun _ _ _ h => h) rfl rfl HS0.out ?_ ?_
                rotate_left
                · intro wq hq
                  have g0 := hq.1
                  have g4 := cell_step hq.2 x0
                  have g5 := cell_step hq.2 x1
                  have g6 := cell_step hq.2 x2
                  go_simp
                  with_reducible rfl
                simp only [Act.put, List.setIfInBounds_toArray, List.set_cons_zero, List.set_cons_succ]
                refine takeL 17 (some 79) (v := ?_) rfl (by kernel_rfl) (by kernel_rfl) (by kernel_rfl) (by kernel_rfl) (fun _ _ _ h => h) rfl rfl HS0.out ?_ ?_
                rotate_left
                · intro wq hq
                  have g0 := hq.1
                  have g4 := cell_step hq.2 x0
                  have g5 := cell_step hq.2 x1
                  have g6 := cell_step hq.2 x2
                  go_simp
                  with_reducible rfl
                simp only [Act.put, List.setIfInBounds_toArray, List.set_cons_zero, List.set_cons_succ]
                refine twoL 1 10 (by kernel_rfl) rfl rfl rfl rfl (wp_runs (some 63) (v := .slice (some ⟨w9.heap.size, 0, none⟩) 0 0) (w' := (w9.alloc (.cells #[] 66)).drew) rfl (by go_simp) ⟨fun _ => seeS p0 (below_alloc w9 _).drew, ?_⟩) (wp_runs (some 72) (v := .slice (some ⟨w9.heap.size, 0, none⟩) 1 1) (w' := (w9.alloc (.cells #[.int .i64 d, .string s, .int .i64 i] 66)).drew) rfl (by go_simp) ⟨fun _ => seeS p0 (below_alloc w9 _).drew, ?_⟩)
                · simp only [Act.put, List.setIfInBounds_toArray, List.set_cons_zero, List.set_cons_succ]
                  refine twoL 8 10 (by kernel_rfl) rfl rfl rfl rfl (wp_append_both (some 70) rfl rfl _ _ 42 rfl w9.heap.size 66 i0 (.agg #[.int .i64 0, .string ByteArray.empty, .int .i64 0]) 3 32 Try.underlying42 hi hz0 hz1 hz2 rfl (by decide) _ (.slice (some ⟨w9.heap.size, 0, none⟩) 0 0) (0) ([]) rfl (own_empty_at (W := w9.drew) rfl _ _ _ (Nat.le_refl _)) none (0) (0) (([] : List En).flatMap encE) rfl (fun _ => ⟨rfl, rfl⟩) HL1.out (HW1.out _ (below_alloc w9 _).drew) (flat_one _) (by unfold maxLen; omega) (by omega) (below_alloc w9 _).drew.size ?_) (wp_runs (some 72) (v := .slice (some ⟨w9.heap.size + 1, 0, none⟩) 1 1) (w' := ((w9.alloc (.cells #[] 66)).alloc (.cells #[.int .i64 d, .string s, .int .i64 i] 66)).drew) rfl (by go_simp) ⟨fun _ => seeS p0 ((below_alloc w9 (.cells #[] 66)).trans ((below_alloc (w9.alloc (.cells #[] 66)) (.cells #[.int .i64 d, .string s, .int .i64 i] 66)).mono (by simp))).drew, ?_⟩)
                  · intro oa1 cap1 w1 h1 h2 h3
                    have HR1 := Lib.hid h1
                    have HB1 := Lib.hid ((below_alloc w9 _).drew.trans h2)
                    clear h1 h2 h3
                    refine ⟨fun _ => seeS p0 HB1.out, ?_⟩
                    simp only [Act.put, List.setIfInBounds_toArray, List.set_cons_zero, List.set_cons_succ]
                    refine oneL 10 (by kernel_rfl) rfl rfl (wp_runs (some 72) (v := .slice (some ⟨w1.heap.size, 0, none⟩) 1 1) (w' := w1.alloc (.cells #[.int .i64 d, .string s, .int .i64 i] 66)) rfl (by go_simp) ⟨fun _ => seeS p0 (HB1.out.trans ((below_alloc w1 _).mono HB1.out.size)), ?_⟩)
                    simp only [Act.put, List.setIfInBounds_toArray, List.set_cons_zero, List.set_cons_succ]
                    refine oneL 11 (by kernel_rfl) rfl rfl (wp_append_both (some 73) rfl rfl _ _ 42 rfl w9.heap.size 66 i0 (.agg #[.int .i64 0, .string ByteArray.empty, .int .i64 0]) 3 32 Try.underlying42 hi hz0 hz1 hz2 rfl (by decide) _ (.slice oa1 (0 + (0)) cap1) (0 + (0)) ([] ++ (([] : List En).flatMap encE)) rfl (own_grow HR1.out (below_alloc w1 _)) (some ⟨w1.heap.size, 0, none⟩) (1) (1) ((#[.int .i64 d, .string s, .int .i64 i] : Array Value).toList) rfl (fun e => by cases e) rfl (fun ad e => by cases e; exact World.news_of_block (heap_alloc_new w1 _)) (en_one ⟨d, s, i⟩) (by unfold maxLen; omega) (by omega) (by have := HB1.out.size; simp; omega) ?_)
                    intro oa2 cap2 w2 h1 h2 h3
                    have HR2 := Lib.hid h1
                    have HB2 := Lib.hid ((HB1.out.trans ((below_alloc w1 _).mono HB1.out.size)).trans h2)
                    clear h1 h2 h3
                    refine ⟨fun _ => seeS p0 HB2.out, ?_⟩
                    simp only [Act.put, List.setIfInBounds_toArray, List.set_cons_zero, List.set_cons_succ]
                    refine oneL 18 (by kernel_rfl) rfl rfl (wp_append_both (some 80) rfl rfl _ _ 42 rfl w9.heap.size 66 i0 (.agg #[.int .i64 0, .string ByteArray.empty, .int .i64 0]) 3 32 Try.underlying42 hi hz0 hz1 hz2 rfl (by decide) _ (.slice oa2 (0 + (0) + 1) cap2) (0 + (0) + 1) ([] ++ (([] : List En).flatMap encE) ++ ((#[.int .i64 d, .string s, .int .i64 i] : Array Value).toList)) rfl HR2.out none (0) (0) (([] : List En).flatMap encE) rfl (fun _ => ⟨rfl, rfl⟩) HL2.out (HW2.out _ HB2.out) (flat_one _) (by unfold maxLen; omega) (by omega) HB2.out.size ?_)
                    intro oaL capL wL h1 h2 h3
                    have HRL : Hid (RowK 66 encE 3 w9.heap.size wL (.slice oaL (0 + (0) + 1 + (0)) capL) (ins [] ⟨d, s, i⟩)) := Lib.hid (own_row h1 HLN.out)
                    have HBL := Lib.hid (HB2.out.trans h2)
                    clear h1 h2 h3
                    refine ⟨fun _ => seeS p0 HBL.out, ?_⟩
                    simp only [Act.put, List.setIfInBounds_toArray, List.set_cons_zero, List.set_cons_succ]
                    have q0 := cell_step HBL.out p0
                    have r0 : wL.frozen? ⟨qb, 0, none⟩ = false := (HBL.out.frozen hqb).trans f0
                    refine oneL 19 (by kernel_rfl) rfl rfl (wp_runs (some 81) (v := .pointer (some ⟨qb, 0, none⟩)) (w' := wL) rfl (by go_simp) ⟨fun _ => seeS p0 HBL.out, ?_⟩)
                    simp only [Act.put, List.setIfInBounds_toArray, List.set_cons_zero, List.set_cons_succ]
                    refine oneL 20 (by kernel_rfl) rfl rfl (wp_runs (some 82) (v := .pointer (some ⟨qb, 0, none⟩)) (w' := wL) rfl (by go_simp) ⟨fun _ => seeS p0 HBL.out, ?_⟩)
                    simp only [Act.put, List.setIfInBounds_toArray, List.set_cons_zero, List.set_cons_succ]
                    generalize 0 + (0) + 1 + (0) = nL at HRL ⊢
                    refine oneL 21 (by kernel_rfl) rfl rfl (wp_skips none (w' := wL.setCell ⟨qb, 0, none⟩ (.slice oaL nL capL)) rfl (by go_simp) ⟨fun h => absurd rfl h, ?_⟩)
                    simp only [Act.put]
                    refine doneL (by kernel_rfl) ?_
                    go_wp2
                    go_ret
                    obtain ⟨r1, r2⟩ := HV.out.put HBL.out HRL.out hBw HGI.out
                    exact ⟨ret_int HE.out.symm, by rw [HLL.out]; exact r1, (Only.of_below HBA.out).trans r2⟩
                  · simp only [Act.put, List.setIfInBounds_toArray, List.set_cons_zero, List.set_cons_succ]
                    refine oneL 8 (by kernel_rfl) rfl rfl (wp_append_both (some 70) rfl rfl _ _ 42 rfl w9.heap.size 66 i0 (.agg #[.int .i64 0, .string ByteArray.empty, .int .i64 0]) 3 32 Try.underlying42 hi hz0 hz1 hz2 rfl (by decide) _ (.slice (some ⟨w9.heap.size, 0, none⟩) 0 0) (0) ([]) rfl (own_grow (own_empty_at (W := w9.drew) rfl _ _ _ (Nat.le_refl _)) (below_alloc _ _)) none (0) (0) (([] : List En).flatMap encE) rfl (fun _ => ⟨rfl, rfl⟩) HL1.out (HW1.out _ ((below_alloc w9 (.cells #[] 66)).trans ((below_alloc (w9.alloc (.cells #[] 66)) (.cells #[.int .i64 d, .string s, .int .i64 i] 66)).mono (by simp))).drew) (flat_one _) (by unfold maxLen; omega) (by omega) (by simp; omega) ?_)
                    intro oa1 cap1 w1 h1 h2 h3
                    have HR1 := Lib.hid h1
                    have HX1 : Hid (w1.heap[w9.heap.size + 1]? = some (.cells #[.int .i64 d, .string s, .int .i64 i] 66)) := Lib.hid ((h3.block _ (by simp) (by simp [Value.ownBlock])).trans (by have := heap_alloc_new (w9.alloc (.cells #[] 66)) (.cells #[.int .i64 d, .string s, .int .i64 i] 66); rw [show (w9.alloc (.cells #[] 66)).heap.size = w9.heap.size + 1 by simp] at this; exact this))
                    have HB1 := Lib.hid (((below_alloc w9 (.cells #[] 66)).trans ((below_alloc (w9.alloc (.cells #[] 66)) (.cells #[.int .i64 d, .string s, .int .i64 i] 66)).mono (by simp))).drew.trans h2)
                    clear h1 h2 h3
                    refine ⟨fun _ => seeS p0 HB1.out, ?_⟩
                    simp only [Act.put, List.setIfInBounds_toArray, List.set_cons_zero, List.set_cons_succ]
                    refine oneL 11 (by kernel_rfl) rfl rfl (wp_append_both (some 73) rfl rfl _ _ 42 rfl w9.heap.size 66 i0 (.agg #[.int .i64 0, .string ByteArray.empty, .int .i64 0]) 3 32 Try.underlying42 hi hz0 hz1 hz2 rfl (by decide) _ (.slice oa1 (0 + (0)) cap1) (0 + (0)) ([] ++ (([] : List En).flatMap encE)) rfl HR1.out (some ⟨w9.heap.size + 1, 0, none⟩) (1) (1) ((#[.int .i64 d, .string s, .int .i64 i] : Array Value).toList) rfl (fun e => by cases e) rfl (fun ad e => by cases e; exact World.news_of_block HX1.out) (en_one ⟨d, s, i⟩) (by unfold maxLen; omega) (by omega) HB1.out.size ?_)
                    intro oa2 cap2 w2 h1 h2 h3
                    have HR2 := Lib.hid h1
                    have HB2 := Lib.hid (HB1.out.trans h2)
                    clear h1 h2 h3
                    refine ⟨fun _ => seeS p0 HB2.out, ?_⟩
                    simp only [Act.put, List.setIfInBounds_toArray, List.set_cons_zero, List.set_cons_succ]
                    refine oneL 18 (by kernel_rfl) rfl rfl (wp_append_both (some 80) rfl rfl _ _ 42 rfl w9.heap.size 66 i0 (.agg #[.int .i64 0, .string ByteArray.empty, .int .i64 0]) 3 32 Try.underlying42 hi hz0 hz1 hz2 rfl (by decide) _ (.slice oa2 (0 + (0) + 1) cap2) (0 + (0) + 1) ([] ++ (([] : List En).flatMap encE) ++ ((#[.int .i64 d, .string s, .int .i64 i] : Array Value).toList)) rfl HR2.out none (0) (0) (([] : List En).flatMap encE) rfl (fun _ => ⟨rfl, rfl⟩) HL2.out (HW2.out _ HB2.out) (flat_one _) (by unfold maxLen; omega) (by omega) HB2.out.size ?_)
                    intro oaL capL wL h1 h2 h3
                    have HRL : Hid (RowK 66 encE 3 w9.heap.size wL (.slice oaL (0 + (0) + 1 + (0)) capL) (ins [] ⟨d, s, i⟩)) := Lib.hid (own_row h1 HLN.out)
                    have HBL := Lib.hid (HB2.out.trans h2)
                    clear h1 h2 h3
                    refine ⟨fun _ => seeS p0 HBL.out, ?_⟩
                    simp only [Act.put, List.setIfInBounds_toArray, List.set_cons_zero, List.set_cons_succ]
                    have q0 := cell_step HBL.out p0
                    have r0 : wL.frozen? ⟨qb, 0, none⟩ = false := (HBL.out.frozen hqb).trans f0
                    refine oneL 19 (by kernel_rfl) rfl rfl (wp_runs (some 81) (v := .pointer (some ⟨qb, 0, none⟩)) (w' := wL) rfl (by go_simp) ⟨fun _ => seeS p0 HBL.out, ?_⟩)
                    simp only [Act.put, List.setIfInBounds_toArray, List.set_cons_zero, List.set_cons_succ]
                    refine oneL 20 (by kernel_rfl) rfl rfl (wp_runs (some 82) (v := .pointer (some ⟨qb, 0, none⟩)) (w' := wL) rfl (by go_simp) ⟨fun _ => seeS p0 HBL.out, ?_⟩)
                    simp only [Act.put, List.setIfInBounds_toArray, List.set_cons_zero, List.set_cons_succ]
                    generalize 0 + (0) + 1 + (0) = nL at HRL ⊢
                    refine oneL 21 (by kernel_rfl) rfl rfl (wp_skips none (w' := wL.setCell ⟨qb, 0, none⟩ (.slice oaL nL capL)) rfl (by go_simp) ⟨fun h => absurd rfl h, ?_⟩)
                    simp only [Act.put]
                    refine doneL (by kernel_rfl) ?_
                    go_wp2
                    go_ret
                    obtain ⟨r1, r2⟩ := HV.out.put HBL.out HRL.out hBw HGI.out
                    exact ⟨ret_int HE.out.symm, by rw [HLL.out]; exact r1, (Only.of_below HBA.out).trans r2⟩
                · simp only [Act.put, List.setIfInBounds_toArray, List.set_cons_zero, List.set_cons_succ]
                  refine oneL 1 (by kernel_rfl) rfl rfl (wp_runs (some 63) (v := .slice (some ⟨w9.heap.size + 1, 0, none⟩) 0 0) (w' := ((w9.alloc (.cells #[.int .i64 d, .string s, .int .i64 i] 66)).alloc (.cells #[] 66)).drew) rfl (by go_simp) ⟨fun _ => seeS p0 ((below_alloc w9 (.cells #[.int .i64 d, .string s, .int .i64 i] 66)).trans ((below_alloc (w9.alloc (.cells #[.int .i64 d, .string s, .int .i64 i] 66)) (.cells #[] 66)).mono (by simp))).drew, ?_⟩)
                  simp only [Act.put, List.setIfInBounds_toArray, List.set_cons_zero, List.set_cons_succ]
                  refine oneL 8 (by kernel_rfl) rfl rfl (wp_append_both (some 70) rfl rfl _ _ 42 rfl w9.heap.size 66 i0 (.agg #[.int .i64 0, .string ByteArray.empty, .int .i64 0]) 3 32 Try.underlying42 hi hz0 hz1 hz2 rfl (by decide) _ (.slice (some ⟨w9.heap.size + 1, 0, none⟩) 0 0) (0) ([]) rfl (own_empty_at (W := (w9.alloc (.cells #[.int .i64 d, .string s, .int .i64 i] 66)).drew) (by simp) _ _ _ (by omega)) none (0) (0) (([] : List En).flatMap encE) rfl (fun _ => ⟨rfl, rfl⟩) HL1.out (HW1.out _ ((below_alloc w9 (.cells #[.int .i64 d, .string s, .int .i64 i] 66)).trans ((below_alloc (w9.alloc (.cells #[.int .i64 d, .string s, .int .i64 i] 66)) (.cells #[] 66)).mono (by simp))).drew) (flat_one _) (by unfold maxLen; omega) (by omega) (by simp; omega) ?_)
                  intro oa1 cap1 w1 h1 h2 h3
                  have HR1 := Lib.hid h1
                  have HX1 : Hid (w1.heap[w9.heap.size]? = some (.cells #[.int .i64 d, .string s, .int .i64 i] 66)) := Lib.hid ((h3.block _ (by simp; omega) (by simp [Value.ownBlock])).trans ((Below.heap_alloc (w9.alloc (.cells #[.int .i64 d, .string s, .int .i64 i] 66)) (.cells #[] 66) _ (by simp)).trans (heap_alloc_new w9 _)))
                  have HB1 := Lib.hid (((below_alloc w9 (.cells #[.int .i64 d, .string s, .int .i64 i] 66)).trans ((below_alloc (w9.alloc (.cells #[.int .i64 d, .string s, .int .i64 i] 66)) (.cells #[] 66)).mono (by simp))).drew.trans h2)
                  clear h1 h2 h3
                  refine ⟨fun _ => seeS p0 HB1.out, ?_⟩
                  simp only [Act.put, List.setIfInBounds_toArray, List.set_cons_zero, List.set_cons_succ]
                  refine oneL 11 (by kernel_rfl) rfl rfl (wp_append_both (some 73) rfl rfl _ _ 42 rfl w9.heap.size 66 i0 (.agg #[.int .i64 0, .string ByteArray.empty, .int .i64 0]) 3 32 Try.underlying42 hi hz0 hz1 hz2 rfl (by decide) _ (.slice oa1 (0 + (0)) cap1) (0 + (0)) ([] ++ (([] : List En).flatMap encE)) rfl HR1.out (some ⟨w9.heap.size, 0, none⟩) (1) (1) ((#[.int .i64 d, .string s, .int .i64 i] : Array Value).toList) rfl (fun e => by cases e) rfl (fun ad e => by cases e; exact World.news_of_block HX1.out) (en_one ⟨d, s, i⟩) (by unfold maxLen; omega) (by omega) HB1.out.size ?_)
                  intro oa2 cap2 w2 h1 h2 h3
                  have HR2 := Lib.hid h1
                  have HB2 := Lib.hid (HB1.out.trans h2)
                  clear h1 h2 h3
                  refine ⟨fun _ => seeS p0 HB2.out, ?_⟩
                  simp only [Act.put, List.setIfInBounds_toArray, List.set_cons_zero, List.set_cons_succ]
                  refine oneL 18 (by kernel_rfl) rfl rfl (wp_append_both (some 80) rfl rfl _ _ 42 rfl w9.heap.size 66 i0 (.agg #[.int .i64 0, .string ByteArray.empty, .int .i64 0]) 3 32 Try.underlying42 hi hz0 hz1 hz2 rfl (by decide) _ (.slice oa2 (0 + (0) + 1) cap2) (0 + (0) + 1) ([] ++ (([] : List En).flatMap encE) ++ ((#[.int .i64 d, .string s, .int .i64 i] : Array Value).toList)) rfl HR2.out none (0) (0) (([] : List En).flatMap encE) rfl (fun _ => ⟨rfl, rfl⟩) HL2.out (HW2.out _ HB2.out) (flat_one _) (by unfold maxLen; omega) (by omega) HB2.out.size ?_)
                  intro oaL capL wL h1 h2 h3
                  have HRL : Hid (RowK 66 encE 3 w9.heap.size wL (.slice oaL (0 + (0) + 1 + (0)) capL) (ins [] ⟨d, s, i⟩)) := Lib.hid (own_row h1 HLN.out)
                  have HBL := Lib.hid (HB2.out.trans h2)
                  clear h1 h2 h3
                  refine ⟨fun _ => seeS p0 HBL.out, ?_⟩
                  simp only [Act.put, List.setIfInBounds_toArray, List.set_cons_zero, List.set_cons_succ]
                  have q0 := cell_step HBL.out p0
                  have r0 : wL.frozen? ⟨qb, 0, none⟩ = false := (HBL.out.frozen hqb).trans f0
                  refine oneL 19 (by kernel_rfl) rfl rfl (wp_runs (some 81) (v := .pointer (some ⟨qb, 0, none⟩)) (w' := wL) rfl (by go_simp) ⟨fun _ => seeS p0 HBL.out, ?_⟩)
                  simp only [Act.put, List.setIfInBounds_toArray, List.set_cons_zero, List.set_cons_succ]
                  refine oneL 20 (by kernel_rfl) rfl rfl (wp_runs (some 82) (v := .pointer (some ⟨qb, 0, none⟩)) (w' := wL) rfl (by go_simp) ⟨fun _ => seeS p0 HBL.out, ?_⟩)
                  simp only [Act.put, List.setIfInBounds_toArray, List.set_cons_zero, List.set_cons_succ]
                  generalize 0 + (0) + 1 + (0) = nL at HRL ⊢
                  refine oneL 21 (by kernel_rfl) rfl rfl (wp_skips none (w' := wL.setCell ⟨qb, 0, none⟩ (.slice oaL nL capL)) rfl (by go_simp) ⟨fun h => absurd rfl h, ?_⟩)
                  simp only [Act.put]
                  refine doneL (by kernel_rfl) ?_
                  go_wp2
                  go_ret
                  obtain ⟨r1, r2⟩ := HV.out.put HBL.out HRL.out hBw HGI.out
                  exact ⟨ret_int HE.out.symm, by rw [HLL.out]; exact r1, (Only.of_below HBA.out).trans r2⟩
    · have HE : Hid (addE L d s i = 1) := Lib.hid (by unfold addE; rw [if_pos hn, if_neg hr])
      have hcs : (d < 1) ∨ (1 ≤ d ∧ 2147483647 < d) ∨ ((1 ≤ d ∧ d ≤ 2147483647) ∧ i < 1) ∨ ((1 ≤ d ∧ d ≤ 2147483647) ∧ 1 ≤ i ∧ 2147483647 < i) := by
        have hm' : ¬ ((1 ≤ d ∧ d ≤ 2147483647) ∧ 1 ≤ i ∧ i ≤ 2147483647) := fun h => hr (decide_eq_true h)
        omega
      clear hn hr
      rcases hcs with q1 | ⟨q1, q2⟩ | ⟨⟨q1, q2⟩, q3⟩ | ⟨⟨q1, q2⟩, q3, q4⟩
      all_goals
        go_enter Try.func15, Try.ntmps15
        go_wp2_with (go_at_call 28; refine (rname_is _ _ HN.out HS.out _).mono ?_; rintro e w2 ⟨rfl, rfl⟩)
        go_ret
        exact ⟨ret_int HE.out.symm, by unfold addL; rw [HE.out]; exact HQ.out, Only.refl _ _⟩
end Go.Proofs.Ytffigodlfmnbpaa.DirW
