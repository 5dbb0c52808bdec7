/- The reference's handles: Close, Open. -/
import Derived.Test.YtjfdbcmmmoipcaaHanRef
import Derived.Test.YtjfdbcmmmoipcaaDraw
namespace Go.Proofs.Ytjfdbcmmmoipcaa.HanW
open Go.RowKit HanP
theorem rh_info : (Try.prog.info? 67).map (fun i => (i.zero, i.size, i.bytes)) = some (some (.agg #[.int .i64 0, .int .i64 0, .int .i64 0]), 3, 24) := by kernel_rfl
theorem del_place {L : List Ha} (hL : Rises L) {j : Nat} {x : Ha} (hx : L[j]? = some x) : del L x.key = L.take j ++ L.drop (j + 1) := Sl.del_place haLin hL hx
theorem flat_one (l : List Ha) : ∀ u ∈ l.flatMap encHa, u.oneCell' = true := by
  intro u hu
  obtain ⟨a, _, h⟩ := List.mem_flatMap.1 hu
  exact ha_one a u h
/-- a new list is stored -/
theorem QAt.put {w w' : World} {qb B : Nat} {v v' : Value} {L L' : List Ha} {ls : List Int} (h : QAt w qb B v L ls) (hb : Below w.heap.size w w') (hr : RowK 67 encHa 3 w.heap.size w' v' L') (hB : B ≤ w.heap.size) (hg : HGood L' ls) :
    QIs (w'.setCell ⟨qb, 0, none⟩ v') qb B L' ls ∧ Only qb w (w'.setCell ⟨qb, 0, none⟩ v') := by
  have hq := h.lt
  have hh := (hb.block qb hq).trans h.head
  refine ⟨⟨v', ?_, ?_, hg⟩, (Only.of_below hb).trans ((Only.refl _ _).setCell 0 v')⟩
  · rw [heap_setCell_same w' qb 0 _ _ _ hh]
    congr 2
  · refine ((Only.refl qb w').setCell 0 v').keepRow (hr.mono hB) (fun e => ?_)
    have := World.ownsRow.lt hr qb e
    omega
set_option maxHeartbeats 1600000 in
theorem rclose_any (qb B : Nat) (L : List Ha) (ls : List Int) (c n : Int) (w : World) (h : QIs w qb B L ls) (hBw : B ≤ w.heap.size) :
    Calls Try.prog 18 #[.pointer (some ⟨qb, 0, none⟩), .int .i64 c, .int .i64 n] w fun e w' => e = .returned (.tuple #[.int .i64 (ofI L c n), .int .i64 (closeE L c n)]) ∧ QIs w' qb B (del L (c, n)) ls ∧ Only qb w w' := by
  obtain ⟨i0, hi, hz0, hz1, hz2⟩ := info_parts rh_info
  have HQ := Lib.hid h
  obtain ⟨v, h⟩ := h
  have hlen := h.good.len
  have HV := Lib.hid h
  obtain ⟨oa, cap, rfl, hc, hc2, _⟩ := h.row.form
  have HP := Lib.hid (h.row.pts ha_len (by omega))
  obtain ⟨p0, f0⟩ := h.v0
  clear h
  cases hl : HanP.look L (c, n) with
  | none =>
    have HE : Hid (ofI L c n = 0 ∧ closeE L c n = 68) := Lib.hid (by unfold ofI closeE; rw [hl]; exact ⟨rfl, rfl⟩)
    have HA := Lib.hid (at_none hl)
    have HD : Hid (del L (c, n) = L) := Lib.hid (by
      unfold del
      refine List.filter_eq_self.2 fun a ha => ?_
      have := (look_none (c, n)).1 hl a ha
      simp [this])
    clear hl
    go_enter Try.func18, Try.ntmps18
    go_wp2_with (go_at_call 31; refine (at_any _ _ _ _ _ _ _ HQ.out).mono ?_; rintro e w2 ⟨rfl, rfl⟩; rw [HA.out])
    go_ret2
    exact ⟨by rw [HE.out.1, HE.out.2]; rfl, by rw [HD.out]; exact HQ.out, Only.refl _ _⟩
  | some i =>
    have HE : Hid (ofI L c n = i ∧ closeE L c n = 0) := Lib.hid (by unfold ofI closeE; rw [hl]; exact ⟨rfl, rfl⟩)
    obtain ⟨j, hj, hx⟩ := at_some hl
    have HA := Lib.hid hj
    have hD : del L (c, n) = L.take j ++ L.drop (j + 1) := del_place HQ.out.good.rises hx
    obtain ⟨a, rfl, hab, c0, c1, c2⟩ := ha_at HP.out hx
    have hjl : j < L.length := (List.getElem?_eq_some_iff.1 hx).1
    simp only at c0 c1 c2
    have hw1 : IntKind.i64.wrap ((j : Int) + 1) = (j : Int) + 1 := IntWalk.i64_in _ (by unfold maxLen at hc2; omega)
    have hq1 : (0 : Int) ≤ (j : Int) + 1 := by omega
    have hq2 : ((j : Int) + 1).toNat = j + 1 := by omega
    have hq3 : (j : Int) ≤ (cap : Int) := by omega
    have hq4 : (j : Int) + 1 ≤ (L.length : Int) := by omega
    have hq5 : (L.length : Int) ≤ (cap : Int) := by omega
    have hqb : qb < w.heap.size := HQ.out.lt
    have HL1 : Hid (((L.take j).flatMap encHa).length = j * 3) := Lib.hid (by rw [flat_len ha_len, List.length_take, Nat.min_eq_left (by omega)])
    have HL2 : Hid (((L.drop (j + 1)).flatMap encHa).length = (L.length - (j + 1)) * 3) := Lib.hid (by rw [flat_len ha_len, List.length_drop])
    have HLN : Hid ([] ++ (L.take j).flatMap encHa ++ (L.drop (j + 1)).flatMap encHa = (del L (c, n)).flatMap encHa ∧ 0 + (j) + (L.length - (j + 1)) = (del L (c, n)).length) := Lib.hid (by
      rw [hD]
      refine ⟨by simp, ?_⟩
      rw [List.length_append, List.length_take, List.length_drop, Nat.min_eq_left (by omega)]; omega)
    have HW1 := Lib.hid fun W (hb : Below w.heap.size w W) => news_take ha_len (by omega) (HP.out.below hb) j
    have HW2 := Lib.hid fun W (hb : Below w.heap.size w W) => news_drop ha_len (by omega) (HP.out.below hb) hc (j + 1)
    clear hl hj hx hD
    go_enter Try.func18, Try.ntmps18
    go_wp2_with (go_at_call 31; refine (at_any _ _ _ _ _ _ _ HQ.out).mono ?_; rintro e w2 ⟨rfl, rfl⟩; rw [HA.out])
    have HS0 := Lib.hid (seeS p0 (Below.refl w.heap.size w).drew)
    refine regionL 19 20 (fun w' => w'.cell? ⟨qb, 0, none⟩ = some ((.slice (some a) L.length cap)) ∧ Below w.heap.size w w') (by kernel_rfl) rfl ?_
    refine takeL 0 (some 24) (v := ?_) rfl (by kernel_rfl) (by kernel_rfl) (by kernel_rfl) (by kernel_rfl) (fun _ _ _ h => h) rfl rfl HS0.out ?_ ?_
    rotate_left
    · intro wq hq
      have g0 := hq.1
      go_simp
      with_reducible rfl
    simp only [Act.put, List.setIfInBounds_toArray, List.set_cons_zero, List.set_cons_succ]
    refine takeL 2 (some 26) (v := ?_) rfl (by kernel_rfl) (by kernel_rfl) (by kernel_rfl) (by kernel_rfl) (fun _ _ _ h => h) rfl rfl HS0.out ?_ ?_
    rotate_left
    · intro wq hq
      have g0 := hq.1
      go_simp
      with_reducible rfl
    simp only [Act.put, List.setIfInBounds_toArray, List.set_cons_zero, List.set_cons_succ]
    refine takeL 3 (some 27) (v := ?_) rfl (by kernel_rfl) (by kernel_rfl) (by kernel_rfl) (by kernel_rfl) (fun _ _ _ h => h) rfl rfl HS0.out ?_ ?_
    rotate_left
    · intro wq hq
      have g0 := hq.1
      go_simp
      with_reducible rfl
    simp only [Act.put, List.setIfInBounds_toArray, List.set_cons_zero, List.set_cons_succ]
    refine takeL 4 (some 28) (v := ?_) rfl (by kernel_rfl) (by kernel_rfl) (by kernel_rfl) (by kernel_rfl) (fun _ _ _ h => h) rfl rfl HS0.out ?_ ?_
    rotate_left
    · intro wq hq
      have g0 := hq.1
      go_simp
      with_reducible rfl
    simp only [Act.put, List.setIfInBounds_toArray, List.set_cons_zero, List.set_cons_succ]
    refine takeL 5 (some 29) (v := ?_) rfl (by kernel_rfl) (by kernel_rfl) (by kernel_rfl) (by kernel_rfl) (fun _ _ _ h => h) rfl rfl HS0.out ?_ ?_
    rotate_left
    · intro wq hq
      have g0 := hq.1
      go_simp
      with_reducible rfl
    simp only [Act.put, List.setIfInBounds_toArray, List.set_cons_zero, List.set_cons_succ]
    refine takeL 6 (some 30) (v := ?_) rfl (by kernel_rfl) (by kernel_rfl) (by kernel_rfl) (by kernel_rfl) (fun _ _ _ h => h) rfl rfl HS0.out ?_ ?_
    rotate_left
    · intro wq hq
      have g0 := hq.1
      go_simp
      with_reducible rfl
    simp only [Act.put, List.setIfInBounds_toArray, List.set_cons_zero, List.set_cons_succ]
    refine takeL 7 (some 31) (v := ?_) rfl (by kernel_rfl) (by kernel_rfl) (by kernel_rfl) (by kernel_rfl) (fun _ _ _ h => h) rfl rfl HS0.out ?_ ?_
    rotate_left
    · intro wq hq
      have g0 := hq.1
      go_simp
      with_reducible rfl
    simp only [Act.put, List.setIfInBounds_toArray, List.set_cons_zero, List.set_cons_succ]
    refine takeL 9 (some 33) (v := ?_) rfl (by kernel_rfl) (by kernel_rfl) (by kernel_rfl) (by kernel_rfl) (fun _ _ _ h => h) rfl rfl HS0.out ?_ ?_
    rotate_left
    · intro wq hq
      have g0 := hq.1
      go_simp
      with_reducible rfl
    simp only [Act.put, List.setIfInBounds_toArray, List.set_cons_zero, List.set_cons_succ]
    refine takeL 10 (some 34) (v := ?_) rfl (by kernel_rfl) (by kernel_rfl) (by kernel_rfl) (by kernel_rfl) (fun _ _ _ h => h) rfl rfl HS0.out ?_ ?_
    rotate_left
    · intro wq hq
      have g0 := hq.1
      go_simp
      with_reducible rfl
    simp only [Act.put, List.setIfInBounds_toArray, List.set_cons_zero, List.set_cons_succ]
    refine takeL 11 (some 35) (v := ?_) rfl (by kernel_rfl) (by kernel_rfl) (by kernel_rfl) (by kernel_rfl) (fun _ _ _ h => h) rfl rfl HS0.out ?_ ?_
    rotate_left
    · intro wq hq
      have g0 := hq.1
      go_simp
      with_reducible rfl
    simp only [Act.put, List.setIfInBounds_toArray, List.set_cons_zero, List.set_cons_succ]
    refine takeL 12 (some 36) (v := ?_) rfl (by kernel_rfl) (by kernel_rfl) (by kernel_rfl) (by kernel_rfl) (fun _ _ _ h => h) rfl rfl HS0.out ?_ ?_
    rotate_left
    · intro wq hq
      have g0 := hq.1
      go_simp
      with_reducible rfl
    simp only [Act.put, List.setIfInBounds_toArray, List.set_cons_zero, List.set_cons_succ]
    refine takeL 13 (some 37) (v := ?_) rfl (by kernel_rfl) (by kernel_rfl) (by kernel_rfl) (by kernel_rfl) (fun _ _ _ h => h) rfl rfl HS0.out ?_ ?_
    rotate_left
    · intro wq hq
      have g0 := hq.1
      go_simp
      with_reducible rfl
    simp only [Act.put, List.setIfInBounds_toArray, List.set_cons_zero, List.set_cons_succ]
    refine takeL 14 (some 38) (v := ?_) rfl (by kernel_rfl) (by kernel_rfl) (by kernel_rfl) (by kernel_rfl) (fun _ _ _ h => h) rfl rfl HS0.out ?_ ?_
    rotate_left
    · intro wq hq
      have g0 := hq.1
      go_simp
      with_reducible rfl
    simp only [Act.put, List.setIfInBounds_toArray, List.set_cons_zero, List.set_cons_succ]
    refine takeL 15 (some 39) (v := ?_) rfl (by kernel_rfl) (by kernel_rfl) (by kernel_rfl) (by kernel_rfl) (fun _ _ _ h => h) rfl rfl HS0.out ?_ ?_
    rotate_left
    · intro wq hq
      have g0 := hq.1
      go_simp
      with_reducible rfl
    simp only [Act.put, List.setIfInBounds_toArray, List.set_cons_zero, List.set_cons_succ]
    refine oneL 1 (by kernel_rfl) rfl rfl (wp_runs (some 25) (v := .slice (some ⟨w.heap.size, 0, none⟩) 0 0) (w' := (w.alloc (.cells #[] 67)).drew) rfl (by go_simp) ⟨fun _ => seeS p0 (below_alloc w _).drew, ?_⟩)
    simp only [Act.put, List.setIfInBounds_toArray, List.set_cons_zero, List.set_cons_succ]
    refine oneL 8 (by kernel_rfl) rfl rfl (wp_append_both (some 32) rfl rfl _ _ 45 rfl w.heap.size 67 i0 (.agg #[.int .i64 0, .int .i64 0, .int .i64 0]) 3 24 Try.underlying45 hi hz0 hz1 hz2 rfl (by decide) _ (.slice (some ⟨w.heap.size, 0, none⟩) 0 0) (0) ([]) rfl (own_empty_at (W := w.drew) rfl _ _ _ (Nat.le_refl _)) (some a) (j) (cap) ((L.take j).flatMap encHa) rfl (fun e => by cases e) HL1.out (HW1.out _ (below_alloc w _).drew) (flat_one _) (by unfold maxLen; omega) (by omega) (below_alloc w _).drew.size ?_)
    intro oa1 cap1 w1 h1 h2 h3
    have HR1 := Lib.hid h1
    have HB1 := Lib.hid ((below_alloc w _).drew.trans h2)
    clear h1 h2 h3
    refine ⟨fun _ => seeS p0 HB1.out, ?_⟩
    simp only [Act.put, List.setIfInBounds_toArray, List.set_cons_zero, List.set_cons_succ]
    refine oneL 16 (by kernel_rfl) rfl rfl (wp_append_both (some 40) rfl rfl _ _ 45 rfl w.heap.size 67 i0 (.agg #[.int .i64 0, .int .i64 0, .int .i64 0]) 3 24 Try.underlying45 hi hz0 hz1 hz2 rfl (by decide) _ (.slice oa1 (0 + (j)) cap1) (0 + (j)) ([] ++ ((L.take j).flatMap encHa)) rfl HR1.out (if cap = j + 1 then some a else some (a.add ((j + 1) * 3))) (L.length - (j + 1)) ((cap - (j + 1))) ((L.drop (j + 1)).flatMap encHa) rfl (fun e => by split at e <;> cases e) HL2.out (HW2.out _ HB1.out) (flat_one _) (by unfold maxLen; omega) (by omega) HB1.out.size ?_)
    intro oaL capL wL h1 h2 h3
    have HRL : Hid (RowK 67 encHa 3 w.heap.size wL (.slice oaL (0 + (j) + (L.length - (j + 1))) capL) (del L (c, n))) := Lib.hid (own_row h1 HLN.out)
    have HBL := Lib.hid (HB1.out.trans h2)
    clear h1 h2 h3
    refine ⟨fun _ => seeS p0 HBL.out, ?_⟩
    simp only [Act.put, List.setIfInBounds_toArray, List.set_cons_zero, List.set_cons_succ]
    have q0 := cell_step HBL.out p0
    have r0 : wL.frozen? ⟨qb, 0, none⟩ = false := (HBL.out.frozen hqb).trans f0
    generalize (if cap = j + 1 then some a else some (a.add ((j + 1) * 3))) = oD
    refine oneL 17 (by kernel_rfl) rfl rfl (wp_runs (some 41) (v := .pointer (some ⟨qb, 0, none⟩)) (w' := wL) rfl (by go_simp) ⟨fun _ => seeS p0 HBL.out, ?_⟩)
    simp only [Act.put, List.setIfInBounds_toArray, List.set_cons_zero, List.set_cons_succ]
    refine oneL 18 (by kernel_rfl) rfl rfl (wp_runs (some 42) (v := .pointer (some ⟨qb, 0, none⟩)) (w' := wL) rfl (by go_simp) ⟨fun _ => seeS p0 HBL.out, ?_⟩)
    simp only [Act.put, List.setIfInBounds_toArray, List.set_cons_zero, List.set_cons_succ]
    generalize 0 + (j) + (L.length - (j + 1)) = nL at HRL ⊢
    refine oneL 19 (by kernel_rfl) rfl rfl (wp_skips none (w' := wL.setCell ⟨qb, 0, none⟩ (.slice oaL nL capL)) rfl (by go_simp) ⟨fun h => absurd rfl h, ?_⟩)
    simp only [Act.put]
    refine doneL (by kernel_rfl) ?_
    go_wp2
    go_ret2
    obtain ⟨r1, r2⟩ := HV.out.put HBL.out HRL.out hBw (HV.out.good.filter _)
    exact ⟨by rw [HE.out.1, HE.out.2]; rfl, r1, r2⟩
theorem low_at {L : List Ha} {x : Int × Int} {k : Nat} (hk : k ≤ (low L x).length) {a : Ha} (ha : L[k]? = some a) : (kl a.key x ↔ k < (low L x).length) := Sl.low_step (key := Ha.key) (kl := kl) hk ha
theorem ins_at (L : List Ha) (a : Ha) : ins L a = L.take (low L a.key).length ++ a :: L.drop (low L a.key).length := Sl.ins_take (key := Ha.key) (kl := kl) L a
set_option maxHeartbeats 8000000 in
theorem ropen_any (qb B : Nat) (L : List Ha) (ls : List Int) (c n i : Int) (w : World) (h : QIs w qb B L ls) (hBw : B ≤ w.heap.size) :
    Calls Try.prog 17 #[.pointer (some ⟨qb, 0, none⟩), .int .i64 c, .int .i64 n, .int .i64 i] w fun e w' => e = .returned (.int .i64 (openE L c n i)) ∧ QIs w' qb B (openL L c n i) ls ∧ Only qb w w' := by
  obtain ⟨i0, hi, hz0, hz1, hz2⟩ := info_parts rh_info
  have HQ := Lib.hid h
  by_cases hm : mayOpen c n i = true
  · obtain ⟨⟨q0, q0'⟩, q1, q2, q3, q4⟩ := of_decide_eq_true hm
    have HMAY := Lib.hid hm
    clear hm h
    cases hl : HanP.look L (c, n) with
    | some j =>
      have HE : Hid (openE L c n i = 61) := Lib.hid (by unfold openE; rw [if_pos HMAY.out, hl]; rfl)
      obtain ⟨p, hp, _⟩ := at_some hl
      have HA := Lib.hid hp
      clear hl hp
      go_enter Try.func17, Try.ntmps17
      go_wp2_with (go_at_call 31; refine (at_any _ _ _ _ _ _ _ HQ.out).mono ?_; rintro e w2 ⟨rfl, rfl⟩; rw [HA.out])
      go_ret
      exact ⟨ret_int HE.out.symm, by unfold openL; rw [HE.out]; exact HQ.out, Only.refl _ _⟩
    | none =>
      have HA := Lib.hid (at_none hl)
      by_cases hct : 16 ≤ count L c
      · have HE : Hid (openE L c n i = 3) := Lib.hid (by unfold openE; rw [if_pos HMAY.out, hl, if_pos hct]; rfl)
        have hci : (16 : Int) ≤ (count L c : Nat) := by omega
        clear hl hct
        go_enter Try.func17, Try.ntmps17
        go_wp2_with (first
          | (go_at_call 31; refine (at_any _ _ _ _ _ _ _ HQ.out).mono ?_; rintro e w2 ⟨rfl, rfl⟩; rw [HA.out])
          | (go_at_call 24; refine (rcount_any _ _ _ _ _ _ HQ.out).mono ?_; rintro e w2 ⟨rfl, rfl⟩))
        go_ret
        exact ⟨ret_int HE.out.symm, by unfold openL; rw [HE.out]; exact HQ.out, Only.refl _ _⟩
      · have HE : Hid (openE L c n i = 0) := Lib.hid (by unfold openE; rw [if_pos HMAY.out, hl, if_neg hct]; rfl)
        have HLL : Hid (openL L c n i = ins L ⟨c, n, i⟩) := Lib.hid (by unfold openL; rw [if_pos HE.out])
        have HGI : Hid (HGood (ins L ⟨c, n, i⟩) ls) := Lib.hid (HQ.out.good.ins HMAY.out hl (by omega))
        have hci : ((count L c : Nat) : Int) < 16 := by omega
        have hIN : ins L ⟨c, n, i⟩ = L.take (low L (c, n)).length ++ ⟨c, n, i⟩ :: L.drop (low L (c, n)).length := ins_at L ⟨c, n, i⟩
        have hqb : qb < w.heap.size := HQ.out.lt
        have HLOW := Lib.hid (low_length L (c, n))
        obtain ⟨v, h⟩ := HQ.out
        have hlen := h.good.len
        have HV := Lib.hid h
        obtain ⟨oa, cap, rfl, hc, hc2, hnone⟩ := h.row.form
        have HP := Lib.hid (h.row.pts ha_len (by omega))
        obtain ⟨p0, f0⟩ := h.v0
        clear h hct hl
        cases oa with
        | none =>
          obtain ⟨hL0, rfl⟩ := hnone rfl
          obtain rfl : L = [] := List.eq_nil_of_length_eq_zero hL0
          have HL1 : Hid ((([] : List Ha).flatMap encHa).length = 0 * 3) := Lib.hid rfl
          have HL2 : Hid ((([] : List Ha).flatMap encHa).length = 0 * 3) := Lib.hid rfl
          have HLN : Hid ([] ++ ([] : List Ha).flatMap encHa ++ (#[.int .i64 c, .int .i64 n, .int .i64 i] : Array Value).toList ++ ([] : List Ha).flatMap encHa = (ins [] ⟨c, n, i⟩).flatMap encHa ∧ 0 + (0) + 1 + (0) = (ins [] ⟨c, n, i⟩).length) := Lib.hid ⟨by rfl, by rfl⟩
          have HW1 : Hid (∀ W, Below w.heap.size w W → ∀ ad, (none : Option Addr) = some ad → ∀ j u, (([] : List Ha).flatMap encHa)[j]? = some u → W.cell? (ad.add j) = some u) := Lib.hid (fun _ _ _ e => by cases e)
          have HW2 := Lib.hid HW1.out
          simp only [List.length_nil] at *
          clear hIN hnone hL0
          go_enter Try.func17, Try.ntmps17
          go_wp2_with (first
            | (go_at_call 31; refine (at_any _ _ _ _ _ _ _ HQ.out).mono ?_; rintro e w2 ⟨rfl, rfl⟩; rw [HA.out])
            | (go_at_call 24; refine (rcount_any _ _ _ _ _ _ HQ.out).mono ?_; rintro e w2 ⟨rfl, rfl⟩))
          go_loop [9] (fun k => k = .int .i64 0) (fun _ => 0)
          case atStart => rfl
          case round =>
            obtain rfl := hrel
            go_wp2_with fail
            have HS0 := Lib.hid (seeS p0 (Below.refl w.heap.size w).drew)
            refine regionL 24 25 (fun w' => w'.cell? ⟨qb, 0, none⟩ = some ((.slice none 0 0)) ∧ Below w.heap.size w w') (by kernel_rfl) rfl ?_
            refine takeL 0 (some 86) (v := ?_) rfl (by kernel_rfl) (by kernel_rfl) (by kernel_rfl) (by kernel_rfl) (fun _ _ _ h => h) rfl rfl HS0.out ?_ ?_
            rotate_left
            · intro wq hq
              have g0 := hq.1
              go_simp
              with_reducible rfl
            simp only [Act.put, List.setIfInBounds_toArray, List.set_cons_zero, List.set_cons_succ]
            refine takeL 2 (some 88) (v := ?_) rfl (by kernel_rfl) (by kernel_rfl) (by kernel_rfl) (by kernel_rfl) (fun _ _ _ h => h) rfl rfl HS0.out ?_ ?_
            rotate_left
            · intro wq hq
              have g0 := hq.1
              go_simp
              with_reducible rfl
            simp only [Act.put, List.setIfInBounds_toArray, List.set_cons_zero, List.set_cons_succ]
            refine takeL 3 (some 89) (v := ?_) rfl (by kernel_rfl) (by kernel_rfl) (by kernel_rfl) (by kernel_rfl) (fun _ _ _ h => h) rfl rfl HS0.out ?_ ?_
            rotate_left
            · intro wq hq
              have g0 := hq.1
              go_simp
              with_reducible rfl
            simp only [Act.put, List.setIfInBounds_toArray, List.set_cons_zero, List.set_cons_succ]
            refine takeL 4 (some 90) (v := ?_) rfl (by kernel_rfl) (by kernel_rfl) (by kernel_rfl) (by kernel_rfl) (fun _ _ _ h => h) rfl rfl HS0.out ?_ ?_
            rotate_left
            · intro wq hq
              have g0 := hq.1
              go_simp
              with_reducible rfl
            simp only [Act.put, List.setIfInBounds_toArray, List.set_cons_zero, List.set_cons_succ]
            refine takeL 5 (some 91) (v := ?_) rfl (by kernel_rfl) (by kernel_rfl) (by kernel_rfl) (by kernel_rfl) (fun _ _ _ h => h) rfl rfl HS0.out ?_ ?_
            rotate_left
            · intro wq hq
              have g0 := hq.1
              go_simp
              with_reducible rfl
            simp only [Act.put, List.setIfInBounds_toArray, List.set_cons_zero, List.set_cons_succ]
            refine takeL 6 (some 92) (v := ?_) rfl (by kernel_rfl) (by kernel_rfl) (by kernel_rfl) (by kernel_rfl) (fun _ _ _ h => h) rfl rfl HS0.out ?_ ?_
            rotate_left
            · intro wq hq
              have g0 := hq.1
              go_simp
              with_reducible rfl
            simp only [Act.put, List.setIfInBounds_toArray, List.set_cons_zero, List.set_cons_succ]
            refine takeL 7 (some 93) (v := ?_) rfl (by kernel_rfl) (by kernel_rfl) (by kernel_rfl) (by kernel_rfl) (fun _ _ _ h => h) rfl rfl HS0.out ?_ ?_
            rotate_left
            · intro wq hq
              have g0 := hq.1
              go_simp
              with_reducible rfl
            simp only [Act.put, List.setIfInBounds_toArray, List.set_cons_zero, List.set_cons_succ]
            refine takeL 9 (some 95) (v := ?_) rfl (by kernel_rfl) (by kernel_rfl) (by kernel_rfl) (by kernel_rfl) (fun _ _ _ h => h) rfl rfl HS0.out ?_ ?_
            rotate_left
            · intro wq hq
              have g0 := hq.1
              go_simp
              with_reducible rfl
            simp only [Act.put, List.setIfInBounds_toArray, List.set_cons_zero, List.set_cons_succ]
            refine takeL 10 (some 96) (v := ?_) rfl (by kernel_rfl) (by kernel_rfl) (by kernel_rfl) (by kernel_rfl) (fun _ _ _ h => h) rfl rfl HS0.out ?_ ?_
            rotate_left
            · intro wq hq
              have g0 := hq.1
              go_simp
              with_reducible rfl
            simp only [Act.put, List.setIfInBounds_toArray, List.set_cons_zero, List.set_cons_succ]
            refine takeL 11 (some 97) (v := ?_) rfl (by kernel_rfl) (by kernel_rfl) (by kernel_rfl) (by kernel_rfl) (fun _ _ _ h => h) rfl rfl HS0.out ?_ ?_
            rotate_left
            · intro wq hq
              have g0 := hq.1
              go_simp
              with_reducible rfl
            simp only [Act.put, List.setIfInBounds_toArray, List.set_cons_zero, List.set_cons_succ]
            refine takeL 12 (some 98) (v := ?_) rfl (by kernel_rfl) (by kernel_rfl) (by kernel_rfl) (by kernel_rfl) (fun _ _ _ h => h) rfl rfl HS0.out ?_ ?_
            rotate_left
            · intro wq hq
              have g0 := hq.1
              go_simp
              with_reducible rfl
            simp only [Act.put, List.setIfInBounds_toArray, List.set_cons_zero, List.set_cons_succ]
            refine takeL 15 (some 101) (v := ?_) rfl (by kernel_rfl) (by kernel_rfl) (by kernel_rfl) (by kernel_rfl) (fun _ _ _ h => h) rfl rfl HS0.out ?_ ?_
            rotate_left
            · intro wq hq
              have g0 := hq.1
              go_simp
              with_reducible rfl
            simp only [Act.put, List.setIfInBounds_toArray, List.set_cons_zero, List.set_cons_succ]
            refine takeL 16 (some 102) (v := ?_) rfl (by kernel_rfl) (by kernel_rfl) (by kernel_rfl) (by kernel_rfl) (fun _ _ _ h => h) rfl rfl HS0.out ?_ ?_
            rotate_left
            · intro wq hq
              have g0 := hq.1
              go_simp
              with_reducible rfl
            simp only [Act.put, List.setIfInBounds_toArray, List.set_cons_zero, List.set_cons_succ]
            refine takeL 17 (some 103) (v := ?_) rfl (by kernel_rfl) (by kernel_rfl) (by kernel_rfl) (by kernel_rfl) (fun _ _ _ h => h) rfl rfl HS0.out ?_ ?_
            rotate_left
            · intro wq hq
              have g0 := hq.1
              go_simp
              with_reducible rfl
            simp only [Act.put, List.setIfInBounds_toArray, List.set_cons_zero, List.set_cons_succ]
            refine takeL 18 (some 104) (v := ?_) rfl (by kernel_rfl) (by kernel_rfl) (by kernel_rfl) (by kernel_rfl) (fun _ _ _ h => h) rfl rfl HS0.out ?_ ?_
            rotate_left
            · intro wq hq
              have g0 := hq.1
              go_simp
              with_reducible rfl
            simp only [Act.put, List.setIfInBounds_toArray, List.set_cons_zero, List.set_cons_succ]
            refine takeL 19 (some 105) (v := ?_) rfl (by kernel_rfl) (by kernel_rfl) (by kernel_rfl) (by kernel_rfl) (fun _ _ _ h => h) rfl rfl HS0.out ?_ ?_
            rotate_left
            · intro wq hq
              have g0 := hq.1
              go_simp
              with_reducible rfl
            simp only [Act.put, List.setIfInBounds_toArray, List.set_cons_zero, List.set_cons_succ]
            refine takeL 20 (some 106) (v := ?_) rfl (by kernel_rfl) (by kernel_rfl) (by kernel_rfl) (by kernel_rfl) (fun _ _ _ h => h) rfl rfl HS0.out ?_ ?_
            rotate_left
            · intro wq hq
              have g0 := hq.1
              go_simp
              with_reducible rfl
            simp only [Act.put, List.setIfInBounds_toArray, List.set_cons_zero, List.set_cons_succ]
            refine twoL 1 13 (by kernel_rfl) rfl rfl rfl rfl (wp_runs (some 87) (v := .slice (some ⟨w.heap.size, 0, none⟩) 0 0) (w' := (w.alloc (.cells #[] 67)).drew) rfl (by go_simp) ⟨fun _ => seeS p0 (below_alloc w _).drew, ?_⟩) (wp_runs (some 99) (v := .slice (some ⟨w.heap.size, 0, none⟩) 1 1) (w' := (w.alloc (.cells #[.int .i64 c, .int .i64 n, .int .i64 i] 67)).drew) rfl (by go_simp) ⟨fun _ => seeS p0 (below_alloc w _).drew, ?_⟩)
            · simp only [Act.put, List.setIfInBounds_toArray, List.set_cons_zero, List.set_cons_succ]
              refine twoL 8 13 (by kernel_rfl) rfl rfl rfl rfl (wp_append_both (some 94) rfl rfl _ _ 45 rfl w.heap.size 67 i0 (.agg #[.int .i64 0, .int .i64 0, .int .i64 0]) 3 24 Try.underlying45 hi hz0 hz1 hz2 rfl (by decide) _ (.slice (some ⟨w.heap.size, 0, none⟩) 0 0) (0) ([]) rfl (own_empty_at (W := w.drew) rfl _ _ _ (Nat.le_refl _)) none (0) (0) (([] : List Ha).flatMap encHa) rfl (fun _ => ⟨rfl, rfl⟩) HL1.out (HW1.out _ (below_alloc w _).drew) (flat_one _) (by unfold maxLen; omega) (by omega) (below_alloc w _).drew.size ?_) (wp_runs (some 99) (v := .slice (some ⟨w.heap.size + 1, 0, none⟩) 1 1) (w' := ((w.alloc (.cells #[] 67)).alloc (.cells #[.int .i64 c, .int .i64 n, .int .i64 i] 67)).drew) rfl (by go_simp) ⟨fun _ => seeS p0 ((below_alloc w (.cells #[] 67)).trans ((below_alloc (w.alloc (.cells #[] 67)) (.cells #[.int .i64 c, .int .i64 n, .int .i64 i] 67)).mono (by simp))).drew, ?_⟩)
              · intro oa1 cap1 w1 h1 h2 h3
                have HR1 := Lib.hid h1
                have HB1 := Lib.hid ((below_alloc w _).drew.trans h2)
                clear h1 h2 h3
                refine ⟨fun _ => seeS p0 HB1.out, ?_⟩
                simp only [Act.put, List.setIfInBounds_toArray, List.set_cons_zero, List.set_cons_succ]
                refine oneL 13 (by kernel_rfl) rfl rfl (wp_runs (some 99) (v := .slice (some ⟨w1.heap.size, 0, none⟩) 1 1) (w' := w1.alloc (.cells #[.int .i64 c, .int .i64 n, .int .i64 i] 67)) rfl (by go_simp) ⟨fun _ => seeS p0 (HB1.out.trans ((below_alloc w1 _).mono HB1.out.size)), ?_⟩)
                simp only [Act.put, List.setIfInBounds_toArray, List.set_cons_zero, List.set_cons_succ]
                refine oneL 14 (by kernel_rfl) rfl rfl (wp_append_both (some 100) rfl rfl _ _ 45 rfl w.heap.size 67 i0 (.agg #[.int .i64 0, .int .i64 0, .int .i64 0]) 3 24 Try.underlying45 hi hz0 hz1 hz2 rfl (by decide) _ (.slice oa1 (0 + (0)) cap1) (0 + (0)) ([] ++ (([] : List Ha).flatMap encHa)) rfl (own_grow HR1.out (below_alloc w1 _)) (some ⟨w1.heap.size, 0, none⟩) (1) (1) ((#[.int .i64 c, .int .i64 n, .int .i64 i] : Array Value).toList) rfl (fun e => by cases e) rfl (fun ad e => by cases e; exact World.news_of_block (heap_alloc_new w1 _)) (ha_one ⟨c, n, i⟩) (by unfold maxLen; omega) (by omega) (by have := HB1.out.size; simp; omega) ?_)
                intro oa2 cap2 w2 h1 h2 h3
                have HR2 := Lib.hid h1
                have HB2 := Lib.hid ((HB1.out.trans ((below_alloc w1 _).mono HB1.out.size)).trans h2)
                clear h1 h2 h3
                refine ⟨fun _ => seeS p0 HB2.out, ?_⟩
                simp only [Act.put, List.setIfInBounds_toArray, List.set_cons_zero, List.set_cons_succ]
                refine oneL 21 (by kernel_rfl) rfl rfl (wp_append_both (some 107) rfl rfl _ _ 45 rfl w.heap.size 67 i0 (.agg #[.int .i64 0, .int .i64 0, .int .i64 0]) 3 24 Try.underlying45 hi hz0 hz1 hz2 rfl (by decide) _ (.slice oa2 (0 + (0) + 1) cap2) (0 + (0) + 1) ([] ++ (([] : List Ha).flatMap encHa) ++ ((#[.int .i64 c, .int .i64 n, .int .i64 i] : Array Value).toList)) rfl HR2.out none (0) (0) (([] : List Ha).flatMap encHa) rfl (fun _ => ⟨rfl, rfl⟩) HL2.out (HW2.out _ HB2.out) (flat_one _) (by unfold maxLen; omega) (by omega) HB2.out.size ?_)
                intro oaL capL wL h1 h2 h3
                have HRL : Hid (RowK 67 encHa 3 w.heap.size wL (.slice oaL (0 + (0) + 1 + (0)) capL) (ins [] ⟨c, n, i⟩)) := Lib.hid (own_row h1 HLN.out)
                have HBL := Lib.hid (HB2.out.trans h2)
                clear h1 h2 h3
                refine ⟨fun _ => seeS p0 HBL.out, ?_⟩
                simp only [Act.put, List.setIfInBounds_toArray, List.set_cons_zero, List.set_cons_succ]
                have q0 := cell_step HBL.out p0
                have r0 : wL.frozen? ⟨qb, 0, none⟩ = false := (HBL.out.frozen hqb).trans f0
                refine oneL 22 (by kernel_rfl) rfl rfl (wp_runs (some 108) (v := .pointer (some ⟨qb, 0, none⟩)) (w' := wL) rfl (by go_simp) ⟨fun _ => seeS p0 HBL.out, ?_⟩)
                simp only [Act.put, List.setIfInBounds_toArray, List.set_cons_zero, List.set_cons_succ]
                refine oneL 23 (by kernel_rfl) rfl rfl (wp_runs (some 109) (v := .pointer (some ⟨qb, 0, none⟩)) (w' := wL) rfl (by go_simp) ⟨fun _ => seeS p0 HBL.out, ?_⟩)
                simp only [Act.put, List.setIfInBounds_toArray, List.set_cons_zero, List.set_cons_succ]
                generalize 0 + (0) + 1 + (0) = nL at HRL ⊢
                refine oneL 24 (by kernel_rfl) rfl rfl (wp_skips none (w' := wL.setCell ⟨qb, 0, none⟩ (.slice oaL nL capL)) rfl (by go_simp) ⟨fun h => absurd rfl h, ?_⟩)
                simp only [Act.put]
                refine doneL (by kernel_rfl) ?_
                go_wp2
                go_ret
                obtain ⟨r1, r2⟩ := HV.out.put HBL.out HRL.out hBw HGI.out
                exact ⟨ret_int HE.out.symm, by rw [HLL.out]; exact r1, r2⟩
              · simp only [Act.put, List.setIfInBounds_toArray, List.set_cons_zero, List.set_cons_succ]
                refine oneL 8 (by kernel_rfl) rfl rfl (wp_append_both (some 94) rfl rfl _ _ 45 rfl w.heap.size 67 i0 (.agg #[.int .i64 0, .int .i64 0, .int .i64 0]) 3 24 Try.underlying45 hi hz0 hz1 hz2 rfl (by decide) _ (.slice (some ⟨w.heap.size, 0, none⟩) 0 0) (0) ([]) rfl (own_grow (own_empty_at (W := w.drew) rfl _ _ _ (Nat.le_refl _)) (below_alloc _ _)) none (0) (0) (([] : List Ha).flatMap encHa) rfl (fun _ => ⟨rfl, rfl⟩) HL1.out (HW1.out _ ((below_alloc w (.cells #[] 67)).trans ((below_alloc (w.alloc (.cells #[] 67)) (.cells #[.int .i64 c, .int .i64 n, .int .i64 i] 67)).mono (by simp))).drew) (flat_one _) (by unfold maxLen; omega) (by omega) (by simp; omega) ?_)
                intro oa1 cap1 w1 h1 h2 h3
                have HR1 := Lib.hid h1
                have HX1 : Hid (w1.heap[w.heap.size + 1]? = some (.cells #[.int .i64 c, .int .i64 n, .int .i64 i] 67)) := Lib.hid ((h3.block _ (by simp) (by simp [Value.ownBlock])).trans (by have := heap_alloc_new (w.alloc (.cells #[] 67)) (.cells #[.int .i64 c, .int .i64 n, .int .i64 i] 67); rw [show (w.alloc (.cells #[] 67)).heap.size = w.heap.size + 1 by simp] at this; exact this))
                have HB1 := Lib.hid (((below_alloc w (.cells #[] 67)).trans ((below_alloc (w.alloc (.cells #[] 67)) (.cells #[.int .i64 c, .int .i64 n, .int .i64 i] 67)).mono (by simp))).drew.trans h2)
                clear h1 h2 h3
                refine ⟨fun _ => seeS p0 HB1.out, ?_⟩
                simp only [Act.put, List.setIfInBounds_toArray, List.set_cons_zero, List.set_cons_succ]
                refine oneL 14 (by kernel_rfl) rfl rfl (wp_append_both (some 100) rfl rfl _ _ 45 rfl w.heap.size 67 i0 (.agg #[.int .i64 0, .int .i64 0, .int .i64 0]) 3 24 Try.underlying45 hi hz0 hz1 hz2 rfl (by decide) _ (.slice oa1 (0 + (0)) cap1) (0 + (0)) ([] ++ (([] : List Ha).flatMap encHa)) rfl HR1.out (some ⟨w.heap.size + 1, 0, none⟩) (1) (1) ((#[.int .i64 c, .int .i64 n, .int .i64 i] : Array Value).toList) rfl (fun e => by cases e) rfl (fun ad e => by cases e; exact World.news_of_block HX1.out) (ha_one ⟨c, n, i⟩) (by unfold maxLen; omega) (by omega) HB1.out.size ?_)
                intro oa2 cap2 w2 h1 h2 h3
                have HR2 := Lib.hid h1
                have HB2 := Lib.hid (HB1.out.trans h2)
                clear h1 h2 h3
                refine ⟨fun _ => seeS p0 HB2.out, ?_⟩
                simp only [Act.put, List.setIfInBounds_toArray, List.set_cons_zero, List.set_cons_succ]
                refine oneL 21 (by kernel_rfl) rfl rfl (wp_append_both (some 107) rfl rfl _ _ 45 rfl w.heap.size 67 i0 (.agg #[.int .i64 0, .int .i64 0, .int .i64 0]) 3 24 Try.underlying45 hi hz0 hz1 hz2 rfl (by decide) _ (.slice oa2 (0 + (0) + 1) cap2) (0 + (0) + 1) ([] ++ (([] : List Ha).flatMap encHa) ++ ((#[.int .i64 c, .int .i64 n, .int .i64 i] : Array Value).toList)) rfl HR2.out none (0) (0) (([] : List Ha).flatMap encHa) rfl (fun _ => ⟨rfl, rfl⟩) HL2.out (HW2.out _ HB2.out) (flat_one _) (by unfold maxLen; omega) (by omega) HB2.out.size ?_)
                intro oaL capL wL h1 h2 h3
                have HRL : Hid (RowK 67 encHa 3 w.heap.size wL (.slice oaL (0 + (0) + 1 + (0)) capL) (ins [] ⟨c, n, i⟩)) := Lib.hid (own_row h1 HLN.out)
                have HBL := Lib.hid (HB2.out.trans h2)
                clear h1 h2 h3
                refine ⟨fun _ => seeS p0 HBL.out, ?_⟩
                simp only [Act.put, List.setIfInBounds_toArray, List.set_cons_zero, List.set_cons_succ]
                have q0 := cell_step HBL.out p0
                have r0 : wL.frozen? ⟨qb, 0, none⟩ = false := (HBL.out.frozen hqb).trans f0
                refine oneL 22 (by kernel_rfl) rfl rfl (wp_runs (some 108) (v := .pointer (some ⟨qb, 0, none⟩)) (w' := wL) rfl (by go_simp) ⟨fun _ => seeS p0 HBL.out, ?_⟩)
                simp only [Act.put, List.setIfInBounds_toArray, List.set_cons_zero, List.set_cons_succ]
                refine oneL 23 (by kernel_rfl) rfl rfl (wp_runs (some 109) (v := .pointer (some ⟨qb, 0, none⟩)) (w' := wL) rfl (by go_simp) ⟨fun _ => seeS p0 HBL.out, ?_⟩)
                simp only [Act.put, List.setIfInBounds_toArray, List.set_cons_zero, List.set_cons_succ]
                generalize 0 + (0) + 1 + (0) = nL at HRL ⊢
                refine oneL 24 (by kernel_rfl) rfl rfl (wp_skips none (w' := wL.setCell ⟨qb, 0, none⟩ (.slice oaL nL capL)) rfl (by go_simp) ⟨fun h => absurd rfl h, ?_⟩)
                simp only [Act.put]
                refine doneL (by kernel_rfl) ?_
                go_wp2
                go_ret
                obtain ⟨r1, r2⟩ := HV.out.put HBL.out HRL.out hBw HGI.out
                exact ⟨ret_int HE.out.symm, by rw [HLL.out]; exact r1, r2⟩
            · simp only [Act.put, List.setIfInBounds_toArray, List.set_cons_zero, List.set_cons_succ]
              refine oneL 1 (by kernel_rfl) rfl rfl (wp_runs (some 87) (v := .slice (some ⟨w.heap.size + 1, 0, none⟩) 0 0) (w' := ((w.alloc (.cells #[.int .i64 c, .int .i64 n, .int .i64 i] 67)).alloc (.cells #[] 67)).drew) rfl (by go_simp) ⟨fun _ => seeS p0 ((below_alloc w (.cells #[.int .i64 c, .int .i64 n, .int .i64 i] 67)).trans ((below_alloc (w.alloc (.cells #[.int .i64 c, .int .i64 n, .int .i64 i] 67)) (.cells #[] 67)).mono (by simp))).drew, ?_⟩)
              simp only [Act.put, List.setIfInBounds_toArray, List.set_cons_zero, List.set_cons_succ]
              refine oneL 8 (by kernel_rfl) rfl rfl (wp_append_both (some 94) rfl rfl _ _ 45 rfl w.heap.size 67 i0 (.agg #[.int .i64 0, .int .i64 0, .int .i64 0]) 3 24 Try.underlying45 hi hz0 hz1 hz2 rfl (by decide) _ (.slice (some ⟨w.heap.size + 1, 0, none⟩) 0 0) (0) ([]) rfl (own_empty_at (W := (w.alloc (.cells #[.int .i64 c, .int .i64 n, .int .i64 i] 67)).drew) (by simp) _ _ _ (by omega)) none (0) (0) (([] : List Ha).flatMap encHa) rfl (fun _ => ⟨rfl, rfl⟩) HL1.out (HW1.out _ ((below_alloc w (.cells #[.int .i64 c, .int .i64 n, .int .i64 i] 67)).trans ((below_alloc (w.alloc (.cells #[.int .i64 c, .int .i64 n, .int .i64 i] 67)) (.cells #[] 67)).mono (by simp))).drew) (flat_one _) (by unfold maxLen; omega) (by omega) (by simp; omega) ?_)
              intro oa1 cap1 w1 h1 h2 h3
              have HR1 := Lib.hid h1
              have HX1 : Hid (w1.heap[w.heap.size]? = some (.cells #[.int .i64 c, .int .i64 n, .int .i64 i] 67)) := Lib.hid ((h3.block _ (by simp; omega) (by simp [Value.ownBlock])).trans ((Below.heap_alloc (w.alloc (.cells #[.int .i64 c, .int .i64 n, .int .i64 i] 67)) (.cells #[] 67) _ (by simp)).trans (heap_alloc_new w _)))
              have HB1 := Lib.hid (((below_alloc w (.cells #[.int .i64 c, .int .i64 n, .int .i64 i] 67)).trans ((below_alloc (w.alloc (.cells #[.int .i64 c, .int .i64 n, .int .i64 i] 67)) (.cells #[] 67)).mono (by simp))).drew.trans h2)
              clear h1 h2 h3
              refine ⟨fun _ => seeS p0 HB1.out, ?_⟩
              simp only [Act.put, List.setIfInBounds_toArray, List.set_cons_zero, List.set_cons_succ]
              refine oneL 14 (by kernel_rfl) rfl rfl (wp_append_both (some 100) rfl rfl _ _ 45 rfl w.heap.size 67 i0 (.agg #[.int .i64 0, .int .i64 0, .int .i64 0]) 3 24 Try.underlying45 hi hz0 hz1 hz2 rfl (by decide) _ (.slice oa1 (0 + (0)) cap1) (0 + (0)) ([] ++ (([] : List Ha).flatMap encHa)) rfl HR1.out (some ⟨w.heap.size, 0, none⟩) (1) (1) ((#[.int .i64 c, .int .i64 n, .int .i64 i] : Array Value).toList) rfl (fun e => by cases e) rfl (fun ad e => by cases e; exact World.news_of_block HX1.out) (ha_one ⟨c, n, i⟩) (by unfold maxLen; omega) (by omega) HB1.out.size ?_)
              intro oa2 cap2 w2 h1 h2 h3
              have HR2 := Lib.hid h1
              have HB2 := Lib.hid (HB1.out.trans h2)
              clear h1 h2 h3
              refine ⟨fun _ => seeS p0 HB2.out, ?_⟩
              simp only [Act.put, List.setIfInBounds_toArray, List.set_cons_zero, List.set_cons_succ]
              refine oneL 21 (by kernel_rfl) rfl rfl (wp_append_both (some 107) rfl rfl _ _ 45 rfl w.heap.size 67 i0 (.agg #[.int .i64 0, .int .i64 0, .int .i64 0]) 3 24 Try.underlying45 hi hz0 hz1 hz2 rfl (by decide) _ (.slice oa2 (0 + (0) + 1) cap2) (0 + (0) + 1) ([] ++ (([] : List Ha).flatMap encHa) ++ ((#[.int .i64 c, .int .i64 n, .int .i64 i] : Array Value).toList)) rfl HR2.out none (0) (0) (([] : List Ha).flatMap encHa) rfl (fun _ => ⟨rfl, rfl⟩) HL2.out (HW2.out _ HB2.out) (flat_one _) (by unfold maxLen; omega) (by omega) HB2.out.size ?_)
              intro oaL capL wL h1 h2 h3
              have HRL : Hid (RowK 67 encHa 3 w.heap.size wL (.slice oaL (0 + (0) + 1 + (0)) capL) (ins [] ⟨c, n, i⟩)) := Lib.hid (own_row h1 HLN.out)
              have HBL := Lib.hid (HB2.out.trans h2)
              clear h1 h2 h3
              refine ⟨fun _ => seeS p0 HBL.out, ?_⟩
              simp only [Act.put, List.setIfInBounds_toArray, List.set_cons_zero, List.set_cons_succ]
              have q0 := cell_step HBL.out p0
              have r0 : wL.frozen? ⟨qb, 0, none⟩ = false := (HBL.out.frozen hqb).trans f0
              refine oneL 22 (by kernel_rfl) rfl rfl (wp_runs (some 108) (v := .pointer (some ⟨qb, 0, none⟩)) (w' := wL) rfl (by go_simp) ⟨fun _ => seeS p0 HBL.out, ?_⟩)
              simp only [Act.put, List.setIfInBounds_toArray, List.set_cons_zero, List.set_cons_succ]
              refine oneL 23 (by kernel_rfl) rfl rfl (wp_runs (some 109) (v := .pointer (some ⟨qb, 0, none⟩)) (w' := wL) rfl (by go_simp) ⟨fun _ => seeS p0 HBL.out, ?_⟩)
              simp only [Act.put, List.setIfInBounds_toArray, List.set_cons_zero, List.set_cons_succ]
              generalize 0 + (0) + 1 + (0) = nL at HRL ⊢
              refine oneL 24 (by kernel_rfl) rfl rfl (wp_skips none (w' := wL.setCell ⟨qb, 0, none⟩ (.slice oaL nL capL)) rfl (by go_simp) ⟨fun h => absurd rfl h, ?_⟩)
              simp only [Act.put]
              refine doneL (by kernel_rfl) ?_
              go_wp2
              go_ret
              obtain ⟨r1, r2⟩ := HV.out.put HBL.out HRL.out hBw HGI.out
              exact ⟨ret_int HE.out.symm, by rw [HLL.out]; exact r1, r2⟩
        | some a =>
          clear hnone
          go_enter Try.func17, Try.ntmps17
          go_wp2_with (first
            | (go_at_call 31; refine (at_any _ _ _ _ _ _ _ HQ.out).mono ?_; rintro e w2 ⟨rfl, rfl⟩; rw [HA.out])
            | (go_at_call 24; refine (rcount_any _ _ _ _ _ _ HQ.out).mono ?_; rintro e w2 ⟨rfl, rfl⟩))
          have HIN := Lib.hid hIN
          clear hIN
          go_loop [9] (fun k => ∃ m : Nat, m ≤ (low L (c, n)).length ∧ k = .int .i64 (m : Int)) (fun k => ((L.length : Int) - intOf k).toNat)
          case atStart => exact ⟨0, Nat.zero_le _, rfl⟩
          case round =>
            obtain ⟨k, hk, rfl⟩ := hrel
            have hkl : k ≤ L.length := Nat.le_trans hk HLOW.out
            by_cases hgo : k < (low L (c, n)).length
            · have hlt : k < L.length := Nat.lt_of_lt_of_le hgo HLOW.out
              obtain ⟨x, hx⟩ : ∃ x, L[k]? = some x := ⟨_, List.getElem?_eq_getElem hlt⟩
              obtain ⟨a', ha', hab, c0, c1, c2⟩ := ha_at HP.out hx
              obtain rfl : a = a' := by simpa using ha'
              have hkl2 := (low_at hk hx).2 hgo
              have HGO := Lib.hid hgo
              unfold kl Ha.key at hkl2
              simp only at hkl2
              clear hx ha' hgo hk
              rcases hkl2 with e1 | ⟨e1, e2⟩
              · go_wp2_with fail
                go_round
                case rel => exact ⟨k + 1, HGO.out, by simp⟩
                case measure => simp [intOf]; omega
              · have d1 : (x.c == c) = true := by rw [beq_iff_eq]; exact e1
                have d2 : decide (x.c < c) = false := decide_eq_false (by omega)
                clear e1
                go_wp2_with fail
                go_round
                case rel => exact ⟨k + 1, HGO.out, by simp⟩
                case measure => simp [intOf]; omega
            · have hke : k = (low L (c, n)).length := by omega
              have hI : ins L ⟨c, n, i⟩ = L.take k ++ ⟨c, n, i⟩ :: L.drop k := by rw [HIN.out, ← hke]
              have HL1 : Hid (((L.take k).flatMap encHa).length = k * 3) := Lib.hid (by rw [flat_len ha_len, List.length_take, Nat.min_eq_left (by omega)])
              have HL2 : Hid (((L.drop k).flatMap encHa).length = (L.length - k) * 3) := Lib.hid (by rw [flat_len ha_len, List.length_drop])
              have HLN : Hid ([] ++ (L.take k).flatMap encHa ++ (#[.int .i64 c, .int .i64 n, .int .i64 i] : Array Value).toList ++ (L.drop k).flatMap encHa = (ins L ⟨c, n, i⟩).flatMap encHa ∧ 0 + (k) + 1 + (L.length - k) = (ins L ⟨c, n, i⟩).length) := Lib.hid (by
                rw [hI]
                refine ⟨by simp [encHa], ?_⟩
                rw [List.length_append, List.length_cons, List.length_take, List.length_drop, Nat.min_eq_left (by omega)]; omega)
              have HW1 := Lib.hid fun W (hb : Below w.heap.size w W) => news_take ha_len (by omega) (HP.out.below hb) k
              have HW2 := Lib.hid fun W (hb : Below w.heap.size w W) => news_drop ha_len (by omega) (HP.out.below hb) hc k
              have hq3 : (k : Int) ≤ (cap : Int) := by omega
              have hq4 : (k : Int) ≤ (L.length : Int) := by omega
              have hq5 : (L.length : Int) ≤ (cap : Int) := by omega
              have HK := Lib.hid hk
              have HKE := Lib.hid hke
              clear hI hke hk hgo
              by_cases hlt : k < L.length
              · obtain ⟨x, hx⟩ : ∃ x, L[k]? = some x := ⟨_, List.getElem?_eq_getElem hlt⟩
                obtain ⟨a', ha', hab, c0, c1, c2⟩ := ha_at HP.out hx
                obtain rfl : a = a' := by simpa using ha'
                have hkl2 : ¬ kl x.key (c, n) := fun h => by have := (low_at HK.out hx).1 h; have := HKE.out; omega
                unfold kl Ha.key at hkl2
                simp only at hkl2
                clear hx ha'
                by_cases e1 : x.c = c
                · have d1 : (x.c == c) = true := by rw [beq_iff_eq]; exact e1
                  have d2 : decide (x.c < c) = false := decide_eq_false (by omega)
                  have d3 : decide (x.n < n) = false := decide_eq_false (by omega)
                  clear e1 hkl2
                  go_wp2_with fail
                  have HS0 := Lib.hid (seeS p0 (Below.refl w.heap.size w).drew)
                  refine regionL 24 25 (fun w' => w'.cell? ⟨qb, 0, none⟩ = some ((.slice (some a) L.length cap)) ∧ Below w.heap.size w w') (by kernel_rfl) rfl ?_
                  refine takeL 0 (some 86) (v := ?_) rfl (by kernel_rfl) (by kernel_rfl) (by kernel_rfl) (by kernel_rfl) (fun _ _ _ h => h) rfl rfl HS0.out ?_ ?_
                  rotate_left
                  · intro wq hq
                    have g0 := hq.1
                    go_simp
                    with_reducible rfl
                  simp only [Act.put, List.setIfInBounds_toArray, List.set_cons_zero, List.set_cons_succ]
                  refine takeL 2 (some 88) (v := ?_) rfl (by kernel_rfl) (by kernel_rfl) (by kernel_rfl) (by kernel_rfl) (fun _ _ _ h => h) rfl rfl HS0.out ?_ ?_
                  rotate_left
                  · intro wq hq
                    have g0 := hq.1
                    go_simp
                    with_reducible rfl
                  simp only [Act.put, List.setIfInBounds_toArray, List.set_cons_zero, List.set_cons_succ]
                  refine takeL 3 (some 89) (v := ?_) rfl (by kernel_rfl) (by kernel_rfl) (by kernel_rfl) (by kernel_rfl) (fun _ _ _ h => h) rfl rfl HS0.out ?_ ?_
                  rotate_left
                  · intro wq hq
                    have g0 := hq.1
                    go_simp
                    with_reducible rfl
                  simp only [Act.put, List.setIfInBounds_toArray, List.set_cons_zero, List.set_cons_succ]
                  refine takeL 4 (some 90) (v := ?_) rfl (by kernel_rfl) (by kernel_rfl) (by kernel_rfl) (by kernel_rfl) (fun _ _ _ h => h) rfl rfl HS0.out ?_ ?_
                  rotate_left
                  · intro wq hq
                    have g0 := hq.1
                    go_simp
                    with_reducible rfl
                  simp only [Act.put, List.setIfInBounds_toArray, List.set_cons_zero, List.set_cons_succ]
                  refine takeL 5 (some 91) (v := ?_) rfl (by kernel_rfl) (by kernel_rfl) (by kernel_rfl) (by kernel_rfl) (fun _ _ _ h => h) rfl rfl HS0.out ?_ ?_
                  rotate_left
                  · intro wq hq
                    have g0 := hq.1
                    go_simp
                    with_reducible rfl
                  simp only [Act.put, List.setIfInBounds_toArray, List.set_cons_zero, List.set_cons_succ]
                  refine takeL 6 (some 92) (v := ?_) rfl (by kernel_rfl) (by kernel_rfl) (by kernel_rfl) (by kernel_rfl) (fun _ _ _ h => h) rfl rfl HS0.out ?_ ?_
                  rotate_left
                  · intro wq hq
                    have g0 := hq.1
                    go_simp
                    with_reducible rfl
                  simp only [Act.put, List.setIfInBounds_toArray, List.set_cons_zero, List.set_cons_succ]
                  refine takeL 7 (some 93) (v := ?_) rfl (by kernel_rfl) (by kernel_rfl) (by kernel_rfl) (by kernel_rfl) (fun _ _ _ h => h) rfl rfl HS0.out ?_ ?_
                  rotate_left
                  · intro wq hq
                    have g0 := hq.1
                    go_simp
                    with_reducible rfl
                  simp only [Act.put, List.setIfInBounds_toArray, List.set_cons_zero, List.set_cons_succ]
                  refine takeL 9 (some 95) (v := ?_) rfl (by kernel_rfl) (by kernel_rfl) (by kernel_rfl) (by kernel_rfl) (fun _ _ _ h => h) rfl rfl HS0.out ?_ ?_
                  rotate_left
                  · intro wq hq
                    have g0 := hq.1
                    go_simp
                    with_reducible rfl
                  simp only [Act.put, List.setIfInBounds_toArray, List.set_cons_zero, List.set_cons_succ]
                  refine takeL 10 (some 96) (v := ?_) rfl (by kernel_rfl) (by kernel_rfl) (by kernel_rfl) (by kernel_rfl) (fun _ _ _ h => h) rfl rfl HS0.out ?_ ?_
                  rotate_left
                  · intro wq hq
                    have g0 := hq.1
                    go_simp
                    with_reducible rfl
                  simp only [Act.put, List.setIfInBounds_toArray, List.set_cons_zero, List.set_cons_succ]
                  refine takeL 11 (some 97) (v := ?_) rfl (by kernel_rfl) (by kernel_rfl) (by kernel_rfl) (by kernel_rfl) (fun _ _ _ h => h) rfl rfl HS0.out ?_ ?_
                  rotate_left
                  · intro wq hq
                    have g0 := hq.1
                    go_simp
                    with_reducible rfl
                  simp only [Act.put, List.setIfInBounds_toArray, List.set_cons_zero, List.set_cons_succ]
                  refine takeL 12 (some 98) (v := ?_) rfl (by kernel_rfl) (by kernel_rfl) (by kernel_rfl) (by kernel_rfl) (fun _ _ _ h => h) rfl rfl HS0.out ?_ ?_
                  rotate_left
                  · intro wq hq
                    have g0 := hq.1
                    go_simp
                    with_reducible rfl
                  simp only [Act.put, List.setIfInBounds_toArray, List.set_cons_zero, List.set_cons_succ]
                  refine takeL 15 (some 101) (v := ?_) rfl (by kernel_rfl) (by kernel_rfl) (by kernel_rfl) (by kernel_rfl) (fun _ _ _ h => h) rfl rfl HS0.out ?_ ?_
                  rotate_left
                  · intro wq hq
                    have g0 := hq.1
                    go_simp
                    with_reducible rfl
                  simp only [Act.put, List.setIfInBounds_toArray, List.set_cons_zero, List.set_cons_succ]
                  refine takeL 16 (some 102) (v := ?_) rfl (by kernel_rfl) (by kernel_rfl) (by kernel_rfl) (by kernel_rfl) (fun _ _ _ h => h) rfl rfl HS0.out ?_ ?_
                  rotate_left
                  · intro wq hq
                    have g0 := hq.1
                    go_simp
                    with_reducible rfl
                  simp only [Act.put, List.setIfInBounds_toArray, List.set_cons_zero, List.set_cons_succ]
                  refine takeL 17 (some 103) (v := ?_) rfl (by kernel_rfl) (by kernel_rfl) (by kernel_rfl) (by kernel_rfl) (fun _ _ _ h => h) rfl rfl HS0.out ?_ ?_
                  rotate_left
                  · intro wq hq
                    have g0 := hq.1
                    go_simp
                    with_reducible rfl
                  simp only [Act.put, List.setIfInBounds_toArray, List.set_cons_zero, List.set_cons_succ]
                  refine takeL 18 (some 104) (v := ?_) rfl (by kernel_rfl) (by kernel_rfl) (by kernel_rfl) (by kernel_rfl) (fun _ _ _ h => h) rfl rfl HS0.out ?_ ?_
                  rotate_left
                  · intro wq hq
                    have g0 := hq.1
                    go_simp
                    with_reducible rfl
                  simp only [Act.put, List.setIfInBounds_toArray, List.set_cons_zero, List.set_cons_succ]
                  refine takeL 19 (some 105) (v := ?_) rfl (by kernel_rfl) (by kernel_rfl) (by kernel_rfl) (by kernel_rfl) (fun _ _ _ h => h) rfl rfl HS0.out ?_ ?_
                  rotate_left
                  · intro wq hq
                    have g0 := hq.1
                    go_simp
                    with_reducible rfl
                  simp only [Act.put, List.setIfInBounds_toArray, List.set_cons_zero, List.set_cons_succ]
                  refine takeL 20 (some 106) (v := ?_) rfl (by kernel_rfl) (by kernel_rfl) (by kernel_rfl) (by kernel_rfl) (fun _ _ _ h => h) rfl rfl HS0.out ?_ ?_
                  rotate_left
                  · intro wq hq
                    have g0 := hq.1
                    go_simp
                    with_reducible rfl
                  simp only [Act.put, List.setIfInBounds_toArray, List.set_cons_zero, List.set_cons_succ]
                  refine twoL 1 13 (by kernel_rfl) rfl rfl rfl rfl (wp_runs (some 87) (v := .slice (some ⟨w.heap.size, 0, none⟩) 0 0) (w' := (w.alloc (.cells #[] 67)).drew) rfl (by go_simp) ⟨fun _ => seeS p0 (below_alloc w _).drew, ?_⟩) (wp_runs (some 99) (v := .slice (some ⟨w.heap.size, 0, none⟩) 1 1) (w' := (w.alloc (.cells #[.int .i64 c, .int .i64 n, .int .i64 i] 67)).drew) rfl (by go_simp) ⟨fun _ => seeS p0 (below_alloc w _).drew, ?_⟩)
                  · simp only [Act.put, List.setIfInBounds_toArray, List.set_cons_zero, List.set_cons_succ]
                    refine twoL 8 13 (by kernel_rfl) rfl rfl rfl rfl (wp_append_both (some 94) rfl rfl _ _ 45 rfl w.heap.size 67 i0 (.agg #[.int .i64 0, .int .i64 0, .int .i64 0]) 3 24 Try.underlying45 hi hz0 hz1 hz2 rfl (by decide) _ (.slice (some ⟨w.heap.size, 0, none⟩) 0 0) (0) ([]) rfl (own_empty_at (W := w.drew) rfl _ _ _ (Nat.le_refl _)) (some a) (k) (cap) ((L.take k).flatMap encHa) rfl (fun e => by cases e) HL1.out (HW1.out _ (below_alloc w _).drew) (flat_one _) (by unfold maxLen; omega) (by omega) (below_alloc w _).drew.size ?_) (wp_runs (some 99) (v := .slice (some ⟨w.heap.size + 1, 0, none⟩) 1 1) (w' := ((w.alloc (.cells #[] 67)).alloc (.cells #[.int .i64 c, .int .i64 n, .int .i64 i] 67)).drew) rfl (by go_simp) ⟨fun _ => seeS p0 ((below_alloc w (.cells #[] 67)).trans ((below_alloc (w.alloc (.cells #[] 67)) (.cells #[.int .i64 c, .int .i64 n, .int .i64 i] 67)).mono (by simp))).drew, ?_⟩)
                    · intro oa1 cap1 w1 h1 h2 h3
                      have HR1 := Lib.hid h1
                      have HB1 := Lib.hid ((below_alloc w _).drew.trans h2)
                      clear h1 h2 h3
                      refine ⟨fun _ => seeS p0 HB1.out, ?_⟩
                      simp only [Act.put, List.setIfInBounds_toArray, List.set_cons_zero, List.set_cons_succ]
                      refine oneL 13 (by kernel_rfl) rfl rfl (wp_runs (some 99) (v := .slice (some ⟨w1.heap.size, 0, none⟩) 1 1) (w' := w1.alloc (.cells #[.int .i64 c, .int .i64 n, .int .i64 i] 67)) rfl (by go_simp) ⟨fun _ => seeS p0 (HB1.out.trans ((below_alloc w1 _).mono HB1.out.size)), ?_⟩)
                      simp only [Act.put, List.setIfInBounds_toArray, List.set_cons_zero, List.set_cons_succ]
                      refine oneL 14 (by kernel_rfl) rfl rfl (wp_append_both (some 100) rfl rfl _ _ 45 rfl w.heap.size 67 i0 (.agg #[.int .i64 0, .int .i64 0, .int .i64 0]) 3 24 Try.underlying45 hi hz0 hz1 hz2 rfl (by decide) _ (.slice oa1 (0 + (k)) cap1) (0 + (k)) ([] ++ ((L.take k).flatMap encHa)) rfl (own_grow HR1.out (below_alloc w1 _)) (some ⟨w1.heap.size, 0, none⟩) (1) (1) ((#[.int .i64 c, .int .i64 n, .int .i64 i] : Array Value).toList) rfl (fun e => by cases e) rfl (fun ad e => by cases e; exact World.news_of_block (heap_alloc_new w1 _)) (ha_one ⟨c, n, i⟩) (by unfold maxLen; omega) (by omega) (by have := HB1.out.size; simp; omega) ?_)
                      intro oa2 cap2 w2 h1 h2 h3
                      have HR2 := Lib.hid h1
                      have HB2 := Lib.hid ((HB1.out.trans ((below_alloc w1 _).mono HB1.out.size)).trans h2)
                      clear h1 h2 h3
                      refine ⟨fun _ => seeS p0 HB2.out, ?_⟩
                      simp only [Act.put, List.setIfInBounds_toArray, List.set_cons_zero, List.set_cons_succ]
                      refine oneL 21 (by kernel_rfl) rfl rfl (wp_append_both (some 107) rfl rfl _ _ 45 rfl w.heap.size 67 i0 (.agg #[.int .i64 0, .int .i64 0, .int .i64 0]) 3 24 Try.underlying45 hi hz0 hz1 hz2 rfl (by decide) _ (.slice oa2 (0 + (k) + 1) cap2) (0 + (k) + 1) ([] ++ ((L.take k).flatMap encHa) ++ ((#[.int .i64 c, .int .i64 n, .int .i64 i] : Array Value).toList)) rfl HR2.out (if cap = k then some a else some (a.add (k * 3))) (L.length - k) ((cap - k)) ((L.drop k).flatMap encHa) rfl (fun e => by split at e <;> cases e) HL2.out (HW2.out _ HB2.out) (flat_one _) (by unfold maxLen; omega) (by omega) HB2.out.size ?_)
                      intro oaL capL wL h1 h2 h3
                      have HRL : Hid (RowK 67 encHa 3 w.heap.size wL (.slice oaL (0 + (k) + 1 + (L.length - k)) capL) (ins L ⟨c, n, i⟩)) := Lib.hid (own_row h1 HLN.out)
                      have HBL := Lib.hid (HB2.out.trans h2)
                      clear h1 h2 h3
                      refine ⟨fun _ => seeS p0 HBL.out, ?_⟩
                      simp only [Act.put, List.setIfInBounds_toArray, List.set_cons_zero, List.set_cons_succ]
                      have q0 := cell_step HBL.out p0
                      have r0 : wL.frozen? ⟨qb, 0, none⟩ = false := (HBL.out.frozen hqb).trans f0
                      generalize (if cap = k then some a else some (a.add (k * 3))) = oD
                      refine oneL 22 (by kernel_rfl) rfl rfl (wp_runs (some 108) (v := .pointer (some ⟨qb, 0, none⟩)) (w' := wL) rfl (by go_simp) ⟨fun _ => seeS p0 HBL.out, ?_⟩)
                      simp only [Act.put, List.setIfInBounds_toArray, List.set_cons_zero, List.set_cons_succ]
                      refine oneL 23 (by kernel_rfl) rfl rfl (wp_runs (some 109) (v := .pointer (some ⟨qb, 0, none⟩)) (w' := wL) rfl (by go_simp) ⟨fun _ => seeS p0 HBL.out, ?_⟩)
                      simp only [Act.put, List.setIfInBounds_toArray, List.set_cons_zero, List.set_cons_succ]
                      generalize 0 + (k) + 1 + (L.length - k) = nL at HRL ⊢
                      refine oneL 24 (by kernel_rfl) rfl rfl (wp_skips none (w' := wL.setCell ⟨qb, 0, none⟩ (.slice oaL nL capL)) rfl (by go_simp) ⟨fun h => absurd rfl h, ?_⟩)
                      simp only [Act.put]
                      refine doneL (by kernel_rfl) ?_
                      go_wp2
                      go_ret
                      obtain ⟨r1, r2⟩ := HV.out.put HBL.out HRL.out hBw HGI.out
                      exact ⟨ret_int HE.out.symm, by rw [HLL.out]; exact r1, r2⟩
                    · simp only [Act.put, List.setIfInBounds_toArray, List.set_cons_zero, List.set_cons_succ]
                      refine oneL 8 (by kernel_rfl) rfl rfl (wp_append_both (some 94) rfl rfl _ _ 45 rfl w.heap.size 67 i0 (.agg #[.int .i64 0, .int .i64 0, .int .i64 0]) 3 24 Try.underlying45 hi hz0 hz1 hz2 rfl (by decide) _ (.slice (some ⟨w.heap.size, 0, none⟩) 0 0) (0) ([]) rfl (own_grow (own_empty_at (W := w.drew) rfl _ _ _ (Nat.le_refl _)) (below_alloc _ _)) (some a) (k) (cap) ((L.take k).flatMap encHa) rfl (fun e => by cases e) HL1.out (HW1.out _ ((below_alloc w (.cells #[] 67)).trans ((below_alloc (w.alloc (.cells #[] 67)) (.cells #[.int .i64 c, .int .i64 n, .int .i64 i] 67)).mono (by simp))).drew) (flat_one _) (by unfold maxLen; omega) (by omega) (by simp; omega) ?_)
                      intro oa1 cap1 w1 h1 h2 h3
                      have HR1 := Lib.hid h1
                      have HX1 : Hid (w1.heap[w.heap.size + 1]? = some (.cells #[.int .i64 c, .int .i64 n, .int .i64 i] 67)) := Lib.hid ((h3.block _ (by simp) (by simp [Value.ownBlock])).trans (by have := heap_alloc_new (w.alloc (.cells #[] 67)) (.cells #[.int .i64 c, .int .i64 n, .int .i64 i] 67); rw [show (w.alloc (.cells #[] 67)).heap.size = w.heap.size + 1 by simp] at this; exact this))
                      have HB1 := Lib.hid (((below_alloc w (.cells #[] 67)).trans ((below_alloc (w.alloc (.cells #[] 67)) (.cells #[.int .i64 c, .int .i64 n, .int .i64 i] 67)).mono (by simp))).drew.trans h2)
                      clear h1 h2 h3
                      refine ⟨fun _ => seeS p0 HB1.out, ?_⟩
                      simp only [Act.put, List.setIfInBounds_toArray, List.set_cons_zero, List.set_cons_succ]
                      refine oneL 14 (by kernel_rfl) rfl rfl (wp_append_both (some 100) rfl rfl _ _ 45 rfl w.heap.size 67 i0 (.agg #[.int .i64 0, .int .i64 0, .int .i64 0]) 3 24 Try.underlying45 hi hz0 hz1 hz2 rfl (by decide) _ (.slice oa1 (0 + (k)) cap1) (0 + (k)) ([] ++ ((L.take k).flatMap encHa)) rfl HR1.out (some ⟨w.heap.size + 1, 0, none⟩) (1) (1) ((#[.int .i64 c, .int .i64 n, .int .i64 i] : Array Value).toList) rfl (fun e => by cases e) rfl (fun ad e => by cases e; exact World.news_of_block HX1.out) (ha_one ⟨c, n, i⟩) (by unfold maxLen; omega) (by omega) HB1.out.size ?_)
                      intro oa2 cap2 w2 h1 h2 h3
                      have HR2 := Lib.hid h1
                      have HB2 := Lib.hid (HB1.out.trans h2)
                      clear h1 h2 h3
                      refine ⟨fun _ => seeS p0 HB2.out, ?_⟩
                      simp only [Act.put, List.setIfInBounds_toArray, List.set_cons_zero, List.set_cons_succ]
                      refine oneL 21 (by kernel_rfl) rfl rfl (wp_append_both (some 107) rfl rfl _ _ 45 rfl w.heap.size 67 i0 (.agg #[.int .i64 0, .int .i64 0, .int .i64 0]) 3 24 Try.underlying45 hi hz0 hz1 hz2 rfl (by decide) _ (.slice oa2 (0 + (k) + 1) cap2) (0 + (k) + 1) ([] ++ ((L.take k).flatMap encHa) ++ ((#[.int .i64 c, .int .i64 n, .int .i64 i] : Array Value).toList)) rfl HR2.out (if cap = k then some a else some (a.add (k * 3))) (L.length - k) ((cap - k)) ((L.drop k).flatMap encHa) rfl (fun e => by split at e <;> cases e) HL2.out (HW2.out _ HB2.out) (flat_one _) (by unfold maxLen; omega) (by omega) HB2.out.size ?_)
                      intro oaL capL wL h1 h2 h3
                      have HRL : Hid (RowK 67 encHa 3 w.heap.size wL (.slice oaL (0 + (k) + 1 + (L.length - k)) capL) (ins L ⟨c, n, i⟩)) := Lib.hid (own_row h1 HLN.out)
                      have HBL := Lib.hid (HB2.out.trans h2)
                      clear h1 h2 h3
                      refine ⟨fun _ => seeS p0 HBL.out, ?_⟩
                      simp only [Act.put, List.setIfInBounds_toArray, List.set_cons_zero, List.set_cons_succ]
                      have q0 := cell_step HBL.out p0
                      have r0 : wL.frozen? ⟨qb, 0, none⟩ = false := (HBL.out.frozen hqb).trans f0
                      generalize (if cap = k then some a else some (a.add (k * 3))) = oD
                      refine oneL 22 (by kernel_rfl) rfl rfl (wp_runs (some 108) (v := .pointer (some ⟨qb, 0, none⟩)) (w' := wL) rfl (by go_simp) ⟨fun _ => seeS p0 HBL.out, ?_⟩)
                      simp only [Act.put, List.setIfInBounds_toArray, List.set_cons_zero, List.set_cons_succ]
                      refine oneL 23 (by kernel_rfl) rfl rfl (wp_runs (some 109) (v := .pointer (some ⟨qb, 0, none⟩)) (w' := wL) rfl (by go_simp) ⟨fun _ => seeS p0 HBL.out, ?_⟩)
                      simp only [Act.put, List.setIfInBounds_toArray, List.set_cons_zero, List.set_cons_succ]
                      generalize 0 + (k) + 1 + (L.length - k) = nL at HRL ⊢
                      refine oneL 24 (by kernel_rfl) rfl rfl (wp_skips none (w' := wL.setCell ⟨qb, 0, none⟩ (.slice oaL nL capL)) rfl (by go_simp) ⟨fun h => absurd rfl h, ?_⟩)
                      simp only [Act.put]
                      refine doneL (by kernel_rfl) ?_
                      go_wp2
                      go_ret
                      obtain ⟨r1, r2⟩ := HV.out.put HBL.out HRL.out hBw HGI.out
                      exact ⟨ret_int HE.out.symm, by rw [HLL.out]; exact r1, r2⟩
                  · simp only [Act.put, List.setIfInBounds_toArray, List.set_cons_zero, List.set_cons_succ]
                    refine oneL 1 (by kernel_rfl) rfl rfl (wp_runs (some 87) (v := .slice (some ⟨w.heap.size + 1, 0, none⟩) 0 0) (w' := ((w.alloc (.cells #[.int .i64 c, .int .i64 n, .int .i64 i] 67)).alloc (.cells #[] 67)).drew) rfl (by go_simp) ⟨fun _ => seeS p0 ((below_alloc w (.cells #[.int .i64 c, .int .i64 n, .int .i64 i] 67)).trans ((below_alloc (w.alloc (.cells #[.int .i64 c, .int .i64 n, .int .i64 i] 67)) (.cells #[] 67)).mono (by simp))).drew, ?_⟩)
                    simp only [Act.put, List.setIfInBounds_toArray, List.set_cons_zero, List.set_cons_succ]
                    refine oneL 8 (by kernel_rfl) rfl rfl (wp_append_both (some 94) rfl rfl _ _ 45 rfl w.heap.size 67 i0 (.agg #[.int .i64 0, .int .i64 0, .int .i64 0]) 3 24 Try.underlying45 hi hz0 hz1 hz2 rfl (by decide) _ (.slice (some ⟨w.heap.size + 1, 0, none⟩) 0 0) (0) ([]) rfl (own_empty_at (W := (w.alloc (.cells #[.int .i64 c, .int .i64 n, .int .i64 i] 67)).drew) (by simp) _ _ _ (by omega)) (some a) (k) (cap) ((L.take k).flatMap encHa) rfl (fun e => by cases e) HL1.out (HW1.out _ ((below_alloc w (.cells #[.int .i64 c, .int .i64 n, .int .i64 i] 67)).trans ((below_alloc (w.alloc (.cells #[.int .i64 c, .int .i64 n, .int .i64 i] 67)) (.cells #[] 67)).mono (by simp))).drew) (flat_one _) (by unfold maxLen; omega) (by omega) (by simp; omega) ?_)
                    intro oa1 cap1 w1 h1 h2 h3
                    have HR1 := Lib.hid h1
                    have HX1 : Hid (w1.heap[w.heap.size]? = some (.cells #[.int .i64 c, .int .i64 n, .int .i64 i] 67)) := Lib.hid ((h3.block _ (by simp; omega) (by simp [Value.ownBlock])).trans ((Below.heap_alloc (w.alloc (.cells #[.int .i64 c, .int .i64 n, .int .i64 i] 67)) (.cells #[] 67) _ (by simp)).trans (heap_alloc_new w _)))
                    have HB1 := Lib.hid (((below_alloc w (.cells #[.int .i64 c, .int .i64 n, .int .i64 i] 67)).trans ((below_alloc (w.alloc (.cells #[.int .i64 c, .int .i64 n, .int .i64 i] 67)) (.cells #[] 67)).mono (by simp))).drew.trans h2)
                    clear h1 h2 h3
                    refine ⟨fun _ => seeS p0 HB1.out, ?_⟩
                    simp only [Act.put, List.setIfInBounds_toArray, List.set_cons_zero, List.set_cons_succ]
                    refine oneL 14 (by kernel_rfl) rfl rfl (wp_append_both (some 100) rfl rfl _ _ 45 rfl w.heap.size 67 i0 (.agg #[.int .i64 0, .int .i64 0, .int .i64 0]) 3 24 Try.underlying45 hi hz0 hz1 hz2 rfl (by decide) _ (.slice oa1 (0 + (k)) cap1) (0 + (k)) ([] ++ ((L.take k).flatMap encHa)) rfl HR1.out (some ⟨w.heap.size, 0, none⟩) (1) (1) ((#[.int .i64 c, .int .i64 n, .int .i64 i] : Array Value).toList) rfl (fun e => by cases e) rfl (fun ad e => by cases e; exact World.news_of_block HX1.out) (ha_one ⟨c, n, i⟩) (by unfold maxLen; omega) (by omega) HB1.out.size ?_)
                    intro oa2 cap2 w2 h1 h2 h3
                    have HR2 := Lib.hid h1
                    have HB2 := Lib.hid (HB1.out.trans h2)
                    clear h1 h2 h3
                    refine ⟨fun _ => seeS p0 HB2.out, ?_⟩
                    simp only [Act.put, List.setIfInBounds_toArray, List.set_cons_zero, List.set_cons_succ]
                    refine oneL 21 (by kernel_rfl) rfl rfl (wp_append_both (some 107) rfl rfl _ _ 45 rfl w.heap.size 67 i0 (.agg #[.int .i64 0, .int .i64 0, .int .i64 0]) 3 24 Try.underlying45 hi hz0 hz1 hz2 rfl (by decide) _ (.slice oa2 (0 + (k) + 1) cap2) (0 + (k) + 1) ([] ++ ((L.take k).flatMap encHa) ++ ((#[.int .i64 c, .int .i64 n, .int .i64 i] : Array Value).toList)) rfl HR2.out (if cap = k then some a else some (a.add (k * 3))) (L.length - k) ((cap - k)) ((L.drop k).flatMap encHa) rfl (fun e => by split at e <;> cases e) HL2.out (HW2.out _ HB2.out) (flat_one _) (by unfold maxLen; omega) (by omega) HB2.out.size ?_)
                    intro oaL capL wL h1 h2 h3
                    have HRL : Hid (RowK 67 encHa 3 w.heap.size wL (.slice oaL (0 + (k) + 1 + (L.length - k)) capL) (ins L ⟨c, n, i⟩)) := Lib.hid (own_row h1 HLN.out)
                    have HBL := Lib.hid (HB2.out.trans h2)
                    clear h1 h2 h3
                    refine ⟨fun _ => seeS p0 HBL.out, ?_⟩
                    simp only [Act.put, List.setIfInBounds_toArray, List.set_cons_zero, List.set_cons_succ]
                    have q0 := cell_step HBL.out p0
                    have r0 : wL.frozen? ⟨qb, 0, none⟩ = false := (HBL.out.frozen hqb).trans f0
                    generalize (if cap = k then some a else some (a.add (k * 3))) = oD
                    refine oneL 22 (by kernel_rfl) rfl rfl (wp_runs (some 108) (v := .pointer (some ⟨qb, 0, none⟩)) (w' := wL) rfl (by go_simp) ⟨fun _ => seeS p0 HBL.out, ?_⟩)
                    simp only [Act.put, List.setIfInBounds_toArray, List.set_cons_zero, List.set_cons_succ]
                    refine oneL 23 (by kernel_rfl) rfl rfl (wp_runs (some 109) (v := .pointer (some ⟨qb, 0, none⟩)) (w' := wL) rfl (by go_simp) ⟨fun _ => seeS p0 HBL.out, ?_⟩)
                    simp only [Act.put, List.setIfInBounds_toArray, List.set_cons_zero, List.set_cons_succ]
                    generalize 0 + (k) + 1 + (L.length - k) = nL at HRL ⊢
                    refine oneL 24 (by kernel_rfl) rfl rfl (wp_skips none (w' := wL.setCell ⟨qb, 0, none⟩ (.slice oaL nL capL)) rfl (by go_simp) ⟨fun h => absurd rfl h, ?_⟩)
                    simp only [Act.put]
                    refine doneL (by kernel_rfl) ?_
                    go_wp2
                    go_ret
                    obtain ⟨r1, r2⟩ := HV.out.put HBL.out HRL.out hBw HGI.out
                    exact ⟨ret_int HE.out.symm, by rw [HLL.out]; exact r1, r2⟩
                · have d1 : (x.c == c) = false := by simpa using e1
                  have d2 : decide (x.c < c) = false := decide_eq_false (by omega)
                  clear e1 hkl2
                  go_wp2_with fail
                  have HS0 := Lib.hid (seeS p0 (Below.refl w.heap.size w).drew)
                  refine regionL 24 25 (fun w' => w'.cell? ⟨qb, 0, none⟩ = some ((.slice (some a) L.length cap)) ∧ Below w.heap.size w w') (by kernel_rfl) rfl ?_
                  refine takeL 0 (some 86) (v := ?_) rfl (by kernel_rfl) (by kernel_rfl) (by kernel_rfl) (by kernel_rfl) (fun _ _ _ h => h) rfl rfl HS0.out ?_ ?_
                  rotate_left
                  · intro wq hq
                    have g0 := hq.1
                    go_simp
                    with_reducible rfl
                  simp only [Act.put, List.setIfInBounds_toArray, List.set_cons_zero, List.set_cons_succ]
                  refine takeL 2 (some 88) (v := ?_) rfl (by kernel_rfl) (by kernel_rfl) (by kernel_rfl) (by kernel_rfl) (fun _ _ _ h => h) rfl rfl HS0.out ?_ ?_
                  rotate_left
                  · intro wq hq
                    have g0 := hq.1
                    go_simp
                    with_reducible rfl
                  simp only [Act.put, List.setIfInBounds_toArray, List.set_cons_zero, List.set_cons_succ]
                  refine takeL 3 (some 89) (v := ?_) rfl (by kernel_rfl) (by kernel_rfl) (by kernel_rfl) (by kernel_rfl) (fun _ _ _ h => h) rfl rfl HS0.out ?_ ?_
                  rotate_left
                  · intro wq hq
                    have g0 := hq.1
                    go_simp
                    with_reducible rfl
                  simp only [Act.put, List.setIfInBounds_toArray, List.set_cons_zero, List.set_cons_succ]
                  refine takeL 4 (some 90) (v := ?_) rfl (by kernel_rfl) (by kernel_rfl) (by kernel_rfl) (by kernel_rfl) (fun _ _ _ h => h) rfl rfl HS0.out ?_ ?_
                  rotate_left
                  · intro wq hq
                    have g0 := hq.1
                    go_simp
                    with_reducible rfl
                  simp only [Act.put, List.setIfInBounds_toArray, List.set_cons_zero, List.set_cons_succ]
                  refine takeL 5 (some 91) (v := ?_) rfl (by kernel_rfl) (by kernel_rfl) (by kernel_rfl) (by kernel_rfl) (fun _ _ _ h => h) rfl rfl HS0.out ?_ ?_
                  rotate_left
                  · intro wq hq
                    have g0 := hq.1
                    go_simp
                    with_reducible rfl
                  simp only [Act.put, List.setIfInBounds_toArray, List.set_cons_zero, List.set_cons_succ]
                  refine takeL 6 (some 92) (v := ?_) rfl (by kernel_rfl) (by kernel_rfl) (by kernel_rfl) (by kernel_rfl) (fun _ _ _ h => h) rfl rfl HS0.out ?_ ?_
                  rotate_left
                  · intro wq hq
                    have g0 := hq.1
                    go_simp
                    with_reducible rfl
                  simp only [Act.put, List.setIfInBounds_toArray, List.set_cons_zero, List.set_cons_succ]
                  refine takeL 7 (some 93) (v := ?_) rfl (by kernel_rfl) (by kernel_rfl) (by kernel_rfl) (by kernel_rfl) (fun _ _ _ h => h) rfl rfl HS0.out ?_ ?_
                  rotate_left
                  · intro wq hq
                    have g0 := hq.1
                    go_simp
                    with_reducible rfl
                  simp only [Act.put, List.setIfInBounds_toArray, List.set_cons_zero, List.set_cons_succ]
                  refine takeL 9 (some 95) (v := ?_) rfl (by kernel_rfl) (by kernel_rfl) (by kernel_rfl) (by kernel_rfl) (fun _ _ _ h => h) rfl rfl HS0.out ?_ ?_
                  rotate_left
                  · intro wq hq
                    have g0 := hq.1
                    go_simp
                    with_reducible rfl
                  simp only [Act.put, List.setIfInBounds_toArray, List.set_cons_zero, List.set_cons_succ]
                  refine takeL 10 (some 96) (v := ?_) rfl (by kernel_rfl) (by kernel_rfl) (by kernel_rfl) (by kernel_rfl) (fun _ _ _ h => h) rfl rfl HS0.out ?_ ?_
                  rotate_left
                  · intro wq hq
                    have g0 := hq.1
                    go_simp
                    with_reducible rfl
                  simp only [Act.put, List.setIfInBounds_toArray, List.set_cons_zero, List.set_cons_succ]
                  refine takeL 11 (some 97) (v := ?_) rfl (by kernel_rfl) (by kernel_rfl) (by kernel_rfl) (by kernel_rfl) (fun _ _ _ h => h) rfl rfl HS0.out ?_ ?_
                  rotate_left
                  · intro wq hq
                    have g0 := hq.1
                    go_simp
                    with_reducible rfl
                  simp only [Act.put, List.setIfInBounds_toArray, List.set_cons_zero, List.set_cons_succ]
                  refine takeL 12 (some 98) (v := ?_) rfl (by kernel_rfl) (by kernel_rfl) (by kernel_rfl) (by kernel_rfl) (fun _ _ _ h => h) rfl rfl HS0.out ?_ ?_
                  rotate_left
                  · intro wq hq
                    have g0 := hq.1
                    go_simp
                    with_reducible rfl
                  simp only [Act.put, List.setIfInBounds_toArray, List.set_cons_zero, List.set_cons_succ]
                  refine takeL 15 (some 101) (v := ?_) rfl (by kernel_rfl) (by kernel_rfl) (by kernel_rfl) (by kernel_rfl) (fun _ _ _ h => h) rfl rfl HS0.out ?_ ?_
                  rotate_left
                  · intro wq hq
                    have g0 := hq.1
                    go_simp
                    with_reducible rfl
                  simp only [Act.put, List.setIfInBounds_toArray, List.set_cons_zero, List.set_cons_succ]
                  refine takeL 16 (some 102) (v := ?_) rfl (by kernel_rfl) (by kernel_rfl) (by kernel_rfl) (by kernel_rfl) (fun _ _ _ h => h) rfl rfl HS0.out ?_ ?_
                  rotate_left
                  · intro wq hq
                    have g0 := hq.1
                    go_simp
                    with_reducible rfl
                  simp only [Act.put, List.setIfInBounds_toArray, List.set_cons_zero, List.set_cons_succ]
                  refine takeL 17 (some 103) (v := ?_) rfl (by kernel_rfl) (by kernel_rfl) (by kernel_rfl) (by kernel_rfl) (fun _ _ _ h => h) rfl rfl HS0.out ?_ ?_
                  rotate_left
                  · intro wq hq
                    have g0 := hq.1
                    go_simp
                    with_reducible rfl
                  simp only [Act.put, List.setIfInBounds_toArray, List.set_cons_zero, List.set_cons_succ]
                  refine takeL 18 (some 104) (v := ?_) rfl (by kernel_rfl) (by kernel_rfl) (by kernel_rfl) (by kernel_rfl) (fun _ _ _ h => h) rfl rfl HS0.out ?_ ?_
                  rotate_left
                  · intro wq hq
                    have g0 := hq.1
                    go_simp
                    with_reducible rfl
                  simp only [Act.put, List.setIfInBounds_toArray, List.set_cons_zero, List.set_cons_succ]
                  refine takeL 19 (some 105) (v := ?_) rfl (by kernel_rfl) (by kernel_rfl) (by kernel_rfl) (by kernel_rfl) (fun _ _ _ h => h) rfl rfl HS0.out ?_ ?_
                  rotate_left
                  · intro wq hq
                    have g0 := hq.1
                    go_simp
                    with_reducible rfl
                  simp only [Act.put, List.setIfInBounds_toArray, List.set_cons_zero, List.set_cons_succ]
                  refine takeL 20 (some 106) (v := ?_) rfl (by kernel_rfl) (by kernel_rfl) (by kernel_rfl) (by kernel_rfl) (fun _ _ _ h => h) rfl rfl HS0.out ?_ ?_
                  rotate_left
                  · intro wq hq
                    have g0 := hq.1
                    go_simp
                    with_reducible rfl
                  simp only [Act.put, List.setIfInBounds_toArray, List.set_cons_zero, List.set_cons_succ]
                  refine twoL 1 13 (by kernel_rfl) rfl rfl rfl rfl (wp_runs (some 87) (v := .slice (some ⟨w.heap.size, 0, none⟩) 0 0) (w' := (w.alloc (.cells #[] 67)).drew) rfl (by go_simp) ⟨fun _ => seeS p0 (below_alloc w _).drew, ?_⟩) (wp_runs (some 99) (v := .slice (some ⟨w.heap.size, 0, none⟩) 1 1) (w' := (w.alloc (.cells #[.int .i64 c, .int .i64 n, .int .i64 i] 67)).drew) rfl (by go_simp) ⟨fun _ => seeS p0 (below_alloc w _).drew, ?_⟩)
                  · simp only [Act.put, List.setIfInBounds_toArray, List.set_cons_zero, List.set_cons_succ]
                    refine twoL 8 13 (by kernel_rfl) rfl rfl rfl rfl (wp_append_both (some 94) rfl rfl _ _ 45 rfl w.heap.size 67 i0 (.agg #[.int .i64 0, .int .i64 0, .int .i64 0]) 3 24 Try.underlying45 hi hz0 hz1 hz2 rfl (by decide) _ (.slice (some ⟨w.heap.size, 0, none⟩) 0 0) (0) ([]) rfl (own_empty_at (W := w.drew) rfl _ _ _ (Nat.le_refl _)) (some a) (k) (cap) ((L.take k).flatMap encHa) rfl (fun e => by cases e) HL1.out (HW1.out _ (below_alloc w _).drew) (flat_one _) (by unfold maxLen; omega) (by omega) (below_alloc w _).drew.size ?_) (wp_runs (some 99) (v := .slice (some ⟨w.heap.size + 1, 0, none⟩) 1 1) (w' := ((w.alloc (.cells #[] 67)).alloc (.cells #[.int .i64 c, .int .i64 n, .int .i64 i] 67)).drew) rfl (by go_simp) ⟨fun _ => seeS p0 ((below_alloc w (.cells #[] 67)).trans ((below_alloc (w.alloc (.cells #[] 67)) (.cells #[.int .i64 c, .int .i64 n, .int .i64 i] 67)).mono (by simp))).drew, ?_⟩)
                    · intro oa1 cap1 w1 h1 h2 h3
                      have HR1 := Lib.hid h1
                      have HB1 := Lib.hid ((below_alloc w _).drew.trans h2)
                      clear h1 h2 h3
                      refine ⟨fun _ => seeS p0 HB1.out, ?_⟩
                      simp only [Act.put, List.setIfInBounds_toArray, List.set_cons_zero, List.set_cons_succ]
                      refine oneL 13 (by kernel_rfl) rfl rfl (wp_runs (some 99) (v := .slice (some ⟨w1.heap.size, 0, none⟩) 1 1) (w' := w1.alloc (.cells #[.int .i64 c, .int .i64 n, .int .i64 i] 67)) rfl (by go_simp) ⟨fun _ => seeS p0 (HB1.out.trans ((below_alloc w1 _).mono HB1.out.size)), ?_⟩)
                      simp only [Act.put, List.setIfInBounds_toArray, List.set_cons_zero, List.set_cons_succ]
                      refine oneL 14 (by kernel_rfl) rfl rfl (wp_append_both (some 100) rfl rfl _ _ 45 rfl w.heap.size 67 i0 (.agg #[.int .i64 0, .int .i64 0, .int .i64 0]) 3 24 Try.underlying45 hi hz0 hz1 hz2 rfl (by decide) _ (.slice oa1 (0 + (k)) cap1) (0 + (k)) ([] ++ ((L.take k).flatMap encHa)) rfl (own_grow HR1.out (below_alloc w1 _)) (some ⟨w1.heap.size, 0, none⟩) (1) (1) ((#[.int .i64 c, .int .i64 n, .int .i64 i] : Array Value).toList) rfl (fun e => by cases e) rfl (fun ad e => by cases e; exact World.news_of_block (heap_alloc_new w1 _)) (ha_one ⟨c, n, i⟩) (by unfold maxLen; omega) (by omega) (by have := HB1.out.size; simp; omega) ?_)
                      intro oa2 cap2 w2 h1 h2 h3
                      have HR2 := Lib.hid h1
                      have HB2 := Lib.hid ((HB1.out.trans ((below_alloc w1 _).mono HB1.out.size)).trans h2)
                      clear h1 h2 h3
                      refine ⟨fun _ => seeS p0 HB2.out, ?_⟩
                      simp only [Act.put, List.setIfInBounds_toArray, List.set_cons_zero, List.set_cons_succ]
                      refine oneL 21 (by kernel_rfl) rfl rfl (wp_append_both (some 107) rfl rfl _ _ 45 rfl w.heap.size 67 i0 (.agg #[.int .i64 0, .int .i64 0, .int .i64 0]) 3 24 Try.underlying45 hi hz0 hz1 hz2 rfl (by decide) _ (.slice oa2 (0 + (k) + 1) cap2) (0 + (k) + 1) ([] ++ ((L.take k).flatMap encHa) ++ ((#[.int .i64 c, .int .i64 n, .int .i64 i] : Array Value).toList)) rfl HR2.out (if cap = k then some a else some (a.add (k * 3))) (L.length - k) ((cap - k)) ((L.drop k).flatMap encHa) rfl (fun e => by split at e <;> cases e) HL2.out (HW2.out _ HB2.out) (flat_one _) (by unfold maxLen; omega) (by omega) HB2.out.size ?_)
                      intro oaL capL wL h1 h2 h3
                      have HRL : Hid (RowK 67 encHa 3 w.heap.size wL (.slice oaL (0 + (k) + 1 + (L.length - k)) capL) (ins L ⟨c, n, i⟩)) := Lib.hid (own_row h1 HLN.out)
                      have HBL := Lib.hid (HB2.out.trans h2)
                      clear h1 h2 h3
                      refine ⟨fun _ => seeS p0 HBL.out, ?_⟩
                      simp only [Act.put, List.setIfInBounds_toArray, List.set_cons_zero, List.set_cons_succ]
                      have q0 := cell_step HBL.out p0
                      have r0 : wL.frozen? ⟨qb, 0, none⟩ = false := (HBL.out.frozen hqb).trans f0
                      generalize (if cap = k then some a else some (a.add (k * 3))) = oD
                      refine oneL 22 (by kernel_rfl) rfl rfl (wp_runs (some 108) (v := .pointer (some ⟨qb, 0, none⟩)) (w' := wL) rfl (by go_simp) ⟨fun _ => seeS p0 HBL.out, ?_⟩)
                      simp only [Act.put, List.setIfInBounds_toArray, List.set_cons_zero, List.set_cons_succ]
                      refine oneL 23 (by kernel_rfl) rfl rfl (wp_runs (some 109) (v := .pointer (some ⟨qb, 0, none⟩)) (w' := wL) rfl (by go_simp) ⟨fun _ => seeS p0 HBL.out, ?_⟩)
                      simp only [Act.put, List.setIfInBounds_toArray, List.set_cons_zero, List.set_cons_succ]
                      generalize 0 + (k) + 1 + (L.length - k) = nL at HRL ⊢
                      refine oneL 24 (by kernel_rfl) rfl rfl (wp_skips none (w' := wL.setCell ⟨qb, 0, none⟩ (.slice oaL nL capL)) rfl (by go_simp) ⟨fun h => absurd rfl h, ?_⟩)
                      simp only [Act.put]
                      refine doneL (by kernel_rfl) ?_
                      go_wp2
                      go_ret
                      obtain ⟨r1, r2⟩ := HV.out.put HBL.out HRL.out hBw HGI.out
                      exact ⟨ret_int HE.out.symm, by rw [HLL.out]; exact r1, r2⟩
                    · simp only [Act.put, List.setIfInBounds_toArray, List.set_cons_zero, List.set_cons_succ]
                      refine oneL 8 (by kernel_rfl) rfl rfl (wp_append_both (some 94) rfl rfl _ _ 45 rfl w.heap.size 67 i0 (.agg #[.int .i64 0, .int .i64 0, .int .i64 0]) 3 24 Try.underlying45 hi hz0 hz1 hz2 rfl (by decide) _ (.slice (some ⟨w.heap.size, 0, none⟩) 0 0) (0) ([]) rfl (own_grow (own_empty_at (W := w.drew) rfl _ _ _ (Nat.le_refl _)) (below_alloc _ _)) (some a) (k) (cap) ((L.take k).flatMap encHa) rfl (fun e => by cases e) HL1.out (HW1.out _ ((below_alloc w (.cells #[] 67)).trans ((below_alloc (w.alloc (.cells #[] 67)) (.cells #[.int .i64 c, .int .i64 n, .int .i64 i] 67)).mono (by simp))).drew) (flat_one _) (by unfold maxLen; omega) (by omega) (by simp; omega) ?_)
                      intro oa1 cap1 w1 h1 h2 h3
                      have HR1 := Lib.hid h1
                      have HX1 : Hid (w1.heap[w.heap.size + 1]? = some (.cells #[.int .i64 c, .int .i64 n, .int .i64 i] 67)) := Lib.hid ((h3.block _ (by simp) (by simp [Value.ownBlock])).trans (by have := heap_alloc_new (w.alloc (.cells #[] 67)) (.cells #[.int .i64 c, .int .i64 n, .int .i64 i] 67); rw [show (w.alloc (.cells #[] 67)).heap.size = w.heap.size + 1 by simp] at this; exact this))
                      have HB1 := Lib.hid (((below_alloc w (.cells #[] 67)).trans ((below_alloc (w.alloc (.cells #[] 67)) (.cells #[.int .i64 c, .int .i64 n, .int .i64 i] 67)).mono (by simp))).drew.trans h2)
                      clear h1 h2 h3
                      refine ⟨fun _ => seeS p0 HB1.out, ?_⟩
                      simp only [Act.put, List.setIfInBounds_toArray, List.set_cons_zero, List.set_cons_succ]
                      refine oneL 14 (by kernel_rfl) rfl rfl (wp_append_both (some 100) rfl rfl _ _ 45 rfl w.heap.size 67 i0 (.agg #[.int .i64 0, .int .i64 0, .int .i64 0]) 3 24 Try.underlying45 hi hz0 hz1 hz2 rfl (by decide) _ (.slice oa1 (0 + (k)) cap1) (0 + (k)) ([] ++ ((L.take k).flatMap encHa)) rfl HR1.out (some ⟨w.heap.size + 1, 0, none⟩) (1) (1) ((#[.int .i64 c, .int .i64 n, .int .i64 i] : Array Value).toList) rfl (fun e => by cases e) rfl (fun ad e => by cases e; exact World.news_of_block HX1.out) (ha_one ⟨c, n, i⟩) (by unfold maxLen; omega) (by omega) HB1.out.size ?_)
                      intro oa2 cap2 w2 h1 h2 h3
                      have HR2 := Lib.hid h1
                      have HB2 := Lib.hid (HB1.out.trans h2)
                      clear h1 h2 h3
                      refine ⟨fun _ => seeS p0 HB2.out, ?_⟩
                      simp only [Act.put, List.setIfInBounds_toArray, List.set_cons_zero, List.set_cons_succ]
                      refine oneL 21 (by kernel_rfl) rfl rfl (wp_append_both (some 107) rfl rfl _ _ 45 rfl w.heap.size 67 i0 (.agg #[.int .i64 0, .int .i64 0, .int .i64 0]) 3 24 Try.underlying45 hi hz0 hz1 hz2 rfl (by decide) _ (.slice oa2 (0 + (k) + 1) cap2) (0 + (k) + 1) ([] ++ ((L.take k).flatMap encHa) ++ ((#[.int .i64 c, .int .i64 n, .int .i64 i] : Array Value).toList)) rfl HR2.out (if cap = k then some a else some (a.add (k * 3))) (L.length - k) ((cap - k)) ((L.drop k).flatMap encHa) rfl (fun e => by split at e <;> cases e) HL2.out (HW2.out _ HB2.out) (flat_one _) (by unfold maxLen; omega) (by omega) HB2.out.size ?_)
                      intro oaL capL wL h1 h2 h3
                      have HRL : Hid (RowK 67 encHa 3 w.heap.size wL (.slice oaL (0 + (k) + 1 + (L.length - k)) capL) (ins L ⟨c, n, i⟩)) := Lib.hid (own_row h1 HLN.out)
                      have HBL := Lib.hid (HB2.out.trans h2)
                      clear h1 h2 h3
                      refine ⟨fun _ => seeS p0 HBL.out, ?_⟩
                      simp only [Act.put, List.setIfInBounds_toArray, List.set_cons_zero, List.set_cons_succ]
                      have q0 := cell_step HBL.out p0
                      have r0 : wL.frozen? ⟨qb, 0, none⟩ = false := (HBL.out.frozen hqb).trans f0
                      generalize (if cap = k then some a else some (a.add (k * 3))) = oD
                      refine oneL 22 (by kernel_rfl) rfl rfl (wp_runs (some 108) (v := .pointer (some ⟨qb, 0, none⟩)) (w' := wL) rfl (by go_simp) ⟨fun _ => seeS p0 HBL.out, ?_⟩)
                      simp only [Act.put, List.setIfInBounds_toArray, List.set_cons_zero, List.set_cons_succ]
                      refine oneL 23 (by kernel_rfl) rfl rfl (wp_runs (some 109) (v := .pointer (some ⟨qb, 0, none⟩)) (w' := wL) rfl (by go_simp) ⟨fun _ => seeS p0 HBL.out, ?_⟩)
                      simp only [Act.put, List.setIfInBounds_toArray, List.set_cons_zero, List.set_cons_succ]
                      generalize 0 + (k) + 1 + (L.length - k) = nL at HRL ⊢
                      refine oneL 24 (by kernel_rfl) rfl rfl (wp_skips none (w' := wL.setCell ⟨qb, 0, none⟩ (.slice oaL nL capL)) rfl (by go_simp) ⟨fun h => absurd rfl h, ?_⟩)
                      simp only [Act.put]
                      refine doneL (by kernel_rfl) ?_
                      go_wp2
                      go_ret
                      obtain ⟨r1, r2⟩ := HV.out.put HBL.out HRL.out hBw HGI.out
                      exact ⟨ret_int HE.out.symm, by rw [HLL.out]; exact r1, r2⟩
                  · simp only [Act.put, List.setIfInBounds_toArray, List.set_cons_zero, List.set_cons_succ]
                    refine oneL 1 (by kernel_rfl) rfl rfl (wp_runs (some 87) (v := .slice (some ⟨w.heap.size + 1, 0, none⟩) 0 0) (w' := ((w.alloc (.cells #[.int .i64 c, .int .i64 n, .int .i64 i] 67)).alloc (.cells #[] 67)).drew) rfl (by go_simp) ⟨fun _ => seeS p0 ((below_alloc w (.cells #[.int .i64 c, .int .i64 n, .int .i64 i] 67)).trans ((below_alloc (w.alloc (.cells #[.int .i64 c, .int .i64 n, .int .i64 i] 67)) (.cells #[] 67)).mono (by simp))).drew, ?_⟩)
                    simp only [Act.put, List.setIfInBounds_toArray, List.set_cons_zero, List.set_cons_succ]
                    refine oneL 8 (by kernel_rfl) rfl rfl (wp_append_both (some 94) rfl rfl _ _ 45 rfl w.heap.size 67 i0 (.agg #[.int .i64 0, .int .i64 0, .int .i64 0]) 3 24 Try.underlying45 hi hz0 hz1 hz2 rfl (by decide) _ (.slice (some ⟨w.heap.size + 1, 0, none⟩) 0 0) (0) ([]) rfl (own_empty_at (W := (w.alloc (.cells #[.int .i64 c, .int .i64 n, .int .i64 i] 67)).drew) (by simp) _ _ _ (by omega)) (some a) (k) (cap) ((L.take k).flatMap encHa) rfl (fun e => by cases e) HL1.out (HW1.out _ ((below_alloc w (.cells #[.int .i64 c, .int .i64 n, .int .i64 i] 67)).trans ((below_alloc (w.alloc (.cells #[.int .i64 c, .int .i64 n, .int .i64 i] 67)) (.cells #[] 67)).mono (by simp))).drew) (flat_one _) (by unfold maxLen; omega) (by omega) (by simp; omega) ?_)
                    intro oa1 cap1 w1 h1 h2 h3
                    have HR1 := Lib.hid h1
                    have HX1 : Hid (w1.heap[w.heap.size]? = some (.cells #[.int .i64 c, .int .i64 n, .int .i64 i] 67)) := Lib.hid ((h3.block _ (by simp; omega) (by simp [Value.ownBlock])).trans ((Below.heap_alloc (w.alloc (.cells #[.int .i64 c, .int .i64 n, .int .i64 i] 67)) (.cells #[] 67) _ (by simp)).trans (heap_alloc_new w _)))
                    have HB1 := Lib.hid (((below_alloc w (.cells #[.int .i64 c, .int .i64 n, .int .i64 i] 67)).trans ((below_alloc (w.alloc (.cells #[.int .i64 c, .int .i64 n, .int .i64 i] 67)) (.cells #[] 67)).mono (by simp))).drew.trans h2)
                    clear h1 h2 h3
                    refine ⟨fun _ => seeS p0 HB1.out, ?_⟩
                    simp only [Act.put, List.setIfInBounds_toArray, List.set_cons_zero, List.set_cons_succ]
                    refine oneL 14 (by kernel_rfl) rfl rfl (wp_append_both (some 100) rfl rfl _ _ 45 rfl w.heap.size 67 i0 (.agg #[.int .i64 0, .int .i64 0, .int .i64 0]) 3 24 Try.underlying45 hi hz0 hz1 hz2 rfl (by decide) _ (.slice oa1 (0 + (k)) cap1) (0 + (k)) ([] ++ ((L.take k).flatMap encHa)) rfl HR1.out (some ⟨w.heap.size, 0, none⟩) (1) (1) ((#[.int .i64 c, .int .i64 n, .int .i64 i] : Array Value).toList) rfl (fun e => by cases e) rfl (fun ad e => by cases e; exact World.news_of_block HX1.out) (ha_one ⟨c, n, i⟩) (by unfold maxLen; omega) (by omega) HB1.out.size ?_)
                    intro oa2 cap2 w2 h1 h2 h3
                    have HR2 := Lib.hid h1
                    have HB2 := Lib.hid (HB1.out.trans h2)
                    clear h1 h2 h3
                    refine ⟨fun _ => seeS p0 HB2.out, ?_⟩
                    simp only [Act.put, List.setIfInBounds_toArray, List.set_cons_zero, List.set_cons_succ]
                    refine oneL 21 (by kernel_rfl) rfl rfl (wp_append_both (some 107) rfl rfl _ _ 45 rfl w.heap.size 67 i0 (.agg #[.int .i64 0, .int .i64 0, .int .i64 0]) 3 24 Try.underlying45 hi hz0 hz1 hz2 rfl (by decide) _ (.slice oa2 (0 + (k) + 1) cap2) (0 + (k) + 1) ([] ++ ((L.take k).flatMap encHa) ++ ((#[.int .i64 c, .int .i64 n, .int .i64 i] : Array Value).toList)) rfl HR2.out (if cap = k then some a else some (a.add (k * 3))) (L.length - k) ((cap - k)) ((L.drop k).flatMap encHa) rfl (fun e => by split at e <;> cases e) HL2.out (HW2.out _ HB2.out) (flat_one _) (by unfold maxLen; omega) (by omega) HB2.out.size ?_)
                    intro oaL capL wL h1 h2 h3
                    have HRL : Hid (RowK 67 encHa 3 w.heap.size wL (.slice oaL (0 + (k) + 1 + (L.length - k)) capL) (ins L ⟨c, n, i⟩)) := Lib.hid (own_row h1 HLN.out)
                    have HBL := Lib.hid (HB2.out.trans h2)
                    clear h1 h2 h3
                    refine ⟨fun _ => seeS p0 HBL.out, ?_⟩
                    simp only [Act.put, List.setIfInBounds_toArray, List.set_cons_zero, List.set_cons_succ]
                    have q0 := cell_step HBL.out p0
                    have r0 : wL.frozen? ⟨qb, 0, none⟩ = false := (HBL.out.frozen hqb).trans f0
                    generalize (if cap = k then some a else some (a.add (k * 3))) = oD
                    refine oneL 22 (by kernel_rfl) rfl rfl (wp_runs (some 108) (v := .pointer (some ⟨qb, 0, none⟩)) (w' := wL) rfl (by go_simp) ⟨fun _ => seeS p0 HBL.out, ?_⟩)
                    simp only [Act.put, List.setIfInBounds_toArray, List.set_cons_zero, List.set_cons_succ]
                    refine oneL 23 (by kernel_rfl) rfl rfl (wp_runs (some 109) (v := .pointer (some ⟨qb, 0, none⟩)) (w' := wL) rfl (by go_simp) ⟨fun _ => seeS p0 HBL.out, ?_⟩)
                    simp only [Act.put, List.setIfInBounds_toArray, List.set_cons_zero, List.set_cons_succ]
                    generalize 0 + (k) + 1 + (L.length - k) = nL at HRL ⊢
                    refine oneL 24 (by kernel_rfl) rfl rfl (wp_skips none (w' := wL.setCell ⟨qb, 0, none⟩ (.slice oaL nL capL)) rfl (by go_simp) ⟨fun h => absurd rfl h, ?_⟩)
                    simp only [Act.put]
                    refine doneL (by kernel_rfl) ?_
                    go_wp2
                    go_ret
                    obtain ⟨r1, r2⟩ := HV.out.put HBL.out HRL.out hBw HGI.out
                    exact ⟨ret_int HE.out.symm, by rw [HLL.out]; exact r1, r2⟩
              · have hlt2 : ¬ ((k : Int) < (L.length : Int)) := by omega
                clear hlt
                go_wp2_with fail
                have HS0 := Lib.hid (seeS p0 (Below.refl w.heap.size w).drew)
                refine regionL 24 25 (fun w' => w'.cell? ⟨qb, 0, none⟩ = some ((.slice (some a) L.length cap)) ∧ Below w.heap.size w w') (by kernel_rfl) rfl ?_
                refine takeL 0 (some 86) (v := ?_) rfl (by kernel_rfl) (by kernel_rfl) (by kernel_rfl) (by kernel_rfl) (fun _ _ _ h => h) rfl rfl HS0.out ?_ ?_
                rotate_left
                · intro wq hq
                  have g0 := hq.1
                  go_simp
                  with_reducible rfl
                simp only [Act.put, List.setIfInBounds_toArray, List.set_cons_zero, List.set_cons_succ]
                refine takeL 2 (some 88) (v := ?_) rfl (by kernel_rfl) (by kernel_rfl) (by kernel_rfl) (by kernel_rfl) (fun _ _ _ h => h) rfl rfl HS0.out ?_ ?_
                rotate_left
                · intro wq hq
                  have g0 := hq.1
                  go_simp
                  with_reducible rfl
                simp only [Act.put, List.setIfInBounds_toArray, List.set_cons_zero, List.set_cons_succ]
                refine takeL 3 (some 89) (v := ?_) rfl (by kernel_rfl) (by kernel_rfl) (by kernel_rfl) (by kernel_rfl) (fun _ _ _ h => h) rfl rfl HS0.out ?_ ?_
                rotate_left
                · intro wq hq
                  have g0 := hq.1
                  go_simp
                  with_reducible rfl
                simp only [Act.put, List.setIfInBounds_toArray, List.set_cons_zero, List.set_cons_succ]
                refine takeL 4 (some 90) (v := ?_) rfl (by kernel_rfl) (by kernel_rfl) (by kernel_rfl) (by kernel_rfl) (fun _ _ _ h => h) rfl rfl HS0.out ?_ ?_
                rotate_left
                · intro wq hq
                  have g0 := hq.1
                  go_simp
                  with_reducible rfl
                simp only [Act.put, List.setIfInBounds_toArray, List.set_cons_zero, List.set_cons_succ]
                refine takeL 5 (some 91) (v := ?_) rfl (by kernel_rfl) (by kernel_rfl) (by kernel_rfl) (by kernel_rfl) (fun _ _ _ h => h) rfl rfl HS0.out ?_ ?_
                rotate_left
                · intro wq hq
                  have g0 := hq.1
                  go_simp
                  with_reducible rfl
                simp only [Act.put, List.setIfInBounds_toArray, List.set_cons_zero, List.set_cons_succ]
                refine takeL 6 (some 92) (v := ?_) rfl (by kernel_rfl) (by kernel_rfl) (by kernel_rfl) (by kernel_rfl) (fun _ _ _ h => h) rfl rfl HS0.out ?_ ?_
                rotate_left
                · intro wq hq
                  have g0 := hq.1
                  go_simp
                  with_reducible rfl
                simp only [Act.put, List.setIfInBounds_toArray, List.set_cons_zero, List.set_cons_succ]
                refine takeL 7 (some 93) (v := ?_) rfl (by kernel_rfl) (by kernel_rfl) (by kernel_rfl) (by kernel_rfl) (fun _ _ _ h => h) rfl rfl HS0.out ?_ ?_
                rotate_left
                · intro wq hq
                  have g0 := hq.1
                  go_simp
                  with_reducible rfl
                simp only [Act.put, List.setIfInBounds_toArray, List.set_cons_zero, List.set_cons_succ]
                refine takeL 9 (some 95) (v := ?_) rfl (by kernel_rfl) (by kernel_rfl) (by kernel_rfl) (by kernel_rfl) (fun _ _ _ h => h) rfl rfl HS0.out ?_ ?_
                rotate_left
                · intro wq hq
                  have g0 := hq.1
                  go_simp
                  with_reducible rfl
                simp only [Act.put, List.setIfInBounds_toArray, List.set_cons_zero, List.set_cons_succ]
                refine takeL 10 (some 96) (v := ?_) rfl (by kernel_rfl) (by kernel_rfl) (by kernel_rfl) (by kernel_rfl) (fun _ _ _ h => h) rfl rfl HS0.out ?_ ?_
                rotate_left
                · intro wq hq
                  have g0 := hq.1
                  go_simp
                  with_reducible rfl
                simp only [Act.put, List.setIfInBounds_toArray, List.set_cons_zero, List.set_cons_succ]
                refine takeL 11 (some 97) (v := ?_) rfl (by kernel_rfl) (by kernel_rfl) (by kernel_rfl) (by kernel_rfl) (fun _ _ _ h => h) rfl rfl HS0.out ?_ ?_
                rotate_left
                · intro wq hq
                  have g0 := hq.1
                  go_simp
                  with_reducible rfl
                simp only [Act.put, List.setIfInBounds_toArray, List.set_cons_zero, List.set_cons_succ]
                refine takeL 12 (some 98) (v := ?_) rfl (by kernel_rfl) (by kernel_rfl) (by kernel_rfl) (by kernel_rfl) (fun _ _ _ h => h) rfl rfl HS0.out ?_ ?_
                rotate_left
                · intro wq hq
                  have g0 := hq.1
                  go_simp
                  with_reducible rfl
                simp only [Act.put, List.setIfInBounds_toArray, List.set_cons_zero, List.set_cons_succ]
                refine takeL 15 (some 101) (v := ?_) rfl (by kernel_rfl) (by kernel_rfl) (by kernel_rfl) (by kernel_rfl) (fun _ _ _ h => h) rfl rfl HS0.out ?_ ?_
                rotate_left
                · intro wq hq
                  have g0 := hq.1
                  go_simp
                  with_reducible rfl
                simp only [Act.put, List.setIfInBounds_toArray, List.set_cons_zero, List.set_cons_succ]
                refine takeL 16 (some 102) (v := ?_) rfl (by kernel_rfl) (by kernel_rfl) (by kernel_rfl) (by kernel_rfl) (fun _ _ _ h => h) rfl rfl HS0.out ?_ ?_
                rotate_left
                · intro wq hq
                  have g0 := hq.1
                  go_simp
                  with_reducible rfl
                simp only [Act.put, List.setIfInBounds_toArray, List.set_cons_zero, List.set_cons_succ]
                refine takeL 17 (some 103) (v := ?_) rfl (by kernel_rfl) (by kernel_rfl) (by kernel_rfl) (by kernel_rfl) (fun _ _ _ h => h) rfl rfl HS0.out ?_ ?_
                rotate_left
                · intro wq hq
                  have g0 := hq.1
                  go_simp
                  with_reducible rfl
                simp only [Act.put, List.setIfInBounds_toArray, List.set_cons_zero, List.set_cons_succ]
                refine takeL 18 (some 104) (v := ?_) rfl (by kernel_rfl) (by kernel_rfl) (by kernel_rfl) (by kernel_rfl) (fun _ _ _ h => h) rfl rfl HS0.out ?_ ?_
                rotate_left
                · intro wq hq
                  have g0 := hq.1
                  go_simp
                  with_reducible rfl
                simp only [Act.put, List.setIfInBounds_toArray, List.set_cons_zero, List.set_cons_succ]
                refine takeL 19 (some 105) (v := ?_) rfl (by kernel_rfl) (by kernel_rfl) (by kernel_rfl) (by kernel_rfl) (fun _ _ _ h => h) rfl rfl HS0.out ?_ ?_
                rotate_left
                · intro wq hq
                  have g0 := hq.1
                  go_simp
                  with_reducible rfl
                simp only [Act.put, List.setIfInBounds_toArray, List.set_cons_zero, List.set_cons_succ]
                refine takeL 20 (some 106) (v := ?_) rfl (by kernel_rfl) (by kernel_rfl) (by kernel_rfl) (by kernel_rfl) (fun _ _ _ h => h) rfl rfl HS0.out ?_ ?_
                rotate_left
                · intro wq hq
                  have g0 := hq.1
                  go_simp
                  with_reducible rfl
                simp only [Act.put, List.setIfInBounds_toArray, List.set_cons_zero, List.set_cons_succ]
                refine twoL 1 13 (by kernel_rfl) rfl rfl rfl rfl (wp_runs (some 87) (v := .slice (some ⟨w.heap.size, 0, none⟩) 0 0) (w' := (w.alloc (.cells #[] 67)).drew) rfl (by go_simp) ⟨fun _ => seeS p0 (below_alloc w _).drew, ?_⟩) (wp_runs (some 99) (v := .slice (some ⟨w.heap.size, 0, none⟩) 1 1) (w' := (w.alloc (.cells #[.int .i64 c, .int .i64 n, .int .i64 i] 67)).drew) rfl (by go_simp) ⟨fun _ => seeS p0 (below_alloc w _).drew, ?_⟩)
                · simp only [Act.put, List.setIfInBounds_toArray, List.set_cons_zero, List.set_cons_succ]
                  refine twoL 8 13 (by kernel_rfl) rfl rfl rfl rfl (wp_append_both (some 94) rfl rfl _ _ 45 rfl w.heap.size 67 i0 (.agg #[.int .i64 0, .int .i64 0, .int .i64 0]) 3 24 Try.underlying45 hi hz0 hz1 hz2 rfl (by decide) _ (.slice (some ⟨w.heap.size, 0, none⟩) 0 0) (0) ([]) rfl (own_empty_at (W := w.drew) rfl _ _ _ (Nat.le_refl _)) (some a) (k) (cap) ((L.take k).flatMap encHa) rfl (fun e => by cases e) HL1.out (HW1.out _ (below_alloc w _).drew) (flat_one _) (by unfold maxLen; omega) (by omega) (below_alloc w _).drew.size ?_) (wp_runs (some 99) (v := .slice (some ⟨w.heap.size + 1, 0, none⟩) 1 1) (w' := ((w.alloc (.cells #[] 67)).alloc (.cells #[.int .i64 c, .int .i64 n, .int .i64 i] 67)).drew) rfl (by go_simp) ⟨fun _ => seeS p0 ((below_alloc w (.cells #[] 67)).trans ((below_alloc (w.alloc (.cells #[] 67)) (.cells #[.int .i64 c, .int .i64 n, .int .i64 i] 67)).mono (by simp))).drew, ?_⟩)
                  · intro oa1 cap1 w1 h1 h2 h3
                    have HR1 := Lib.hid h1
                    have HB1 := Lib.hid ((below_alloc w _).drew.trans h2)
                    clear h1 h2 h3
                    refine ⟨fun _ => seeS p0 HB1.out, ?_⟩
                    simp only [Act.put, List.setIfInBounds_toArray, List.set_cons_zero, List.set_cons_succ]
                    refine oneL 13 (by kernel_rfl) rfl rfl (wp_runs (some 99) (v := .slice (some ⟨w1.heap.size, 0, none⟩) 1 1) (w' := w1.alloc (.cells #[.int .i64 c, .int .i64 n, .int .i64 i] 67)) rfl (by go_simp) ⟨fun _ => seeS p0 (HB1.out.trans ((below_alloc w1 _).mono HB1.out.size)), ?_⟩)
                    simp only [Act.put, List.setIfInBounds_toArray, List.set_cons_zero, List.set_cons_succ]
                    refine oneL 14 (by kernel_rfl) rfl rfl (wp_append_both (some 100) rfl rfl _ _ 45 rfl w.heap.size 67 i0 (.agg #[.int .i64 0, .int .i64 0, .int .i64 0]) 3 24 Try.underlying45 hi hz0 hz1 hz2 rfl (by decide) _ (.slice oa1 (0 + (k)) cap1) (0 + (k)) ([] ++ ((L.take k).flatMap encHa)) rfl (own_grow HR1.out (below_alloc w1 _)) (some ⟨w1.heap.size, 0, none⟩) (1) (1) ((#[.int .i64 c, .int .i64 n, .int .i64 i] : Array Value).toList) rfl (fun e => by cases e) rfl (fun ad e => by cases e; exact World.news_of_block (heap_alloc_new w1 _)) (ha_one ⟨c, n, i⟩) (by unfold maxLen; omega) (by omega) (by have := HB1.out.size; simp; omega) ?_)
                    intro oa2 cap2 w2 h1 h2 h3
                    have HR2 := Lib.hid h1
                    have HB2 := Lib.hid ((HB1.out.trans ((below_alloc w1 _).mono HB1.out.size)).trans h2)
                    clear h1 h2 h3
                    refine ⟨fun _ => seeS p0 HB2.out, ?_⟩
                    simp only [Act.put, List.setIfInBounds_toArray, List.set_cons_zero, List.set_cons_succ]
                    refine oneL 21 (by kernel_rfl) rfl rfl (wp_append_both (some 107) rfl rfl _ _ 45 rfl w.heap.size 67 i0 (.agg #[.int .i64 0, .int .i64 0, .int .i64 0]) 3 24 Try.underlying45 hi hz0 hz1 hz2 rfl (by decide) _ (.slice oa2 (0 + (k) + 1) cap2) (0 + (k) + 1) ([] ++ ((L.take k).flatMap encHa) ++ ((#[.int .i64 c, .int .i64 n, .int .i64 i] : Array Value).toList)) rfl HR2.out (if cap = k then some a else some (a.add (k * 3))) (L.length - k) ((cap - k)) ((L.drop k).flatMap encHa) rfl (fun e => by split at e <;> cases e) HL2.out (HW2.out _ HB2.out) (flat_one _) (by unfold maxLen; omega) (by omega) HB2.out.size ?_)
                    intro oaL capL wL h1 h2 h3
                    have HRL : Hid (RowK 67 encHa 3 w.heap.size wL (.slice oaL (0 + (k) + 1 + (L.length - k)) capL) (ins L ⟨c, n, i⟩)) := Lib.hid (own_row h1 HLN.out)
                    have HBL := Lib.hid (HB2.out.trans h2)
                    clear h1 h2 h3
                    refine ⟨fun _ => seeS p0 HBL.out, ?_⟩
                    simp only [Act.put, List.setIfInBounds_toArray, List.set_cons_zero, List.set_cons_succ]
                    have q0 := cell_step HBL.out p0
                    have r0 : wL.frozen? ⟨qb, 0, none⟩ = false := (HBL.out.frozen hqb).trans f0
                    generalize (if cap = k then some a else some (a.add (k * 3))) = oD
                    refine oneL 22 (by kernel_rfl) rfl rfl (wp_runs (some 108) (v := .pointer (some ⟨qb, 0, none⟩)) (w' := wL) rfl (by go_simp) ⟨fun _ => seeS p0 HBL.out, ?_⟩)
                    simp only [Act.put, List.setIfInBounds_toArray, List.set_cons_zero, List.set_cons_succ]
                    refine oneL 23 (by kernel_rfl) rfl rfl (wp_runs (some 109) (v := .pointer (some ⟨qb, 0, none⟩)) (w' := wL) rfl (by go_simp) ⟨fun _ => seeS p0 HBL.out, ?_⟩)
                    simp only [Act.put, List.setIfInBounds_toArray, List.set_cons_zero, List.set_cons_succ]
                    generalize 0 + (k) + 1 + (L.length - k) = nL at HRL ⊢
                    refine oneL 24 (by kernel_rfl) rfl rfl (wp_skips none (w' := wL.setCell ⟨qb, 0, none⟩ (.slice oaL nL capL)) rfl (by go_simp) ⟨fun h => absurd rfl h, ?_⟩)
                    simp only [Act.put]
                    refine doneL (by kernel_rfl) ?_
                    go_wp2
                    go_ret
                    obtain ⟨r1, r2⟩ := HV.out.put HBL.out HRL.out hBw HGI.out
                    exact ⟨ret_int HE.out.symm, by rw [HLL.out]; exact r1, r2⟩
                  · simp only [Act.put, List.setIfInBounds_toArray, List.set_cons_zero, List.set_cons_succ]
                    refine oneL 8 (by kernel_rfl) rfl rfl (wp_append_both (some 94) rfl rfl _ _ 45 rfl w.heap.size 67 i0 (.agg #[.int .i64 0, .int .i64 0, .int .i64 0]) 3 24 Try.underlying45 hi hz0 hz1 hz2 rfl (by decide) _ (.slice (some ⟨w.heap.size, 0, none⟩) 0 0) (0) ([]) rfl (own_grow (own_empty_at (W := w.drew) rfl _ _ _ (Nat.le_refl _)) (below_alloc _ _)) (some a) (k) (cap) ((L.take k).flatMap encHa) rfl (fun e => by cases e) HL1.out (HW1.out _ ((below_alloc w (.cells #[] 67)).trans ((below_alloc (w.alloc (.cells #[] 67)) (.cells #[.int .i64 c, .int .i64 n, .int .i64 i] 67)).mono (by simp))).drew) (flat_one _) (by unfold maxLen; omega) (by omega) (by simp; omega) ?_)
                    intro oa1 cap1 w1 h1 h2 h3
                    have HR1 := Lib.hid h1
                    have HX1 : Hid (w1.heap[w.heap.size + 1]? = some (.cells #[.int .i64 c, .int .i64 n, .int .i64 i] 67)) := Lib.hid ((h3.block _ (by simp) (by simp [Value.ownBlock])).trans (by have := heap_alloc_new (w.alloc (.cells #[] 67)) (.cells #[.int .i64 c, .int .i64 n, .int .i64 i] 67); rw [show (w.alloc (.cells #[] 67)).heap.size = w.heap.size + 1 by simp] at this; exact this))
                    have HB1 := Lib.hid (((below_alloc w (.cells #[] 67)).trans ((below_alloc (w.alloc (.cells #[] 67)) (.cells #[.int .i64 c, .int .i64 n, .int .i64 i] 67)).mono (by simp))).drew.trans h2)
                    clear h1 h2 h3
                    refine ⟨fun _ => seeS p0 HB1.out, ?_⟩
                    simp only [Act.put, List.setIfInBounds_toArray, List.set_cons_zero, List.set_cons_succ]
                    refine oneL 14 (by kernel_rfl) rfl rfl (wp_append_both (some 100) rfl rfl _ _ 45 rfl w.heap.size 67 i0 (.agg #[.int .i64 0, .int .i64 0, .int .i64 0]) 3 24 Try.underlying45 hi hz0 hz1 hz2 rfl (by decide) _ (.slice oa1 (0 + (k)) cap1) (0 + (k)) ([] ++ ((L.take k).flatMap encHa)) rfl HR1.out (some ⟨w.heap.size + 1, 0, none⟩) (1) (1) ((#[.int .i64 c, .int .i64 n, .int .i64 i] : Array Value).toList) rfl (fun e => by cases e) rfl (fun ad e => by cases e; exact World.news_of_block HX1.out) (ha_one ⟨c, n, i⟩) (by unfold maxLen; omega) (by omega) HB1.out.size ?_)
                    intro oa2 cap2 w2 h1 h2 h3
                    have HR2 := Lib.hid h1
                    have HB2 := Lib.hid (HB1.out.trans h2)
                    clear h1 h2 h3
                    refine ⟨fun _ => seeS p0 HB2.out, ?_⟩
                    simp only [Act.put, List.setIfInBounds_toArray, List.set_cons_zero, List.set_cons_succ]
                    refine oneL 21 (by kernel_rfl) rfl rfl (wp_append_both (some 107) rfl rfl _ _ 45 rfl w.heap.size 67 i0 (.agg #[.int .i64 0, .int .i64 0, .int .i64 0]) 3 24 Try.underlying45 hi hz0 hz1 hz2 rfl (by decide) _ (.slice oa2 (0 + (k) + 1) cap2) (0 + (k) + 1) ([] ++ ((L.take k).flatMap encHa) ++ ((#[.int .i64 c, .int .i64 n, .int .i64 i] : Array Value).toList)) rfl HR2.out (if cap = k then some a else some (a.add (k * 3))) (L.length - k) ((cap - k)) ((L.drop k).flatMap encHa) rfl (fun e => by split at e <;> cases e) HL2.out (HW2.out _ HB2.out) (flat_one _) (by unfold maxLen; omega) (by omega) HB2.out.size ?_)
                    intro oaL capL wL h1 h2 h3
                    have HRL : Hid (RowK 67 encHa 3 w.heap.size wL (.slice oaL (0 + (k) + 1 + (L.length - k)) capL) (ins L ⟨c, n, i⟩)) := Lib.hid (own_row h1 HLN.out)
                    have HBL := Lib.hid (HB2.out.trans h2)
                    clear h1 h2 h3
                    refine ⟨fun _ => seeS p0 HBL.out, ?_⟩
                    simp only [Act.put, List.setIfInBounds_toArray, List.set_cons_zero, List.set_cons_succ]
                    have q0 := cell_step HBL.out p0
                    have r0 : wL.frozen? ⟨qb, 0, none⟩ = false := (HBL.out.frozen hqb).trans f0
                    generalize (if cap = k then some a else some (a.add (k * 3))) = oD
                    refine oneL 22 (by kernel_rfl) rfl rfl (wp_runs (some 108) (v := .pointer (some ⟨qb, 0, none⟩)) (w' := wL) rfl (by go_simp) ⟨fun _ => seeS p0 HBL.out, ?_⟩)
                    simp only [Act.put, List.setIfInBounds_toArray, List.set_cons_zero, List.set_cons_succ]
                    refine oneL 23 (by kernel_rfl) rfl rfl (wp_runs (some 109) (v := .pointer (some ⟨qb, 0, none⟩)) (w' := wL) rfl (by go_simp) ⟨fun _ => seeS p0 HBL.out, ?_⟩)
                    simp only [Act.put, List.setIfInBounds_toArray, List.set_cons_zero, List.set_cons_succ]
                    generalize 0 + (k) + 1 + (L.length - k) = nL at HRL ⊢
                    refine oneL 24 (by kernel_rfl) rfl rfl (wp_skips none (w' := wL.setCell ⟨qb, 0, none⟩ (.slice oaL nL capL)) rfl (by go_simp) ⟨fun h => absurd rfl h, ?_⟩)
                    simp only [Act.put]
                    refine doneL (by kernel_rfl) ?_
                    go_wp2
                    go_ret
                    obtain ⟨r1, r2⟩ := HV.out.put HBL.out HRL.out hBw HGI.out
                    exact ⟨ret_int HE.out.symm, by rw [HLL.out]; exact r1, r2⟩
                · simp only [Act.put, List.setIfInBounds_toArray, List.set_cons_zero, List.set_cons_succ]
                  refine oneL 1 (by kernel_rfl) rfl rfl (wp_runs (some 87) (v := .slice (some ⟨w.heap.size + 1, 0, none⟩) 0 0) (w' := ((w.alloc (.cells #[.int .i64 c, .int .i64 n, .int .i64 i] 67)).alloc (.cells #[] 67)).drew) rfl (by go_simp) ⟨fun _ => seeS p0 ((below_alloc w (.cells #[.int .i64 c, .int .i64 n, .int .i64 i] 67)).trans ((below_alloc (w.alloc (.cells #[.int .i64 c, .int .i64 n, .int .i64 i] 67)) (.cells #[] 67)).mono (by simp))).drew, ?_⟩)
                  simp only [Act.put, List.setIfInBounds_toArray, List.set_cons_zero, List.set_cons_succ]
                  refine oneL 8 (by kernel_rfl) rfl rfl (wp_append_both (some 94) rfl rfl _ _ 45 rfl w.heap.size 67 i0 (.agg #[.int .i64 0, .int .i64 0, .int .i64 0]) 3 24 Try.underlying45 hi hz0 hz1 hz2 rfl (by decide) _ (.slice (some ⟨w.heap.size + 1, 0, none⟩) 0 0) (0) ([]) rfl (own_empty_at (W := (w.alloc (.cells #[.int .i64 c, .int .i64 n, .int .i64 i] 67)).drew) (by simp) _ _ _ (by omega)) (some a) (k) (cap) ((L.take k).flatMap encHa) rfl (fun e => by cases e) HL1.out (HW1.out _ ((below_alloc w (.cells #[.int .i64 c, .int .i64 n, .int .i64 i] 67)).trans ((below_alloc (w.alloc (.cells #[.int .i64 c, .int .i64 n, .int .i64 i] 67)) (.cells #[] 67)).mono (by simp))).drew) (flat_one _) (by unfold maxLen; omega) (by omega) (by simp; omega) ?_)
                  intro oa1 cap1 w1 h1 h2 h3
                  have HR1 := Lib.hid h1
                  have HX1 : Hid (w1.heap[w.heap.size]? = some (.cells #[.int .i64 c, .int .i64 n, .int .i64 i] 67)) := Lib.hid ((h3.block _ (by simp; omega) (by simp [Value.ownBlock])).trans ((Below.heap_alloc (w.alloc (.cells #[.int .i64 c, .int .i64 n, .int .i64 i] 67)) (.cells #[] 67) _ (by simp)).trans (heap_alloc_new w _)))
                  have HB1 := Lib.hid (((below_alloc w (.cells #[.int .i64 c, .int .i64 n, .int .i64 i] 67)).trans ((below_alloc (w.alloc (.cells #[.int .i64 c, .int .i64 n, .int .i64 i] 67)) (.cells #[] 67)).mono (by simp))).drew.trans h2)
                  clear h1 h2 h3
                  refine ⟨fun _ => seeS p0 HB1.out, ?_⟩
                  simp only [Act.put, List.setIfInBounds_toArray, List.set_cons_zero, List.set_cons_succ]
                  refine oneL 14 (by kernel_rfl) rfl rfl (wp_append_both (some 100) rfl rfl _ _ 45 rfl w.heap.size 67 i0 (.agg #[.int .i64 0, .int .i64 0, .int .i64 0]) 3 24 Try.underlying45 hi hz0 hz1 hz2 rfl (by decide) _ (.slice oa1 (0 + (k)) cap1) (0 + (k)) ([] ++ ((L.take k).flatMap encHa)) rfl HR1.out (some ⟨w.heap.size, 0, none⟩) (1) (1) ((#[.int .i64 c, .int .i64 n, .int .i64 i] : Array Value).toList) rfl (fun e => by cases e) rfl (fun ad e => by cases e; exact World.news_of_block HX1.out) (ha_one ⟨c, n, i⟩) (by unfold maxLen; omega) (by omega) HB1.out.size ?_)
                  intro oa2 cap2 w2 h1 h2 h3
                  have HR2 := Lib.hid h1
                  have HB2 := Lib.hid (HB1.out.trans h2)
                  clear h1 h2 h3
                  refine ⟨fun _ => seeS p0 HB2.out, ?_⟩
                  simp only [Act.put, List.setIfInBounds_toArray, List.set_cons_zero, List.set_cons_succ]
                  refine oneL 21 (by kernel_rfl) rfl rfl (wp_append_both (some 107) rfl rfl _ _ 45 rfl w.heap.size 67 i0 (.agg #[.int .i64 0, .int .i64 0, .int .i64 0]) 3 24 Try.underlying45 hi hz0 hz1 hz2 rfl (by decide) _ (.slice oa2 (0 + (k) + 1) cap2) (0 + (k) + 1) ([] ++ ((L.take k).flatMap encHa) ++ ((#[.int .i64 c, .int .i64 n, .int .i64 i] : Array Value).toList)) rfl HR2.out (if cap = k then some a else some (a.add (k * 3))) (L.length - k) ((cap - k)) ((L.drop k).flatMap encHa) rfl (fun e => by split at e <;> cases e) HL2.out (HW2.out _ HB2.out) (flat_one _) (by unfold maxLen; omega) (by omega) HB2.out.size ?_)
                  intro oaL capL wL h1 h2 h3
                  have HRL : Hid (RowK 67 encHa 3 w.heap.size wL (.slice oaL (0 + (k) + 1 + (L.length - k)) capL) (ins L ⟨c, n, i⟩)) := Lib.hid (own_row h1 HLN.out)
                  have HBL := Lib.hid (HB2.out.trans h2)
                  clear h1 h2 h3
                  refine ⟨fun _ => seeS p0 HBL.out, ?_⟩
                  simp only [Act.put, List.setIfInBounds_toArray, List.set_cons_zero, List.set_cons_succ]
                  have q0 := cell_step HBL.out p0
                  have r0 : wL.frozen? ⟨qb, 0, none⟩ = false := (HBL.out.frozen hqb).trans f0
                  generalize (if cap = k then some a else some (a.add (k * 3))) = oD
                  refine oneL 22 (by kernel_rfl) rfl rfl (wp_runs (some 108) (v := .pointer (some ⟨qb, 0, none⟩)) (w' := wL) rfl (by go_simp) ⟨fun _ => seeS p0 HBL.out, ?_⟩)
                  simp only [Act.put, List.setIfInBounds_toArray, List.set_cons_zero, List.set_cons_succ]
                  refine oneL 23 (by kernel_rfl) rfl rfl (wp_runs (some 109) (v := .pointer (some ⟨qb, 0, none⟩)) (w' := wL) rfl (by go_simp) ⟨fun _ => seeS p0 HBL.out, ?_⟩)
                  simp only [Act.put, List.setIfInBounds_toArray, List.set_cons_zero, List.set_cons_succ]
                  generalize 0 + (k) + 1 + (L.length - k) = nL at HRL ⊢
                  refine oneL 24 (by kernel_rfl) rfl rfl (wp_skips none (w' := wL.setCell ⟨qb, 0, none⟩ (.slice oaL nL capL)) rfl (by go_simp) ⟨fun h => absurd rfl h, ?_⟩)
                  simp only [Act.put]
                  refine doneL (by kernel_rfl) ?_
                  go_wp2
                  go_ret
                  obtain ⟨r1, r2⟩ := HV.out.put HBL.out HRL.out hBw HGI.out
                  exact ⟨ret_int HE.out.symm, by rw [HLL.out]; exact r1, r2⟩
  · have HE : Hid (openE L c n i = 1) := Lib.hid (by unfold openE; rw [if_neg hm])
    have hcs : (c < 0) ∨ (0 ≤ c ∧ 8 ≤ c) ∨ ((0 ≤ c ∧ c < 8) ∧ n < 0) ∨ ((0 ≤ c ∧ c < 8) ∧ 0 ≤ n ∧ 16384 ≤ n) ∨ ((0 ≤ c ∧ c < 8) ∧ 0 ≤ n ∧ n < 16384 ∧ i < 1) ∨ ((0 ≤ c ∧ c < 8) ∧ 0 ≤ n ∧ n < 16384 ∧ 1 ≤ i ∧ 2147483647 < i) := by
      have hm' : ¬ ((0 ≤ c ∧ c < 8) ∧ 0 ≤ n ∧ n < 16384 ∧ 1 ≤ i ∧ i ≤ 2147483647) := fun h => hm (decide_eq_true h)
      omega
    clear hm h
    rcases hcs with q1 | ⟨q1, q2⟩ | ⟨⟨q1, q2⟩, q3⟩ | ⟨⟨q1, q2⟩, q3, q4⟩ | ⟨⟨q1, q2⟩, q3, q4, q5⟩ | ⟨⟨q1, q2⟩, q3, q4, q5, q6⟩
    all_goals
      go_enter Try.func17, Try.ntmps17
      go_wp2_with fail
      go_ret
      exact ⟨ret_int HE.out.symm, by unfold openL; rw [HE.out]; exact HQ.out, Only.refl _ _⟩
end Go.Proofs.Ytjfdbcmmmoipcaa.HanW
