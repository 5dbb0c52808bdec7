/- The reference's May, Move. -/
import Derived.Test.YtappgelpigoknaaExtRef3
namespace Go.Proofs.Ytappgelpigoknaa.ExtW
open Go.RowKit
set_option maxRecDepth 100000 in
set_option maxHeartbeats 1600000 in
theorem may_is (ma mf mn mt tt : Int) (b : Bool) (hb : decide (May ma mf mn mt tt) = b) (w : World) :
    Calls Try.prog 70 #[.agg #[.int .i64 ma, .int .i64 mf, .int .i64 mn, .int .i64 mt], .int .i64 tt] w fun e w' => e = .returned (.bool b) ∧ Below w.heap.size w w' := by
  by_cases h0 : 0 ≤ ma
  · by_cases h1 : ma < 16384
    · by_cases h2 : 0 ≤ mf
      · by_cases h3 : mf ≤ 1024
        · by_cases h4 : 0 ≤ mt
          · by_cases h5 : mt ≤ 1024
            · by_cases h6 : 1 ≤ mn
              · by_cases h7 : mn ≤ 1024
                · have hw8 : IntKind.i64.wrap (mf + mn) = mf + mn := IntWalk.i64_in _ (by omega)
                  by_cases h8 : mf + mn ≤ 1024
                  · have hw9 : IntKind.i64.wrap (mt + mn) = mt + mn := IntWalk.i64_in _ (by omega)
                    by_cases h9 : mt + mn ≤ 1024
                    · by_cases h10 : 0 ≤ tt
                      · by_cases h11 : tt < 16384
                        · obtain rfl : b = true := by rw [← hb]; exact decide_eq_true (by unfold May Whole; omega)
                          clear hb
                          go_enter Try.func70, Try.ntmps70
                          go_wp2
                          go_ret
                          exact ⟨rfl, below_alloc w _⟩
                        · obtain rfl : b = false := by rw [← hb]; exact decide_eq_false fun h => h11 (by unfold May Whole at h; omega)
                          have d : decide (tt < 16384) = false := decide_eq_false h11
                          clear hb h11
                          go_enter Try.func70, Try.ntmps70
                          go_wp2
                          go_ret
                          exact ⟨rfl, below_alloc w _⟩
                      · obtain rfl : b = false := by rw [← hb]; exact decide_eq_false fun h => h10 (by unfold May Whole at h; omega)
                        have d : decide (0 ≤ tt) = false := decide_eq_false h10
                        clear hb h10
                        go_enter Try.func70, Try.ntmps70
                        go_wp2
                        go_ret
                        exact ⟨rfl, below_alloc w _⟩
                    · obtain rfl : b = false := by rw [← hb]; exact decide_eq_false fun h => h9 (by unfold May Whole at h; omega)
                      have d : decide (mt + mn ≤ 1024) = false := decide_eq_false h9
                      clear hb h9
                      go_enter Try.func70, Try.ntmps70
                      go_wp2
                      go_ret
                      exact ⟨rfl, below_alloc w _⟩
                  · obtain rfl : b = false := by rw [← hb]; exact decide_eq_false fun h => h8 (by unfold May Whole at h; omega)
                    have d : decide (mf + mn ≤ 1024) = false := decide_eq_false h8
                    clear hb h8
                    go_enter Try.func70, Try.ntmps70
                    go_wp2
                    go_ret
                    exact ⟨rfl, below_alloc w _⟩
                · obtain rfl : b = false := by rw [← hb]; exact decide_eq_false fun h => h7 (by unfold May Whole at h; omega)
                  have d : decide (mn ≤ 1024) = false := decide_eq_false h7
                  clear hb h7
                  go_enter Try.func70, Try.ntmps70
                  go_wp2
                  go_ret
                  exact ⟨rfl, below_alloc w _⟩
              · obtain rfl : b = false := by rw [← hb]; exact decide_eq_false fun h => h6 (by unfold May Whole at h; omega)
                have d : decide (1 ≤ mn) = false := decide_eq_false h6
                clear hb h6
                go_enter Try.func70, Try.ntmps70
                go_wp2
                go_ret
                exact ⟨rfl, below_alloc w _⟩
            · obtain rfl : b = false := by rw [← hb]; exact decide_eq_false fun h => h5 (by unfold May Whole at h; omega)
              have d : decide (mt ≤ 1024) = false := decide_eq_false h5
              clear hb h5
              go_enter Try.func70, Try.ntmps70
              go_wp2
              go_ret
              exact ⟨rfl, below_alloc w _⟩
          · obtain rfl : b = false := by rw [← hb]; exact decide_eq_false fun h => h4 (by unfold May Whole at h; omega)
            have d : decide (0 ≤ mt) = false := decide_eq_false h4
            clear hb h4
            go_enter Try.func70, Try.ntmps70
            go_wp2
            go_ret
            exact ⟨rfl, below_alloc w _⟩
        · obtain rfl : b = false := by rw [← hb]; exact decide_eq_false fun h => h3 (by unfold May Whole at h; omega)
          have d : decide (mf ≤ 1024) = false := decide_eq_false h3
          clear hb h3
          go_enter Try.func70, Try.ntmps70
          go_wp2
          go_ret
          exact ⟨rfl, below_alloc w _⟩
      · obtain rfl : b = false := by rw [← hb]; exact decide_eq_false fun h => h2 (by unfold May Whole at h; omega)
        have d : decide (0 ≤ mf) = false := decide_eq_false h2
        clear hb h2
        go_enter Try.func70, Try.ntmps70
        go_wp2
        go_ret
        exact ⟨rfl, below_alloc w _⟩
    · obtain rfl : b = false := by rw [← hb]; exact decide_eq_false fun h => h1 (by unfold May Whole at h; omega)
      have d : decide (ma < 16384) = false := decide_eq_false h1
      clear hb h1
      go_enter Try.func70, Try.ntmps70
      go_wp2
      go_ret
      exact ⟨rfl, below_alloc w _⟩
  · obtain rfl : b = false := by rw [← hb]; exact decide_eq_false fun h => h0 (by unfold May Whole at h; omega)
    have d : decide (0 ≤ ma) = false := decide_eq_false h0
    clear hb h0
    go_enter Try.func70, Try.ntmps70
    go_wp2
    go_ret
    exact ⟨rfl, below_alloc w _⟩
/-- those below k were moved -/
def movK (l : List Pt) (ma mf mn mt tt : Int) (k : Nat) (i : Int) : Option (Int × Int) := if i < k then movG (look l) ma mf mn mt tt i else look l i
theorem movK_next {l : List Pt} {ma mf mn mt tt : Int} {k : Nat} {d : Nat → Int × Int} (u v : Int) (hd : Says d (movK l ma mf mn mt tt k)) (hk : k < 8192)
    (hy : movG (look l) ma mf mn mt tt k = if u < 0 then none else some (u, v)) (hu : -1 ≤ u ∧ u ≤ 16384) (hv : 0 ≤ v ∧ v ≤ 1024) : Says (fun j => if j = k then (u, v) else d j) (movK l ma mf mn mt tt (k + 1)) := by
  intro i hi
  have hq := hd i hi
  unfold movK at hq ⊢
  dsimp only
  by_cases c : i = k
  · subst c
    rw [if_pos rfl, if_pos (by omega), hy]
    by_cases c2 : u < 0
    · rw [if_pos c2]; exact ⟨.inl ⟨c2, rfl⟩, hv.1, hv.2, hu.1, hu.2⟩
    · rw [if_neg c2]; exact ⟨.inr ⟨by dsimp only; omega, rfl⟩, hv.1, hv.2, hu.1, hu.2⟩
  · rw [if_neg c]
    by_cases c2 : (i : Int) < k
    · rw [if_pos c2] at hq; rw [if_pos (by omega)]; exact hq
    · rw [if_neg c2] at hq; rw [if_neg (by omega)]; exact hq
theorem movK_stay {l : List Pt} {ma mf mn mt tt : Int} {k : Nat} {d : Nat → Int × Int} (hd : Says d (movK l ma mf mn mt tt k)) (hy : movG (look l) ma mf mn mt tt k = look l k) : Says d (movK l ma mf mn mt tt (k + 1)) :=
  hd.congr fun i hi => by
    unfold movK
    by_cases c : i = k
    · subst c; rw [if_neg (by omega), if_pos (by omega), hy]
    · by_cases c2 : (i : Int) < k
      · rw [if_pos c2, if_pos (by omega)]
      · rw [if_neg c2, if_neg (by omega)]
set_option maxRecDepth 100000 in
set_option maxHeartbeats 3200000 in
theorem rmove_any (oa : Option Addr) (cap : Nat) (l : List Pt) (ma mf mn mt tt : Int) (hl : l.length ≤ 9223372036854775807) (w : World) (h : PtsAt w.heap.size oa l w) :
    Calls Try.prog 55 #[.slice oa l.length cap, .agg #[.int .i64 ma, .int .i64 mf, .int .i64 mn, .int .i64 mt], .int .i64 tt] w fun e w' => ∃ v, e = .returned (.tuple #[v, .int .i64 (moveE l ma mf mn mt tt)]) ∧ Row w.heap.size w' v (moveL l ma mf mn mt tt) ∧ Below w.heap.size w w' := by
  have HP := Lib.hid (h.grow (below_alloc w (.cells #[.int .i64 ma, .int .i64 mf, .int .i64 mn, .int .i64 mt] 91)))
  have HBX := Lib.hid (MBox.made w ma mf mn mt)
  clear h
  by_cases hg : Good l
  · have HG : Hid (decide (Good l) = true) := Lib.hid (decide_eq_true hg)
    have hl64 := hg.1
    by_cases hmay : May ma mf mn mt tt
    · have HE : Hid (moveE l ma mf mn mt tt = fewE (movL l ma mf mn mt tt) ∧ moveL l ma mf mn mt tt = fewL (movL l ma mf mn mt tt)) := Lib.hid (by
        unfold moveE moveL; rw [if_pos hg, if_pos hg, if_pos hmay, if_pos hmay]; exact ⟨rfl, rfl⟩)
      have H1 : Hid (decide (May ma mf mn mt tt) = true) := Lib.hid (decide_eq_true hmay)
      have HON := Lib.hid (mov_ones hg hmay)
      have HJ : Hid (joinL (units (movG (look l) ma mf mn mt tt) 0 8192) = movL l ma mf mn mt tt) := Lib.hid rfl
      have HGL := Lib.hid hg
      have HMAY := Lib.hid hmay
      have hmb : 0 ≤ ma ∧ 0 ≤ mf ∧ 1 ≤ mn ∧ mf + mn ≤ 1024 ∧ 0 ≤ mt ∧ mt + mn ≤ 1024 := by unfold May Whole at hmay; omega
      clear hg hmay hl
      go_enter Try.func55, Try.ntmps55
      go_wp2_with (first
        | (go_at_call 65; refine (rgood_is _ _ _ _ _ HG.out rfl (by omega) _ HP.out).mono ?_; rintro e w1 ⟨rfl, hb1⟩; have HP1 := Lib.hid (HP.out.grow hb1); have HBX1 := Lib.hid (HBX.out.grow hb1); have HB1 := Lib.hid (bstep (below_alloc w _) hb1); clear hb1; obtain ⟨p0, p1, p2, p3⟩ := HBX1.out.cells)
        | (go_at_call 70; refine (may_is _ _ _ _ _ _ H1.out _).mono ?_; rintro e w2 ⟨rfl, hb2⟩; have HP2 := Lib.hid (HP1.out.grow hb2); have HBX2 := Lib.hid (HBX1.out.grow hb2); have HB2 := Lib.hid (bstep HB1.out hb2); clear hb2 p0 p1 p2 p3)
        | (go_at_call 67; refine (spread_any _ _ l HGL.out _ HP2.out).mono ?_; rintro e w3 ⟨a, d, rfl, hsp, hsay, hb3⟩; have HBX3 := Lib.hid (HBX2.out.grow hb3); have HSP := Lib.hid hsp; have HSAY := Lib.hid hsay; have HB3 := Lib.hid (bstep HB2.out hb3); clear hb3 hsp hsay))
      obtain ⟨B, hBz⟩ : ∃ B, B = w2.heap.size := ⟨_, rfl⟩
      rw [← hBz] at HSP
      have HBB : Hid (w.heap.size < B) := Lib.hid (by rw [hBz]; exact lt_of_block HBX2.out)
      clear hBz
      obtain ⟨N, hN⟩ : ∃ N : Nat, N = 8192 := ⟨_, rfl⟩
      have HN := Lib.hid hN
      clear hN
      go_loopw [9] (fun i wr => ∃ (k : Nat) (d : Nat → Int × Int), k ≤ N ∧ i = .int .i64 (k : Int) ∧ Spr B wr a d ∧ Says d (movK l ma mf mn mt tt k) ∧ MBox wr w.heap.size ma mf mn mt ∧ Below w.heap.size w wr) (fun i _ => ((N : Int) - intOf i).toNat)
      case atStart => exact ⟨0, d, by omega, rfl, HSP.out, HSAY.out.congr (fun i hi => by unfold movK; rw [if_neg (by omega)]), HBX3.out, HB3.out⟩
      case round =>
        obtain ⟨k, d2, hk, rfl, hsp, hsay, hbx, hbel⟩ := hrel
        have HSPJ := Lib.hid hsp
        have HSAYJ := Lib.hid hsay
        have HBXJ := Lib.hid hbx
        have HBJ := Lib.hid hbel
        clear hsp hsay hbx hbel
        have hNN := HN.out
        by_cases hlt : k < N
        · have hk8 : (k : Int) < 8192 := by omega
          have hk88 : k < 8192 := by omega
          have hk0 : (0 : Int) ≤ (k : Int) := by omega
          obtain ⟨p0, p1, p2, p3⟩ := HBXJ.out.cells
          obtain ⟨q0, q1, f0, f1⟩ := HSPJ.out.cells hk88
          have hsk := HSAYJ.out k hk88
          have HS2 := Lib.hid (fun (u v : Int) => HSPJ.out.set2 k u v)
          obtain ⟨u, v, huv⟩ : ∃ u v, d2 k = (u, v) := ⟨_, _, rfl⟩
          rw [huv] at q0 q1 hsk
          simp only at q0 q1 hsk
          unfold movK at hsk
          rw [if_neg (by omega)] at hsk
          clear huv
          obtain ⟨pb, po, hpa⟩ : ∃ (pb po : Nat), a.add (k * 2) = ⟨pb, po, none⟩ := ⟨a.block, k * 2, addb _ HSPJ.out.1 _⟩
          have HPB : Hid (B ≤ pb) := Lib.hid (by have := HSPJ.out.2.1; rw [addb _ HSPJ.out.1] at hpa; injection hpa with h1 h2; omega)
          have HPA := Lib.hid hpa
          rw [hpa] at q0 q1 f0 f1
          obtain ⟨D, hD⟩ : ∃ D, v - mf = D := ⟨_, rfl⟩
          have hw1 : IntKind.i64.wrap (v - mf) = D := by rw [← hD]; exact IntWalk.i64_in _ (by omega)
          have hw2 : IntKind.i64.wrap (mt + D) = mt + D := IntWalk.i64_in _ (by omega)
          have hLK : u < 0 ∧ look l k = none ∨ 0 ≤ u ∧ look l k = some (u, v) := hsk.1
          have STAY : Hid (¬ (u = ma ∧ 0 ≤ D ∧ D < mn) → Says d2 (movK l ma mf mn mt tt (k + 1))) := Lib.hid fun hn => by
            refine movK_stay HSAYJ.out ?_
            unfold movG
            rcases hLK with ⟨_, h2⟩ | ⟨_, h2⟩
            · rw [h2]
            · rw [h2]; simp only; rw [if_neg (by omega)]
          have NEXT : Hid (u = ma ∧ 0 ≤ D ∧ D < mn → Says (fun j => if j = k then (tt, mt + D) else d2 j) (movK l ma mf mn mt tt (k + 1))) := Lib.hid fun hy => by
            have hm := HMAY.out
            unfold May at hm
            refine movK_next tt (mt + D) HSAYJ.out hk88 ?_ (by omega) (by omega)
            rw [if_neg (by omega)]
            unfold movG
            rcases hLK with ⟨h1, _⟩ | ⟨_, h2⟩
            · omega
            · rw [h2]; simp only; rw [if_pos (by omega), show v - mf + mt = mt + D by omega]
          clear hsk hLK hD hNN
          by_cases j1 : u = ma
          · have b1 : (u == ma) = true := by rw [beq_iff_eq]; exact j1
            by_cases j2 : 0 ≤ D
            · by_cases j3 : D < mn
              · have HX := Lib.hid (NEXT.out ⟨j1, j2, j3⟩)
                clear j1
                go_wp2_with fail
                refine held_below (by kernel_rfl) (by kernel_rfl) ?_
                repeat first
                  | (refine held_skip ?_ ?_; (· first | rfl | (go_simp; done)); simp only [Act.put, List.setIfInBounds_toArray, List.set_cons_zero, List.set_cons_succ])
                  | (refine held_val (v := ?_) ?_ ?_ ?_
                     rotate_left
                     · first | rfl | (go_simp; done)
                     · intro wq hq
                       have s0 := cell_step hq q0
                       have s1 := cell_step hq q1
                       have r0 := cell_step hq p0
                       have r1 := cell_step hq p1
                       have r2 := cell_step hq p2
                       have r3 := cell_step hq p3
                       go_simp
                       with_reducible rfl
                     simp only [Act.put, List.setIfInBounds_toArray, List.set_cons_zero, List.set_cons_succ])
                refine held_nil ?_
                intro w2 hb2
                obtain ⟨wA, rfl⟩ : ∃ wA : World, wA = w2 := ⟨_, rfl⟩
                have HW2 := Lib.hid hb2
                replace q0 := cell_step hb2 q0
                replace q1 := cell_step hb2 q1
                replace p0 := cell_step hb2 p0
                replace p1 := cell_step hb2 p1
                replace p2 := cell_step hb2 p2
                replace p3 := cell_step hb2 p3
                clear hb2
                go_wp2_with fail
                refine held_below (by kernel_rfl) (by kernel_rfl) ?_
                repeat first
                  | (refine held_skip ?_ ?_; (· first | rfl | (go_simp; done)); simp only [Act.put, List.setIfInBounds_toArray, List.set_cons_zero, List.set_cons_succ])
                  | (refine held_val (v := ?_) ?_ ?_ ?_
                     rotate_left
                     · first | rfl | (go_simp; done)
                     · intro wq hq
                       have s0 := cell_step hq q0
                       have s1 := cell_step hq q1
                       have r0 := cell_step hq p0
                       have r1 := cell_step hq p1
                       have r2 := cell_step hq p2
                       have r3 := cell_step hq p3
                       go_simp
                       with_reducible rfl
                     simp only [Act.put, List.setIfInBounds_toArray, List.set_cons_zero, List.set_cons_succ])
                refine held_nil ?_
                intro w2 hb2
                obtain ⟨w3x, rfl⟩ : ∃ w3x : World, w3x = w2 := ⟨_, rfl⟩
                have HW3 := Lib.hid (bstep HW2.out hb2)
                replace q0 := cell_step hb2 q0
                replace q1 := cell_step hb2 q1
                replace p0 := cell_step hb2 p0
                replace p1 := cell_step hb2 p1
                replace p2 := cell_step hb2 p2
                replace p3 := cell_step hb2 p3
                have HSPZ := Lib.hid (HSPJ.out.grow HW3.out)
                obtain ⟨_, _, y0, y1⟩ := HSPZ.out.cells hk88
                rw [HPA.out] at y0 y1
                clear hb2 f0 f1
                go_wp2_with fail
                have hset := HS2.out tt (mt + D)
                rw [HPA.out] at hset
                have HSPX : Hid (Spr B w3x a d2) := Lib.hid (HSPJ.out.grow HW3.out)
                have hset2 := HSPX.out.set2 k tt (mt + D)
                rw [HPA.out] at hset2
                exact ⟨⟨k + 1, fun q => if q = k then (tt, mt + D) else d2 q, by omega, by simp, hset2, HX.out, (far_set (by have := HPB.out; have := HBB.out; omega)).trans ((far_set (by have := HPB.out; have := HBB.out; omega)).trans (HBXJ.out.grow HW3.out)), ((bstep HBJ.out HW3.out).setCell (p := ⟨_, _, none⟩) (by show w.heap.size ≤ pb; have := HPB.out; have := HBB.out; omega) _).setCell (p := ⟨_, _, none⟩) (by show w.heap.size ≤ pb; have := HPB.out; have := HBB.out; omega) _⟩, by simp [intOf]; omega⟩
              · have HX := Lib.hid (STAY.out (fun h => j3 h.2.2))
                have j3' : decide (D < mn) = false := decide_eq_false j3
                clear j1 j3
                go_wp2_with fail
                refine held_below (by kernel_rfl) (by kernel_rfl) ?_
                repeat first
                  | (refine held_skip ?_ ?_; (· first | rfl | (go_simp; done)); simp only [Act.put, List.setIfInBounds_toArray, List.set_cons_zero, List.set_cons_succ])
                  | (refine held_val (v := ?_) ?_ ?_ ?_
                     rotate_left
                     · first | rfl | (go_simp; done)
                     · intro wq hq
                       have s0 := cell_step hq q0
                       have s1 := cell_step hq q1
                       have r0 := cell_step hq p0
                       have r1 := cell_step hq p1
                       have r2 := cell_step hq p2
                       have r3 := cell_step hq p3
                       go_simp
                       with_reducible rfl
                     simp only [Act.put, List.setIfInBounds_toArray, List.set_cons_zero, List.set_cons_succ])
                refine held_nil ?_
                intro w2 hb2
                obtain ⟨wA, rfl⟩ : ∃ wA : World, wA = w2 := ⟨_, rfl⟩
                have HW2 := Lib.hid hb2
                replace q0 := cell_step hb2 q0
                replace q1 := cell_step hb2 q1
                replace p0 := cell_step hb2 p0
                replace p1 := cell_step hb2 p1
                replace p2 := cell_step hb2 p2
                replace p3 := cell_step hb2 p3
                clear hb2
                go_wp2_with fail
                refine held_below (by kernel_rfl) (by kernel_rfl) ?_
                repeat first
                  | (refine held_skip ?_ ?_; (· first | rfl | (go_simp; done)); simp only [Act.put, List.setIfInBounds_toArray, List.set_cons_zero, List.set_cons_succ])
                  | (refine held_val (v := ?_) ?_ ?_ ?_
                     rotate_left
                     · first | rfl | (go_simp; done)
                     · intro wq hq
                       have s0 := cell_step hq q0
                       have s1 := cell_step hq q1
                       have r0 := cell_step hq p0
                       have r1 := cell_step hq p1
                       have r2 := cell_step hq p2
                       have r3 := cell_step hq p3
                       go_simp
                       with_reducible rfl
                     simp only [Act.put, List.setIfInBounds_toArray, List.set_cons_zero, List.set_cons_succ])
                refine held_nil ?_
                intro w2 hb2
                obtain ⟨w3x, rfl⟩ : ∃ w3x : World, w3x = w2 := ⟨_, rfl⟩
                have HW3 := Lib.hid (bstep HW2.out hb2)
                clear hb2 f0 f1
                go_wp2_with fail
                exact ⟨⟨k + 1, d2, by omega, by simp, HSPJ.out.grow HW3.out, HX.out, HBXJ.out.grow HW3.out, bstep HBJ.out HW3.out⟩, by simp [intOf]; omega⟩
            · have HX := Lib.hid (STAY.out (fun h => j2 h.2.1))
              have j2' : decide (0 ≤ D) = false := decide_eq_false j2
              clear j1 j2
              go_wp2_with fail
              refine held_below (by kernel_rfl) (by kernel_rfl) ?_
              repeat first
                | (refine held_skip ?_ ?_; (· first | rfl | (go_simp; done)); simp only [Act.put, List.setIfInBounds_toArray, List.set_cons_zero, List.set_cons_succ])
                | (refine held_val (v := ?_) ?_ ?_ ?_
                   rotate_left
                   · first | rfl | (go_simp; done)
                   · intro wq hq
                     have s0 := cell_step hq q0
                     have s1 := cell_step hq q1
                     have r0 := cell_step hq p0
                     have r1 := cell_step hq p1
                     have r2 := cell_step hq p2
                     have r3 := cell_step hq p3
                     go_simp
                     with_reducible rfl
                   simp only [Act.put, List.setIfInBounds_toArray, List.set_cons_zero, List.set_cons_succ])
              refine held_nil ?_
              intro w2 hb2
              obtain ⟨wA, rfl⟩ : ∃ wA : World, wA = w2 := ⟨_, rfl⟩
              have HW2 := Lib.hid hb2
              replace q0 := cell_step hb2 q0
              replace q1 := cell_step hb2 q1
              replace p0 := cell_step hb2 p0
              replace p1 := cell_step hb2 p1
              replace p2 := cell_step hb2 p2
              replace p3 := cell_step hb2 p3
              clear hb2
              go_wp2_with fail
              refine held_below (by kernel_rfl) (by kernel_rfl) ?_
              repeat first
                | (refine held_skip ?_ ?_; (· first | rfl | (go_simp; done)); simp only [Act.put, List.setIfInBounds_toArray, List.set_cons_zero, List.set_cons_succ])
                | (refine held_val (v := ?_) ?_ ?_ ?_
                   rotate_left
                   · first | rfl | (go_simp; done)
                   · intro wq hq
                     have s0 := cell_step hq q0
                     have s1 := cell_step hq q1
                     have r0 := cell_step hq p0
                     have r1 := cell_step hq p1
                     have r2 := cell_step hq p2
                     have r3 := cell_step hq p3
                     go_simp
                     with_reducible rfl
                   simp only [Act.put, List.setIfInBounds_toArray, List.set_cons_zero, List.set_cons_succ])
              refine held_nil ?_
              intro w2 hb2
              obtain ⟨w3x, rfl⟩ : ∃ w3x : World, w3x = w2 := ⟨_, rfl⟩
              have HW3 := Lib.hid (bstep HW2.out hb2)
              clear hb2 f0 f1
              go_wp2_with fail
              exact ⟨⟨k + 1, d2, by omega, by simp, HSPJ.out.grow HW3.out, HX.out, HBXJ.out.grow HW3.out, bstep HBJ.out HW3.out⟩, by simp [intOf]; omega⟩
          · have HX := Lib.hid (STAY.out (fun h => j1 h.1))
            have b1 : (u == ma) = false := by rw [beq_eq_false_iff_ne]; exact j1
            clear j1
            go_wp2_with fail
            refine held_below (by kernel_rfl) (by kernel_rfl) ?_
            repeat first
              | (refine held_skip ?_ ?_; (· first | rfl | (go_simp; done)); simp only [Act.put, List.setIfInBounds_toArray, List.set_cons_zero, List.set_cons_succ])
              | (refine held_val (v := ?_) ?_ ?_ ?_
                 rotate_left
                 · first | rfl | (go_simp; done)
                 · intro wq hq
                   have s0 := cell_step hq q0
                   have s1 := cell_step hq q1
                   have r0 := cell_step hq p0
                   have r1 := cell_step hq p1
                   have r2 := cell_step hq p2
                   have r3 := cell_step hq p3
                   go_simp
                   with_reducible rfl
                 simp only [Act.put, List.setIfInBounds_toArray, List.set_cons_zero, List.set_cons_succ])
            refine held_nil ?_
            intro w2 hb2
            obtain ⟨wA, rfl⟩ : ∃ wA : World, wA = w2 := ⟨_, rfl⟩
            have HW2 := Lib.hid hb2
            replace q0 := cell_step hb2 q0
            replace q1 := cell_step hb2 q1
            replace p0 := cell_step hb2 p0
            replace p1 := cell_step hb2 p1
            replace p2 := cell_step hb2 p2
            replace p3 := cell_step hb2 p3
            clear hb2
            go_wp2_with fail
            refine held_below (by kernel_rfl) (by kernel_rfl) ?_
            repeat first
              | (refine held_skip ?_ ?_; (· first | rfl | (go_simp; done)); simp only [Act.put, List.setIfInBounds_toArray, List.set_cons_zero, List.set_cons_succ])
              | (refine held_val (v := ?_) ?_ ?_ ?_
                 rotate_left
                 · first | rfl | (go_simp; done)
                 · intro wq hq
                   have s0 := cell_step hq q0
                   have s1 := cell_step hq q1
                   have r0 := cell_step hq p0
                   have r1 := cell_step hq p1
                   have r2 := cell_step hq p2
                   have r3 := cell_step hq p3
                   go_simp
                   with_reducible rfl
                 simp only [Act.put, List.setIfInBounds_toArray, List.set_cons_zero, List.set_cons_succ])
            refine held_nil ?_
            intro w2 hb2
            obtain ⟨w3x, rfl⟩ : ∃ w3x : World, w3x = w2 := ⟨_, rfl⟩
            have HW3 := Lib.hid (bstep HW2.out hb2)
            clear hb2 f0 f1
            go_wp2_with fail
            exact ⟨⟨k + 1, d2, by omega, by simp, HSPJ.out.grow HW3.out, HX.out, HBXJ.out.grow HW3.out, bstep HBJ.out HW3.out⟩, by simp [intOf]; omega⟩
        · have hk8 : ¬ ((k : Int) < 8192) := by omega
          have HSAYF : Hid (Says d2 (movG (look l) ma mf mn mt tt)) := Lib.hid (HSAYJ.out.congr fun i hi => by unfold movK; rw [if_pos (by omega)])
          clear hNN
          go_wp2_with (first
            | (go_at_call 69; refine (gather_is B a d2 _ _ HJ.out HSAYF.out HON.out _ HSPJ.out).mono ?_; rintro e w5 ⟨v5, rfl, hr5, hl5, hb5⟩; have HR5 := Lib.hid hr5; have HL5 := Lib.hid hl5; have HZ := Lib.hid HBJ.out.size; have HB5 := Lib.hid (bstep HBJ.out hb5); clear hr5 hb5 hl5)
            | (go_at_call 68; refine (rfew_any _ _ _ HL5.out _ HR5.out).mono ?_; rintro e w6 ⟨u6, rfl, hr6, rfl⟩; have HR6 := Lib.hid (hr6.mono HZ.out); clear hr6))
          go_ret2
          exact ⟨u6, by rw [HE.out.1]; rfl, by rw [HE.out.2]; exact HR6.out, HB5.out⟩
    · have HE : Hid (moveE l ma mf mn mt tt = 1 ∧ moveL l ma mf mn mt tt = []) := Lib.hid (by
        unfold moveE moveL; rw [if_pos hg, if_pos hg, if_neg hmay, if_neg hmay]; exact ⟨rfl, rfl⟩)
      have H1 : Hid (decide (May ma mf mn mt tt) = false) := Lib.hid (decide_eq_false hmay)
      clear hg hmay hl
      go_enter Try.func55, Try.ntmps55
      go_wp2_with (first
        | (go_at_call 65; refine (rgood_is _ _ _ _ _ HG.out rfl (by omega) _ HP.out).mono ?_; rintro e w1 ⟨rfl, hb1⟩; have HBX1 := Lib.hid (HBX.out.grow hb1); have HB1 := Lib.hid (bstep (below_alloc w _) hb1); clear hb1; obtain ⟨p0, p1, p2, p3⟩ := HBX1.out.cells)
        | (go_at_call 70; refine (may_is _ _ _ _ _ _ H1.out _).mono ?_; rintro e w2 ⟨rfl, hb2⟩; have HB2 := Lib.hid (bstep HB1.out hb2); clear hb2))
      go_ret2
      exact ⟨.slice none 0 0, by rw [HE.out.1]; rfl, by rw [HE.out.2]; exact Row.nil _ _, HB2.out⟩
  · have HG : Hid (decide (Good l) = false) := Lib.hid (decide_eq_false hg)
    have HE : Hid (moveE l ma mf mn mt tt = 11 ∧ moveL l ma mf mn mt tt = []) := Lib.hid (by unfold moveE moveL; rw [if_neg hg, if_neg hg]; exact ⟨rfl, rfl⟩)
    clear hg
    go_enter Try.func55, Try.ntmps55
    go_wp2_with (go_at_call 65; refine (rgood_is _ _ _ _ _ HG.out rfl (by omega) _ HP.out).mono ?_; rintro e w1 ⟨rfl, hb1⟩; have HB1 := Lib.hid (bstep (below_alloc w _) hb1); clear hb1)
    go_ret2
    exact ⟨.slice none 0 0, by rw [HE.out.1]; rfl, by rw [HE.out.2]; exact Row.nil _ _, HB1.out⟩
end Go.Proofs.Ytappgelpigoknaa.ExtW
