/- The closure of some: which of two entries is ahead. -/
import Derived.Test.YtffigodlfmnbpaaShelf
import Derived.Test.YtffigodlfmnbpaaDirPlain
import Derived.Test.YtffigodlfmnbpaaSortRow
import Derived.StillTailTactics
namespace Go.Proofs.Ytffigodlfmnbpaa.DirW
open Go.RowKit Go.Shelf Go.Lib Go.Sort DirP
def orI (x y : Int) : Int := if x = 0 then y else x
set_option maxHeartbeats 400000 in
theorem or_two (b o cap : Nat) (x y : Int) (w : World) (h0 : w.cell? ⟨b, o, none⟩ = some (.int .i64 x)) (h1 : w.cell? ⟨b, o + 1, none⟩ = some (.int .i64 y)) :
    Calls Try.prog 35 #[.slice (some ⟨b, o, none⟩) 2 cap] w fun e w' => e = .returned (.int .i64 (orI x y)) ∧ w = w' := by
  go_enter Try.func35, Try.ntmps35
  go_wp2
  go_loop [8] (fun i => i = .int .i64 0 ∨ (i = .int .i64 1 ∧ x = 0) ∨ (i = .int .i64 2 ∧ x = 0 ∧ y = 0)) (fun i => 2 - (intOf i).toNat)
  case atStart => exact .inl rfl
  case round =>
    rcases hrel with rfl | ⟨rfl, hx⟩ | ⟨rfl, hx, hy⟩
    · by_cases hx : x = 0
      · have hz : (x == 0) = true := by simp [hx]
        go_wp2
        go_round
        case rel => exact .inr (.inl ⟨by go_num, hx⟩)
        case measure => simp [intOf]
      · have hz : (x == 0) = false := by simp [hx]
        go_wp2
        go_ret
        exact ⟨ret_int (by simp [orI, hx]), rfl⟩
    · by_cases hy : y = 0
      · have hz : (y == 0) = true := by simp [hy]
        go_wp2
        go_round
        case rel => exact .inr (.inr ⟨by go_num, hx, hy⟩)
        case measure => simp [intOf]
      · have hz : (y == 0) = false := by simp [hy]
        go_wp2
        go_ret
        exact ⟨ret_int (by simp [orI]), rfl⟩
    · go_wp2
      go_ret
      exact ⟨ret_int (by simp [orI]), rfl⟩
theorem nan (s : ByteArray) (w : World) : Calls Try.prog 41 #[.string s] w fun e w' => e = .returned (.bool false) ∧ w = w' := by
  go_enter Try.func41, Try.ntmps41
  go_wp2
  go_ret
  exact ⟨rfl, rfl⟩
def cfS (s t : ByteArray) : Int := if lsB s t = true then -1 else if s = t then 0 else 1
theorem cmpS (s t : ByteArray) (w : World) : Calls Try.prog 37 #[.string s, .string t] w fun e w' => e = .returned (.int .i64 (cfS s t)) ∧ w = w' := by
  have HN := fun u W => nan u W
  cases h : lsB s t with
  | true =>
    have h1 : Op.bytesLess s.toList t.toList = true := h
    have HE : Hid (cfS s t = -1) := Lib.hid (by unfold cfS; rw [if_pos h])
    clear h
    go_enter Try.func37, Try.ntmps37
    go_wp2_with (go_at_call 41; refine (HN _ _).mono ?_; rintro e w1 ⟨rfl, rfl⟩)
    go_ret
    exact ⟨ret_int HE.out.symm, rfl⟩
  | false =>
    have h1 : Op.bytesLess s.toList t.toList = false := h
    by_cases he : s = t
    · have h2 : (!s.toList == t.toList) = false := by rw [he]; simp
      have HE : Hid (cfS s t = 0) := Lib.hid (by unfold cfS; rw [if_neg (by rw [h]; simp), if_pos he])
      clear h he
      go_enter Try.func37, Try.ntmps37
      go_wp2_with (go_at_call 41; refine (HN _ _).mono ?_; rintro e w1 ⟨rfl, rfl⟩)
      go_ret
      exact ⟨ret_int HE.out.symm, rfl⟩
    · have h2 : (!s.toList == t.toList) = true := by
        rw [Bool.not_eq_true', beq_eq_false_iff_ne]
        exact fun e => he (str_eq e)
      have HE : Hid (cfS s t = 1) := Lib.hid (by unfold cfS; rw [if_neg (by rw [h]; simp), if_neg he])
      clear h he
      go_enter Try.func37, Try.ntmps37
      go_wp2_with (go_at_call 41; refine (HN _ _).mono ?_; rintro e w1 ⟨rfl, rfl⟩)
      go_ret
      exact ⟨ret_int HE.out.symm, rfl⟩
/-- which of two entries is ahead -/
def cfE (a b : En) : Int := orI (Lib.compareInt a.d b.d) (cfS a.s b.s)
def encE (a : En) : List Value := [.int .i64 a.d, .string a.s, .int .i64 a.i]
theorem ltOf_cfE (a b : En) : ltOf cfE a b = decide (kl a.key b.key) := by
  have hc : ∀ x y : Int, (x < y ∧ Lib.compareInt x y = -1) ∨ (x = y ∧ Lib.compareInt x y = 0) ∨ (y < x ∧ Lib.compareInt x y = 1) := fun x y => by
    unfold Lib.compareInt
    rcases Int.lt_trichotomy x y with h | h | h
    · exact .inl ⟨h, by rw [if_pos h]⟩
    · exact .inr (.inl ⟨h, by rw [if_neg (by omega), if_neg (by omega)]⟩)
    · exact .inr (.inr ⟨h, by rw [if_neg (by omega), if_pos h]⟩)
  have hs : (lsB a.s b.s = true ∧ cfS a.s b.s = -1) ∨ (lsB a.s b.s = false ∧ 0 ≤ cfS a.s b.s) := by
    unfold cfS
    cases h : lsB a.s b.s with
    | true => exact .inl ⟨rfl, by rw [if_pos rfl]⟩
    | false => exact .inr ⟨rfl, by rw [if_neg (by simp)]; split <;> decide⟩
  rw [Bool.eq_iff_iff, decide_eq_true_iff]
  unfold ltOf cfE orI kl En.key
  rw [decide_eq_true_iff]
  simp only
  rcases hc a.d b.d with ⟨h, e⟩ | ⟨h, e⟩ | ⟨h, e⟩ <;> rw [e]
  · rw [if_neg (by omega)]; simp [h]
  · rw [if_pos rfl]
    rcases hs with ⟨k, e'⟩ | ⟨k, e'⟩
    · rw [e', k]; simp [h]
    · rw [k]; simp; omega
  · rw [if_neg (by omega)]; simp; omega
theorem swoE : SWO (ltOf cfE) where
  irrefl a := by rw [ltOf_cfE]; simp [dLin.irr]
  trans a b c h1 h2 := by rw [ltOf_cfE] at *; simp only [decide_eq_true_eq] at *; exact dLin.trans _ _ _ h1 h2
  ntrans a b c h1 h2 := by
    rw [ltOf_cfE] at *
    simp only [decide_eq_false_iff_not] at *
    rcases dLin.or a.key b.key with h | h | h
    · exact absurd h h1
    · rw [h]; exact h2
    · rcases dLin.or b.key c.key with k | k | k
      · exact absurd k h2
      · rw [← k]; exact h1
      · exact dLin.asymm (dLin.trans _ _ _ k h)
set_option linter.constructorNameAsVariable false in
set_option maxHeartbeats 2000000 in
theorem closure (x y : En) (W : World) : Calls Try.prog 34 #[.agg #[.int .i64 x.d, .string x.s, .int .i64 x.i], .agg #[.int .i64 y.d, .string y.s, .int .i64 y.i]] W fun e w' => e = .returned (.int .i64 (cfE x y)) ∧ ∃ q os', w' = grow (W.drewN q) os' := by
  have HA := fun W' => Try.cmp_Compare_int x.d y.d W'
  have HB := fun W' => still_of (cmpS x.s y.s W')
  have HE : Hid (cfE x y = orI (Lib.compareInt x.d y.d) (cfS x.s y.s)) := Lib.hid rfl
  generalize Lib.compareInt x.d y.d = r at HA HE
  generalize cfS x.s y.s = s at HB HE
  generalize cfE x y = t at HE ⊢
  go_enter Try.func34, Try.ntmps34
  go_wp2_with fail
  refine wp_region_still_tail 10 (by kernel_rfl) (by kernel_rfl) ?_
  change wpStill _ _ (World.drew _) (fun a' => wpList _ _ _ _ a' (World.drew _)) _ _
  simp only [List.take_succ_cons, List.take_zero, List.drop_succ_cons, List.drop_zero]
  repeat still_step
  still_call (HA _)
  repeat still_step
  still_call (HB _)
  repeat still_step
  refine wpStill_nil ?_
  go_wp2_with (go_at_call 35; refine (or_two _ _ _ r s _ (by go_simp) (by go_simp)).mono ?_; rintro e w' ⟨rfl, rfl⟩)
  go_ret
  exact ⟨ret_int HE.out.symm, 1, _, by simp only [alloc_eq_grow, grow_grow]; rfl⟩
theorem en_len (a : En) : (encE a).length = 3 := rfl
theorem en_one (a : En) : ∀ v ∈ encE a, v.oneCell' = true := by
  intro v hv; simp [encE] at hv; rcases hv with rfl | rfl | rfl <;> rfl
theorem enAgg (w : World) : (isAgg 64).run Try.prog w = .ok true w := by kernel_rfl
theorem enSize (w : World) : (Go.sizeOf 64).run Try.prog w = .ok 3 w := by kernel_rfl
theorem enEnter : ∀ args w, (callFunc 34 args).run Try.prog w = .ok (.enter 34 args) w := enters_of Try.func34 (by kernel_rfl) rfl
theorem ensort_any {L J : List En} (hL : Rises L) (hn : J.Nodup) (hm : ∀ a, a ∈ J ↔ a ∈ L) (B : Nat) (v : Value) (w : World) (hB : B ≤ w.heap.size) (hr : RowK 64 encE 3 B w v J) (hlen : J.length < 4611686018427387904) :
    Calls Try.prog 33 #[v, .func (.func 34) #[] #[]] w fun e w' => e = .returned (.tuple #[]) ∧ RowK 64 encE 3 B w' v L ∧ Below B w w' :=
  sort_row Try.sortE 64 3 (by omega) enAgg enSize encE en_len en_one cfE swoE 34 enEnter (fun x y W => closure x y W) dLin (fun a b => by rw [ltOf_cfE]; simp) hL hn hm B v w hB hr hlen
end Go.Proofs.Ytffigodlfmnbpaa.DirW
