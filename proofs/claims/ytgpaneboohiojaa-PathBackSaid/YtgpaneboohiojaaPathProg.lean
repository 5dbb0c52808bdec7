/- path.Good, Split, Join, Up, Inside. -/
import Derived.Test.YtgpaneboohiojaaPathNames
namespace Go.Proofs.Ytgpaneboohiojaa.PathW
open Go.RowKit
set_option maxHeartbeats 400000 in
theorem good_any (p : ByteArray) (hs : p.size ≤ 140737488355328) (w : World) :
    Calls Try.prog 13 #[.string p] w fun e w' => e = .returned (.bool (namesR p.data.toList).isSome) ∧ Below w.heap.size w w' := by
  go_enter Try.func13, Try.ntmps13
  go_wp2_with (go_at_call 24; refine (names_any _ hs _).mono ?_; rintro e w1 ⟨v, rfl, hs1, hb1⟩; have HB1 := Lib.hid hb1; clear hs1 hb1)
  go_ret
  exact ⟨rfl, HB1.out⟩
/-- Split's error -/
def splitE (p : List UInt8) : Int := if (namesR p).isSome = true then 0 else 11
set_option maxHeartbeats 400000 in
theorem split_any (p : ByteArray) (hs : p.size ≤ 140737488355328) (w : World) :
    Calls Try.prog 14 #[.string p] w fun e w' => ∃ v, e = .returned (.tuple #[v, .int .i64 (splitE p.data.toList)]) ∧ Strs w.heap.size w' v ((namesR p.data.toList).getD []) ∧ Below w.heap.size w w' := by
  have hn := names_any p hs w
  cases hN : namesR p.data.toList with
  | none =>
    have HE : Hid (splitE p.data.toList = 11) := Lib.hid (by rw [splitE, hN]; rfl)
    rw [hN] at hn
    have HN := Lib.hid hn
    clear hn hN
    go_enter Try.func14, Try.ntmps14
    go_wp2_with (go_at_call 24; refine HN.out.mono ?_; rintro e w1 ⟨v, rfl, hs1, hb1⟩; have HB1 := Lib.hid hb1; have HS1 := Lib.hid hs1; clear hs1 hb1)
    go_ret2
    exact ⟨_, by rw [HE.out]; rfl, ⟨rfl, .inl ⟨rfl, rfl⟩⟩, HB1.out⟩
  | some l =>
    have HE : Hid (splitE p.data.toList = 0) := Lib.hid (by rw [splitE, hN]; rfl)
    rw [hN] at hn
    have HN := Lib.hid hn
    clear hn hN
    go_enter Try.func14, Try.ntmps14
    go_wp2_with (go_at_call 24; refine HN.out.mono ?_; rintro e w1 ⟨v, rfl, hs1, hb1⟩; have HB1 := Lib.hid hb1; have HS1 := Lib.hid hs1; clear hs1 hb1)
    go_ret2
    exact ⟨_, by rw [HE.out]; rfl, HS1.out, HB1.out⟩
/-- a slice of strings, read: from whatever address -/
def Rds (B : Nat) (w : World) (oa : Option Addr) (l : List (List UInt8)) : Prop := ∀ i (h : i < l.length), ∃ a, oa = some a ∧ a.block < B ∧ w.cell? (a.add i) = some (strV l[i])
set_option maxHeartbeats 400000 in
theorem join1_any (s : ByteArray) (hs : s.size ≤ 9223372036854775807) (w : World) :
    Calls Try.prog 22 #[.string s] w fun e w' => e = .returned (.bool (!nameB s.data.toList)) ∧ w = w' := by
  go_enter Try.func22, Try.ntmps22
  go_wp2_with (go_at_call 18; refine (name_any _ hs _).mono ?_; rintro e w1 ⟨rfl, rfl⟩)
  go_ret
  exact ⟨rfl, rfl⟩
theorem Rds.below {B : Nat} {w w' : World} {oa : Option Addr} {l : List (List UInt8)} (h : Rds B w oa l) (hb : Below B w w') : Rds B w' oa l := by
  intro i hi
  obtain ⟨a, h1, h2, h3⟩ := h i hi
  exact ⟨a, h1, h2, (hb.cell (by rw [add_block]; exact h2)).trans h3⟩
theorem Rds.of_strs {B : Nat} {w : World} {oa : Option Addr} {n cap : Nat} {l : List (List UInt8)} (h : Strs B w (.slice oa n cap) l) : Rds w.heap.size w oa l := by
  intro i hi
  rcases h.2 with ⟨_, h0⟩ | ⟨g, cap', cur, hv, hb, hg, _⟩
  · omega
  · have hc := World.ownsRow.cells h (g := g) (by simp [Value.ownBlock]; injection hv with h1; rw [h1]) i (strV l[i]) (by simp [hi])
    injection hv with h1
    exact ⟨⟨g, 0, none⟩, h1, lt_of_block hg, hc⟩
theorem Rds.take {B : Nat} {w : World} {oa : Option Addr} {l : List (List UInt8)} (h : Rds B w oa l) (k : Nat) : Rds B w oa (l.take k) := by
  intro i hi
  have hi2 : i < l.length := by rw [List.length_take] at hi; omega
  obtain ⟨a, h1, h2, h3⟩ := h i hi2
  exact ⟨a, h1, h2, by rw [List.getElem_take]; exact h3⟩
theorem all_take (l : List (List UInt8)) (k : Nat) (h : k < l.length) : (l.take (k + 1)).all nameB = ((l.take k).all nameB && nameB l[k]) := by
  rw [List.take_succ_eq_append_getElem h, List.all_append]; simp
theorem strV_size (x : List UInt8) : (⟨x.toArray⟩ : ByteArray).size = x.length := by simp [ByteArray.size]
set_option maxHeartbeats 800000 in
theorem index_func (oa : Option Addr) (cap : Nat) (l : List (List UInt8)) (hl : l.length ≤ 140737488355328) (hz : ∀ x ∈ l, x.length ≤ 9223372036854775807) (w : World) (h : Rds w.heap.size w oa l) :
    Calls Try.prog 26 #[.slice oa l.length cap, .func (.func 22) #[] #[]] w fun e w' => ∃ r : Int, e = .returned (.int .i64 r) ∧ w = w' ∧ decide (0 ≤ r) = !(l.all nameB) := by
  have HR := Lib.hid h
  have HZ := Lib.hid hz
  clear h hz
  go_enter Try.func26, Try.ntmps26
  go_wp2_with fail
  go_loop [8] (fun i => ∃ k : Nat, k ≤ l.length ∧ i = .int .i64 k ∧ (l.take k).all nameB = true) (fun i => l.length - (intOf i).toNat)
  case atStart => exact ⟨0, Nat.zero_le _, rfl, rfl⟩
  case round =>
    obtain ⟨k, hk, rfl, hall⟩ := hrel
    have HA := Lib.hid hall
    clear hall
    by_cases hlt : k < l.length
    · have HT := Lib.hid (all_take l k hlt)
      obtain ⟨a, rfl, _, hc⟩ := HR.out k hlt
      have HS : Hid ((⟨l[k].toArray⟩ : ByteArray).size ≤ 9223372036854775807) := Lib.hid (by rw [strV_size]; have := HZ.out l[k] (List.getElem_mem _); omega)
      unfold strV at hc
      cases hn : nameB l[k] with
      | true =>
        have HN := Lib.hid hn
        clear hn
        go_wp2_with (go_at_call 22; refine (join1_any _ HS.out _).mono ?_; rintro e w1 ⟨he, rfl⟩; obtain rfl : e = .returned (.bool false) := he.trans (by rw [HN.out]; rfl))
        first
          | exact ⟨⟨k + 1, by omega, by go_num, by rw [HT.out, HA.out, HN.out]; rfl⟩, by simp [intOf]; omega⟩
          | (go_round
             case rel => exact ⟨k + 1, by omega, by go_num, by rw [HT.out, HA.out, HN.out]; rfl⟩
             case measure => simp [intOf]; omega)
      | false =>
        have HN := Lib.hid hn
        clear hn
        go_wp2_with (go_at_call 22; refine (join1_any _ HS.out _).mono ?_; rintro e w1 ⟨he, rfl⟩; obtain rfl : e = .returned (.bool true) := he.trans (by rw [HN.out]; rfl))
        go_ret
        refine ⟨_, rfl, rfl, ?_⟩
        have : l.all nameB = false := by
          rw [List.all_eq_false]
          exact ⟨l[k], List.getElem_mem _, by rw [HN.out]; simp⟩
        rw [this, decide_eq_true (by omega)]; rfl
    · have HK : Hid (l.take k = l) := Lib.hid (List.take_of_length_le (by omega))
      go_wp2
      go_ret
      exact ⟨_, rfl, rfl, by rw [← HK.out, HA.out]; rfl⟩
set_option maxHeartbeats 400000 in
theorem contains_func (oa : Option Addr) (cap : Nat) (l : List (List UInt8)) (hl : l.length ≤ 140737488355328) (hz : ∀ x ∈ l, x.length ≤ 9223372036854775807) (w : World) (h : Rds w.heap.size w oa l) :
    Calls Try.prog 21 #[.slice oa l.length cap, .func (.func 22) #[] #[]] w fun e w' => e = .returned (.bool (!(l.all nameB))) ∧ w = w' := by
  have HI := Lib.hid (index_func oa cap l hl hz w h)
  clear h hz
  go_enter Try.func21, Try.ntmps21
  go_wp2_with (go_at_call 26; refine HI.out.mono ?_; rintro e w1 ⟨r, rfl, rfl, hd⟩; have HD := Lib.hid hd; clear hd)
  go_ret
  exact ⟨ret_bool HD.out, rfl⟩
theorem contains_is (oa : Option Addr) (cap : Nat) (l : List (List UInt8)) (b : Bool) (hb : (!(l.all nameB)) = b) (hl : l.length ≤ 140737488355328) (hz : ∀ x ∈ l, x.length ≤ 9223372036854775807) (w : World) (h : Rds w.heap.size w oa l) :
    Calls Try.prog 21 #[.slice oa l.length cap, .func (.func 22) #[] #[]] w fun e w' => e = .returned (.bool b) ∧ w = w' := by
  rw [← hb]; exact contains_func oa cap l hl hz w h
def joinS (l : List (List UInt8)) : ByteArray := match joinR l with | some s => ⟨s.toArray⟩ | none => ⟨#[]⟩
def joinE (l : List (List UInt8)) : Int := match joinR l with | some _ => 0 | none => 11
theorem join_len (l : List (List UInt8)) (h : l.length ≤ 8) (ha : l.all nameB = true) : (Lib.join l [47]).length ≤ 100 := by
  have h1 := congrArg List.length (join_slash l)
  rw [List.length_cons] at h1
  have h2 : (joinP l).length ≤ 1 + l.length * 9 := by
    unfold joinP
    split
    · simp
    · rw [joinT, List.length_flatten, List.map_map]
      have key : ∀ m : List (List UInt8), m.all nameB = true → (m.map (List.length ∘ fun x => 47 :: x)).sum ≤ m.length * 9 := by
        intro m
        induction m with
        | nil => simp
        | cons x r ih =>
          intro hm
          simp only [List.all_cons, Bool.and_eq_true] at hm
          have hx : x.length ≤ 8 := by
            have := hm.1; unfold nameB at this; simp only [Bool.and_eq_true, decide_eq_true_eq] at this; exact this.1.2
          have := ih hm.2
          simp only [List.map_cons, List.sum_cons, Function.comp_apply, List.length_cons]
          omega
      have := key l ha
      omega
  omega
set_option maxHeartbeats 800000 in
theorem join_any (oa : Option Addr) (cap : Nat) (l : List (List UInt8)) (hl : l.length ≤ 140737488355328) (hcap : l.length ≤ cap) (hz : ∀ x ∈ l, x.length ≤ 9223372036854775807) (w : World) (h : Rds w.heap.size w oa l) :
    Calls Try.prog 8 #[.slice oa l.length cap] w fun e w' => e = .returned (.tuple #[.string (joinS l), .int .i64 (joinE l)]) ∧ Below w.heap.size w w' := by
  by_cases h8 : l.length ≤ 8
  · have d : decide (8 < (l.length : Int)) = false := decide_eq_false (by omega)
    cases ha : l.all nameB with
    | true =>
      have HCF := Lib.hid (contains_is oa cap l false (by rw [ha]; rfl) hl hz w h)
      have HR : Hid (joinS l = ⟨(joinP l).toArray⟩ ∧ joinE l = 0) := Lib.hid (by rw [joinS, joinE, joinR, if_pos ⟨h8, ha⟩]; exact ⟨rfl, rfl⟩)
      have hlen := join_len l h8 ha
      have HJ : Hid (Calls Try.prog 23 #[.slice oa l.length cap, .string ⟨#[47]⟩] w fun e w' => e = .returned (.string ⟨(Lib.join l [47]).toArray⟩) ∧ Below w.heap.size w w') := by
        apply Lib.hid
        by_cases h0 : l = []
        · subst h0
          exact (Try.strings_Join_none oa cap ⟨#[47]⟩ w).mono fun e w' ⟨h1, h2⟩ => ⟨h1, by rw [h2]; exact Below.refl _ _⟩
        · have hpos : 0 < l.length := List.length_pos_iff.2 h0
          obtain ⟨a, rfl, hab, hc0⟩ := h 0 hpos
          have hsp : a.spot = none := by
            have := World.cell?_spot hc0
            simpa [Addr.add] using this
          obtain ⟨b, o, sp⟩ := a
          obtain rfl : sp = none := hsp
          have hmap : (l.map fun x => (⟨x.toArray⟩ : ByteArray)).map (·.data.toList) = l := by
            rw [List.map_map]; conv => rhs; rw [← List.map_id l]
            rfl
          have key := Try.strings_Join b o cap (l.map fun x => (⟨x.toArray⟩ : ByteArray)) ⟨#[47]⟩ w (by
            intro j s hs
            rw [List.getElem?_map] at hs
            obtain ⟨x, hx, rfl⟩ := Option.map_eq_some_iff.1 hs
            obtain ⟨hj, rfl⟩ := List.getElem?_eq_some_iff.1 hx
            obtain ⟨a', ha', _, hc⟩ := h j hj
            injection ha' with ha'
            subst ha'
            have he : (⟨b, o, none⟩ : Addr).add j = ⟨b, o + j, none⟩ := by
              unfold Addr.add
              split
              · rename_i hj0; subst hj0; rfl
              · rfl
            rw [he] at hc
            exact hc) hab (by simpa using hl) (by simpa using hcap) (by rw [hmap]; show (Lib.join l [47]).length ≤ _; omega)
          rw [hmap, List.length_map] at key
          exact key
      have HSZ : Hid ((⟨(Lib.join l [47]).toArray⟩ : ByteArray).size ≤ 100) := Lib.hid (by rw [strV_size]; exact hlen)
      have HP : Hid ((⟨#[47]⟩ : ByteArray) ++ ⟨(Lib.join l [47]).toArray⟩ = ⟨(joinP l).toArray⟩) := Lib.hid (by
        apply ByteArray.ext; apply Array.toList_inj.1
        rw [ByteArray.data_append, Array.toList_append, ← join_slash]; rfl)
      generalize hJJ : (⟨(Lib.join l [47]).toArray⟩ : ByteArray) = J at *
      have hjz := HSZ.out
      clear ha hlen hJJ h hz h8 HSZ
      go_enter Try.func8, Try.ntmps8
      go_wp2_with (first
        | (go_at_call 21; refine HCF.out.mono ?_; rintro e w1 ⟨rfl, rfl⟩)
        | (go_at_call 23; refine HJ.out.mono ?_; rintro e w1 ⟨rfl, hb1⟩))
      go_ret2
      exact ⟨by rw [HR.out.1, HR.out.2, ← HP.out]; rfl, hb1⟩
    | false =>
      have HCF := Lib.hid (contains_is oa cap l true (by rw [ha]; rfl) hl hz w h)
      have HR : Hid (joinS l = ⟨#[]⟩ ∧ joinE l = 11) := Lib.hid (by rw [joinS, joinE, joinR, if_neg (by rw [ha]; simp)]; exact ⟨rfl, rfl⟩)
      clear ha h hz h8
      go_enter Try.func8, Try.ntmps8
      go_wp2_with (first
        | (go_at_call 21; refine HCF.out.mono ?_; rintro e w1 ⟨rfl, rfl⟩))
      go_ret2
      exact ⟨by rw [HR.out.1, HR.out.2]; rfl, Below.refl _ _⟩
  · have d : decide (8 < (l.length : Int)) = true := decide_eq_true (by omega)
    have HR : Hid (joinS l = ⟨#[]⟩ ∧ joinE l = 11) := Lib.hid (by rw [joinS, joinE, joinR, if_neg (by omega)]; exact ⟨rfl, rfl⟩)
    clear h hz h8
    go_enter Try.func8, Try.ntmps8
    go_wp2
    go_ret2
    exact ⟨by rw [HR.out.1, HR.out.2]; rfl, Below.refl _ _⟩
end Go.Proofs.Ytgpaneboohiojaa.PathW
