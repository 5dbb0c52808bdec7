/- The laws of path: PathJoins. -/
import Derived.Test.YtgpaneboohiojaaPathTells
namespace Go.Proofs.Ytgpaneboohiojaa.PathW
open Go.RowKit
/-- a list of texts that came in -/
structure Came (w : World) (oa : Option Addr) (cap : Nat) (l : List (List UInt8)) : Prop where
  rds : Rds w.heap.size w oa l
  nil : oa = none → l.length = 0 ∧ cap = 0
theorem came_news {w : World} {oa : Option Addr} {cap : Nat} {l : List (List UInt8)} (h : Came w oa cap l) : ∀ ad, oa = some ad → ∀ j u, (l.map strV)[j]? = some u → w.cell? (ad.add j) = some u := by
  intro ad e j u hu
  rw [List.getElem?_map] at hu
  obtain ⟨x, hx, rfl⟩ := Option.map_eq_some_iff.1 hu
  obtain ⟨hj, rfl⟩ := List.getElem?_eq_some_iff.1 hx
  obtain ⟨a', ha', _, hc⟩ := h.rds j hj
  rw [e] at ha'
  injection ha' with ha'
  subst ha'
  exact hc
theorem one_str (l : List (List UInt8)) : ∀ u ∈ l.map strV, u.oneCell' = true := by
  intro u hu
  obtain ⟨x, _, rfl⟩ := List.mem_map.1 hu
  rfl
theorem join_two (oa : Option Addr) (n cap : Nat) (l : List (List UInt8)) (hn : n = l.length) (hl : l.length ≤ 140737488355328) (hcap : l.length ≤ cap) (hz : ∀ x ∈ l, x.length ≤ 9223372036854775807) (w : World) (h : Rds w.heap.size w oa l) :
    Calls Try.prog 8 #[.slice oa n cap] w fun e w' => e = .returned (.tuple #[.string (joinS l), .int .i64 (joinE l)]) ∧ Below w.heap.size w w' :=
  join_is oa n cap l hn hl hcap hz _ _ ⟨rfl, rfl⟩ w h
set_option maxHeartbeats 1600000 in
theorem joins_walk (oa : Option Addr) (cap : Nat) (l : List (List UInt8)) (hz : ∀ x ∈ l, x.length ≤ 9223372036854775807) (hl : l.length ≤ maxLen) (w : World) (h : Came w oa cap l) :
    Calls Try.prog 3 #[.slice oa l.length cap] w fun e w' => e = .returned (.bool true) ∧ Below w.heap.size w w' := by
  unfold maxLen at hl
  obtain ⟨i0, hi, hz0, hz1, hz2⟩ := info_parts strinfo
  have HR := Lib.hid h
  have HZ := Lib.hid hz
  clear h hz
  by_cases hbig : 100 < l.length
  · go_enter Try.func3, Try.ntmps3
    go_wp2_with (go_at_call 7; refine (wakes_any _).mono ?_; rintro e w1 ⟨rfl, hb⟩)
    go_ret
    exact ⟨rfl, hb⟩
  · have d : decide (100 < (l.length : Int)) = false := decide_eq_false (by omega)
    have hl100 : l.length ≤ 100 := by omega
    clear hbig
    go_enter Try.func3, Try.ntmps3
    go_wp2_with fail
    clear d
    go_loop [3] (fun i => ∃ k : Nat, k ≤ l.length ∧ i = .int .i64 k ∧ ∀ j (h : j < l.length), j < k → l[j].length ≤ 1000) (fun i => l.length - (intOf i).toNat)
    case atStart => exact ⟨0, Nat.zero_le _, rfl, fun j h1 h2 => absurd h2 (Nat.not_lt_zero _)⟩
    case round =>
      obtain ⟨k, hk, rfl, hall⟩ := hrel
      have HALL := Lib.hid hall
      clear hall
      by_cases hlt : k < l.length
      · obtain ⟨a, rfl, _, hc⟩ := HR.out.rds k hlt
        unfold strV at hc
        have hsz : (⟨l[k].toArray⟩ : ByteArray).size = l[k].length := strV_size _
        have hb9 : (⟨l[k].toArray⟩ : ByteArray).size ≤ 9223372036854775807 := by rw [hsz]; exact HZ.out _ (List.getElem_mem _)
        have HS := Lib.hid hsz
        generalize (⟨l[k].toArray⟩ : ByteArray) = X at *
        clear hsz
        by_cases hx : 1000 < X.size
        · go_wp2_with (go_at_call 7; refine (wakes_any _).mono ?_; rintro e w1 ⟨rfl, hb⟩)
          go_ret
          exact ⟨rfl, hb⟩
        · have HLE : Hid (l[k].length ≤ 1000) := Lib.hid (by rw [← HS.out]; omega)
          go_wp2
          exact ⟨⟨k + 1, by omega, by go_num, fun j h1 h2 => by
            by_cases e : j = k
            · subst e; exact HLE.out
            · exact HALL.out j h1 (by omega)⟩, by simp [intOf]; omega⟩
      · have HZ2 : Hid (∀ x ∈ l, x.length ≤ 9223372036854775807) := Lib.hid fun x hx => by
          obtain ⟨j, hj, rfl⟩ := List.mem_iff_getElem.1 hx
          have := HALL.out j hj (by omega); omega
        have hge : l.length ≤ k := by omega
        clear hlt
        go_wp2_with (first
          | (at_builtin; refine wpList_append_copy rfl _ _ 22 rfl 9 i0 (.string ⟨#[]⟩) 1 16 Try.underlying22 hi hz0 hz1 hz2 rfl (by decide) (by rfl) oa l.length cap (l.map strV) (by rfl) HR.out.nil (by simp) (came_news HR.out) (one_str l) (by unfold maxLen; omega) (by omega) ?_; intro oa2 cap2 w2 hown2 hb2; have hcap2 : l.length ≤ cap2 := (Strs.cap (n := l.length) (l := l) hown2).2; have HR2 := Lib.hid (Rds.of_strs (n := l.length) (cap := cap2) hown2); have HR1 := Lib.hid (HR.out.rds.grow hb2); have HB2 := Lib.hid hb2; clear hown2 hb2)
          | (go_at_call 8; refine (join_two _ _ _ l rfl (by omega) hcap2 HZ2.out _ HR2.out).mono ?_; rintro e w3 ⟨rfl, hb3⟩; have HR3 := Lib.hid (HR2.out.grow hb3); have HR4 := Lib.hid (HR1.out.grow hb3); have HB3 := Lib.hid (bstep HB2.out hb3); clear hb3)
          | (go_at_call 9; refine (rjoin_any _ _ l (by omega) HZ2.out _ HR4.out).mono ?_; rintro e w4 ⟨rfl, rfl⟩)
          | (go_at_call 10; refine (texts_same _ _ _ _ _ _ l rfl rfl (by omega) _ HR3.out HR4.out).mono ?_; rintro e w5 ⟨rfl, hb5⟩; have HB5 := Lib.hid (bstep HB3.out hb5); clear hb5)
          | (go_at_call 7; refine (wakes_any _).mono ?_; rintro e w6 ⟨rfl, hb6⟩; have HB6 := Lib.hid (bstep HB5.out hb6); clear hb6))
        go_ret
        exact ⟨rfl, HB6.out⟩
end Go.Proofs.Ytgpaneboohiojaa.PathW
