/- path.Name, of the program and of the reference. -/
import Derived.Test.YtiffmigihhcgcaaGreatDoorShelf
import Derived.Test.YtiffmigihhcgcaaGreatDoorOpen
import Derived.Test.YtiffmigihhcgcaaGreatDoorFrame
namespace Go.Proofs.YtiffmigihhcgcaaGreatDoor.PathW
open Go.RowKit
set_option maxRecDepth 100000
/-- may a byte stand in a name? -/
def okC (c : UInt8) : Bool := (decide (97 ≤ (c.toNat : Int)) && decide ((c.toNat : Int) ≤ 122)) || (decide (48 ≤ (c.toNat : Int)) && decide ((c.toNat : Int) ≤ 57)) || ((c.toNat : Int) == 95)
def okI (x : Int) : Bool := (decide (97 ≤ x) && decide (x ≤ 122)) || (decide (48 ≤ x) && decide (x ≤ 57)) || (x == 95)
theorem okC_I (c : UInt8) : okC c = okI (c.toNat : Int) := rfl
theorem cases7 (x : Int) : ∃ lo hi : Int, lo ≤ x ∧ x ≤ hi ∧ ((hi < 48 ∧ okI x = false ∧ (x == 95) = false ∧ (x != 95) = true) ∨ (48 ≤ lo ∧ hi ≤ 57 ∧ okI x = true ∧ (x == 95) = false ∧ (x != 95) = true) ∨ (58 ≤ lo ∧ hi ≤ 94 ∧ okI x = false ∧ (x == 95) = false ∧ (x != 95) = true) ∨ (95 ≤ lo ∧ hi ≤ 95 ∧ okI x = true ∧ (x == 95) = true ∧ (x != 95) = false) ∨ (96 ≤ lo ∧ hi ≤ 96 ∧ okI x = false ∧ (x == 95) = false ∧ (x != 95) = true) ∨ (97 ≤ lo ∧ hi ≤ 122 ∧ okI x = true ∧ (x == 95) = false ∧ (x != 95) = true) ∨ (122 < lo ∧ okI x = false ∧ (x == 95) = false ∧ (x != 95) = true)) := by
  refine ⟨x, x, by omega, by omega, ?_⟩
  have h95 : x ≠ 95 → (x == 95) = false := fun h => beq_eq_false_iff_ne.2 h
  have n95 : x ≠ 95 → (x != 95) = true := fun h => bne_iff_ne.2 h
  rcases (by omega : x < 48 ∨ (48 ≤ x ∧ x ≤ 57) ∨ (58 ≤ x ∧ x ≤ 94) ∨ x = 95 ∨ x = 96 ∨ (97 ≤ x ∧ x ≤ 122) ∨ 122 < x) with h | h | h | h | h | h | h
  · exact .inl ⟨h, by unfold okI; rw [decide_eq_false (by omega), decide_eq_false (show ¬ 48 ≤ x by omega), h95 (by omega)]; rfl, h95 (by omega), n95 (by omega)⟩
  · exact .inr (.inl ⟨h.1, h.2, by unfold okI; rw [decide_eq_true (show 48 ≤ x by omega), decide_eq_true (show x ≤ 57 by omega)]; simp, h95 (by omega), n95 (by omega)⟩)
  · exact .inr (.inr (.inl ⟨h.1, h.2, by unfold okI; rw [decide_eq_false (by omega), decide_eq_false (show ¬ x ≤ 57 by omega), h95 (by omega)]; simp, h95 (by omega), n95 (by omega)⟩))
  · subst h; exact .inr (.inr (.inr (.inl ⟨by omega, by omega, by decide, by decide, by decide⟩)))
  · subst h; exact .inr (.inr (.inr (.inr (.inl ⟨by omega, by omega, by decide, by decide, by decide⟩))))
  · exact .inr (.inr (.inr (.inr (.inr (.inl ⟨h.1, h.2, by unfold okI; rw [decide_eq_true (show 97 ≤ x by omega), decide_eq_true (show x ≤ 122 by omega)]; simp, h95 (by omega), n95 (by omega)⟩)))))
  · exact .inr (.inr (.inr (.inr (.inr (.inr ⟨h, by unfold okI; rw [decide_eq_false (show ¬ x ≤ 122 by omega), decide_eq_false (show ¬ x ≤ 57 by omega), h95 (by omega)]; simp, h95 (by omega), n95 (by omega)⟩)))))
def nameB (l : List UInt8) : Bool := decide (1 ≤ l.length) && decide (l.length ≤ 8) && l.all okC
theorem take_all (s : ByteArray) (k : Nat) (h : k < s.size) : (s.data.toList.take (k + 1)).all okC = ((s.data.toList.take k).all okC && okC s[k]) := by
  rw [List.take_succ_eq_append_getElem (by simpa using h), List.all_append]
  simp; rfl
theorem all_no (s : ByteArray) (k : Nat) (h : k < s.size) (hk : okC s[k] = false) : s.data.toList.all okC = false := by
  rw [List.all_eq_false]
  refine ⟨s[k], ?_, by rw [hk]; simp⟩
  have : s.data.toList[k]'(by simpa using h) = s[k] := rfl
  rw [← this]; exact List.getElem_mem _
set_option maxHeartbeats 400000 in
theorem name_any (s : ByteArray) (hs : s.size ≤ 9223372036854775807) (w : World) :
    Calls Tryz.prog 72 #[.string s] w fun e w' => e = .returned (.bool (nameB s.data.toList)) ∧ w = w' := by
  have hlen : s.data.toList.length = s.size := by simp
  by_cases h : s.size < 1 ∨ 8 < s.size
  · have HR : Hid (nameB s.data.toList = false) := Lib.hid (by
      rw [nameB, hlen]
      rcases h with h | h
      · rw [decide_eq_false (by omega)]; rfl
      · rw [decide_eq_false (show ¬ s.size ≤ 8 by omega)]; simp)
    rcases h with h | h
    all_goals
      go_enter Tryz.func72, Tryz.ntmps72
      go_wp2
      go_ret
      exact ⟨ret_bool HR.out.symm, rfl⟩
  · have h1 : 1 ≤ s.size := by omega
    have h2 : s.size ≤ 8 := by omega
    have HR : Hid (nameB s.data.toList = s.data.toList.all okC) := Lib.hid (by
      rw [nameB, hlen, decide_eq_true h1, decide_eq_true h2]; rfl)
    have d1 : decide ((s.size : Int) < 1) = false := decide_eq_false (by omega)
    have d2 : decide (8 < (s.size : Int)) = false := decide_eq_false (by omega)
    clear h hlen
    go_enter Tryz.func72, Tryz.ntmps72
    go_wp2
    clear d1 d2
    go_loop [15] (fun i => ∃ k : Nat, k ≤ s.size ∧ i = .int .i64 k ∧ (s.data.toList.take k).all okC = true) (fun i => s.size - (intOf i).toNat)
    case atStart => exact ⟨0, Nat.zero_le _, rfl, rfl⟩
    case round =>
      obtain ⟨k, hk, rfl, hall⟩ := hrel
      have HA := Lib.hid hall
      clear hall
      by_cases hlt : k < s.size
      · have HT := Lib.hid (take_all s k hlt)
        have HNO := Lib.hid (all_no s k hlt)
        have HC : Hid (okC s[k] = okI (s[k].toNat : Int)) := Lib.hid (okC_I _)
        obtain ⟨lo, hi, hlo, hhi, hcs⟩ := cases7 (s[k].toNat : Int)
        rcases hcs with ⟨hx, hok, he, hne⟩ | ⟨hx, hy, hok, he, hne⟩ | ⟨hx, hy, hok, he, hne⟩ | ⟨hx, hy, hok, he, hne⟩ | ⟨hx, hy, hok, he, hne⟩ | ⟨hx, hy, hok, he, hne⟩ | ⟨hx, hok, he, hne⟩
        all_goals
          have HO := Lib.hid hok
          clear hok
          go_wp2
          all_goals first
            | (exfalso; rename_i hbad; simp at hbad; omega)
            | (go_ret; exact ⟨ret_bool (HR.out.trans (HNO.out (HC.out.trans HO.out))).symm, rfl⟩)
            | exact ⟨⟨k + 1, by omega, by go_num, by rw [HT.out, HA.out, HC.out, HO.out]; rfl⟩, by simp [intOf]; omega⟩
            | (go_round
               case rel => exact ⟨k + 1, by omega, by go_num, by rw [HT.out, HA.out, HC.out, HO.out]; rfl⟩
               case measure => simp [intOf]; omega)
      · have HK : Hid (s.data.toList.take k = s.data.toList) := Lib.hid (List.take_of_length_le (by simp; omega))
        go_wp2
        go_ret
        exact ⟨ret_bool (by rw [HR.out, ← HK.out, HA.out]), rfl⟩
set_option maxHeartbeats 400000 in
theorem rname_any (s : ByteArray) (hs : s.size ≤ 9223372036854775807) (w : World) :
    Calls Tryz.prog 86 #[.string s] w fun e w' => e = .returned (.bool (nameB s.data.toList)) ∧ w = w' := by
  have hlen : s.data.toList.length = s.size := by simp
  by_cases h : s.size < 1 ∨ 8 < s.size
  · have HR : Hid (nameB s.data.toList = false) := Lib.hid (by
      rw [nameB, hlen]
      rcases h with h | h
      · rw [decide_eq_false (by omega)]; rfl
      · rw [decide_eq_false (show ¬ s.size ≤ 8 by omega)]; simp)
    rcases h with h | h
    all_goals
      go_enter Tryz.func86, Tryz.ntmps86
      go_wp2
      go_ret
      exact ⟨ret_bool HR.out.symm, rfl⟩
  · have h1 : 1 ≤ s.size := by omega
    have h2 : s.size ≤ 8 := by omega
    have HR : Hid (nameB s.data.toList = s.data.toList.all okC) := Lib.hid (by
      rw [nameB, hlen, decide_eq_true h1, decide_eq_true h2]; rfl)
    have d1 : decide ((s.size : Int) < 1) = false := decide_eq_false (by omega)
    have d2 : decide (8 < (s.size : Int)) = false := decide_eq_false (by omega)
    clear h hlen
    go_enter Tryz.func86, Tryz.ntmps86
    go_wp2
    clear d1 d2
    go_loop [3] (fun i => ∃ k : Nat, k ≤ s.size ∧ i = .int .i64 k ∧ (s.data.toList.take k).all okC = true) (fun i => s.size - (intOf i).toNat)
    case atStart => exact ⟨0, Nat.zero_le _, rfl, rfl⟩
    case round =>
      obtain ⟨k, hk, rfl, hall⟩ := hrel
      have HA := Lib.hid hall
      clear hall
      by_cases hlt : k < s.size
      · have HT := Lib.hid (take_all s k hlt)
        have HNO := Lib.hid (all_no s k hlt)
        have HC : Hid (okC s[k] = okI (s[k].toNat : Int)) := Lib.hid (okC_I _)
        obtain ⟨lo, hi, hlo, hhi, hcs⟩ := cases7 (s[k].toNat : Int)
        rcases hcs with ⟨hx, hok, he, hne⟩ | ⟨hx, hy, hok, he, hne⟩ | ⟨hx, hy, hok, he, hne⟩ | ⟨hx, hy, hok, he, hne⟩ | ⟨hx, hy, hok, he, hne⟩ | ⟨hx, hy, hok, he, hne⟩ | ⟨hx, hok, he, hne⟩
        all_goals
          have HO := Lib.hid hok
          clear hok
          go_wp2
          all_goals first
            | (exfalso; rename_i hbad; simp at hbad; omega)
            | (go_ret; exact ⟨ret_bool (HR.out.trans (HNO.out (HC.out.trans HO.out))).symm, rfl⟩)
            | exact ⟨⟨k + 1, by omega, by go_num, by rw [HT.out, HA.out, HC.out, HO.out]; rfl⟩, by simp [intOf]; omega⟩
            | (go_round
               case rel => exact ⟨k + 1, by omega, by go_num, by rw [HT.out, HA.out, HC.out, HO.out]; rfl⟩
               case measure => simp [intOf]; omega)
      · have HK : Hid (s.data.toList.take k = s.data.toList) := Lib.hid (List.take_of_length_le (by simp; omega))
        go_wp2
        go_ret
        exact ⟨ret_bool (by rw [HR.out, ← HK.out, HA.out]), rfl⟩
end Go.Proofs.YtiffmigihhcgcaaGreatDoor.PathW
