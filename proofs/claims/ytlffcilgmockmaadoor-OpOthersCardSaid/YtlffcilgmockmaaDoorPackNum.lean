/- The walks of the Packer's methods, continued. -/
import Derived.Test.YtlffcilgmockmaaDoorPackPut
namespace Go.Proofs.YtlffcilgmockmaaDoor.PackW
open Go.RowKit
set_option maxRecDepth 100000

set_option maxHeartbeats 400000 in
theorem puti_no (B b : Nat) (l : List UInt8) (sp : Bool) (v n : Int) (h : ¬ May v n) (hv : v < 9223372036854775808) (w : World) (hp : PkAt B b l sp w) :
    Calls Tryd.prog 69 #[.pointer (some ⟨b, 0, none⟩), .int .i64 v, .int .i64 n] w fun e w' => e = .returned (.tuple #[]) ∧ PkAt B b l true w' ∧ Fr B b w w' := by
  have HP := Lib.hid hp
  have hc := hp.cell2
  have hf := hp.free 2
  have hB := hp.base
  clear hp
  by_cases hs : Sized n
  · have HS := Lib.hid hs
    have hn : 0 ≤ n ∧ n ≤ 8 := by unfold Sized at hs; omega
    by_cases h0 : v < 0
    · clear h hs
      go_enter Tryd.func69, Tryd.ntmps69
      go_wp2_with (go_at_call 61; refine (sized_yes _ HS.out _).mono ?_; rintro e w1 ⟨rfl, rfl⟩)
      refine bodyPost_ret (results_none rfl _ _ _) rfl ?_
      exact ⟨rfl, HP.out.spoil, (Fr.refl B b _).setCell 2 hB _⟩
    · obtain ⟨x, rfl⟩ := Int.eq_ofNat_of_zero_le (show 0 ≤ v by omega)
      obtain ⟨m, rfl⟩ := Int.eq_ofNat_of_zero_le hn.1
      have hbig : ¬ (x : Int) < 2 ^ (8 * m) := fun hx => h ⟨hs, by omega, by simpa using hx⟩
      have hm8 : m < 8 := by
        refine Nat.lt_of_not_le fun h8 => hbig ?_
        have : (2 : Nat) ^ 64 ≤ 2 ^ (8 * m) := Nat.pow_le_pow_right (by omega) (by omega)
        have e : ((2 : Int) ^ (8 * m)) = ((2 ^ (8 * m) : Nat) : Int) := by rw [Int.natCast_pow]; rfl
        rw [e]; omega
      have hq : ((x : Int) / 2 ^ (8 * m) != 0) = true := by
        have e : ((2 : Int) ^ (8 * m)) = ((2 ^ (8 * m) : Nat) : Int) := by rw [Int.natCast_pow]; rfl
        rw [e] at hbig ⊢
        rw [bne_iff_ne, ← Int.natCast_ediv]
        have := Nat.div_pos (a := x) (b := 2 ^ (8 * m)) (by omega) (Nat.pow_pos (by omega))
        omega
      have hu : IntKind.u64.wrap (x : Int) = (x : Int) := by rw [IntKind.wrap_u64]; omega
      clear h hs hn h0 hbig hv
      go_enter Tryd.func69, Tryd.ntmps69
      go_wp2_with (go_at_call 61; refine (sized_yes _ HS.out _).mono ?_; rintro e w1 ⟨rfl, rfl⟩)
      refine bodyPost_ret (results_none rfl _ _ _) rfl ?_
      exact ⟨rfl, HP.out.spoil, (Fr.refl B b _).setCell 2 hB _⟩
  · have HS := Lib.hid hs
    clear h hs hv
    go_enter Tryd.func69, Tryd.ntmps69
    go_wp2_with (go_at_call 61; refine (sized_no _ HS.out _).mono ?_; rintro e w1 ⟨rfl, rfl⟩)
    refine bodyPost_ret (results_none rfl _ _ _) rfl ?_
    exact ⟨rfl, HP.out.spoil, (Fr.refl B b _).setCell 2 hB _⟩

set_option maxHeartbeats 400000 in
theorem putl_no (B b : Nat) (l : List UInt8) (sp : Bool) (v n : Int) (h : ¬ May v n) (hv : v < 9223372036854775808) (w : World) (hp : PkAt B b l sp w) :
    Calls Tryd.prog 43 #[.pointer (some ⟨b, 0, none⟩), .int .i64 v, .int .i64 n] w fun e w' => e = .returned (.tuple #[]) ∧ PkAt B b l true w' ∧ Fr B b w w' := by
  have HP := Lib.hid hp
  have hc := hp.cell2
  have hf := hp.free 2
  have hB := hp.base
  clear hp
  by_cases hs : Sized n
  · have HS := Lib.hid hs
    have hn : 0 ≤ n ∧ n ≤ 8 := by unfold Sized at hs; omega
    by_cases h0 : v < 0
    · clear h hs
      go_enter Tryd.func43, Tryd.ntmps43
      go_wp2_with (go_at_call 61; refine (sized_yes _ HS.out _).mono ?_; rintro e w1 ⟨rfl, rfl⟩)
      refine bodyPost_ret (results_none rfl _ _ _) rfl ?_
      exact ⟨rfl, HP.out.spoil, (Fr.refl B b _).setCell 2 hB _⟩
    · obtain ⟨x, rfl⟩ := Int.eq_ofNat_of_zero_le (show 0 ≤ v by omega)
      obtain ⟨m, rfl⟩ := Int.eq_ofNat_of_zero_le hn.1
      have hbig : ¬ (x : Int) < 2 ^ (8 * m) := fun hx => h ⟨hs, by omega, by simpa using hx⟩
      have hm8 : m < 8 := by
        refine Nat.lt_of_not_le fun h8 => hbig ?_
        have : (2 : Nat) ^ 64 ≤ 2 ^ (8 * m) := Nat.pow_le_pow_right (by omega) (by omega)
        have e : ((2 : Int) ^ (8 * m)) = ((2 ^ (8 * m) : Nat) : Int) := by rw [Int.natCast_pow]; rfl
        rw [e]; omega
      have hq : ((x : Int) / 2 ^ (8 * m) != 0) = true := by
        have e : ((2 : Int) ^ (8 * m)) = ((2 ^ (8 * m) : Nat) : Int) := by rw [Int.natCast_pow]; rfl
        rw [e] at hbig ⊢
        rw [bne_iff_ne, ← Int.natCast_ediv]
        have := Nat.div_pos (a := x) (b := 2 ^ (8 * m)) (by omega) (Nat.pow_pos (by omega))
        omega
      have hu : IntKind.u64.wrap (x : Int) = (x : Int) := by rw [IntKind.wrap_u64]; omega
      clear h hs hn h0 hbig hv
      go_enter Tryd.func43, Tryd.ntmps43
      go_wp2_with (go_at_call 61; refine (sized_yes _ HS.out _).mono ?_; rintro e w1 ⟨rfl, rfl⟩)
      refine bodyPost_ret (results_none rfl _ _ _) rfl ?_
      exact ⟨rfl, HP.out.spoil, (Fr.refl B b _).setCell 2 hB _⟩
  · have HS := Lib.hid hs
    clear h hs hv
    go_enter Tryd.func43, Tryd.ntmps43
    go_wp2_with (go_at_call 61; refine (sized_no _ HS.out _).mono ?_; rintro e w1 ⟨rfl, rfl⟩)
    refine bodyPost_ret (results_none rfl _ _ _) rfl ?_
    exact ⟨rfl, HP.out.spoil, (Fr.refl B b _).setCell 2 hB _⟩
end Go.Proofs.YtlffcilgmockmaaDoor.PackW
