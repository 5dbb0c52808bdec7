/- What a range over a map has come by, of a list that rises. -/
import Derived.Test.YtaaecdijbkkoiaaSl
namespace Go.Proofs.Ytaaecdijbkkoiaa.Sl
variable {κ α β : Type} {key : α → κ} {val : α → β} {mk : κ → β → α} {kl : κ → κ → Prop}
structure Got (key : α → κ) (L : List α) (seen : κ → Bool) (J : List α) : Prop where
  nodup : J.Nodup
  mem : ∀ a, a ∈ J ↔ a ∈ L ∧ seen (key a) = true
theorem Got.nil (L : List α) : Got key L (fun _ => false) [] := ⟨List.nodup_nil, by simp⟩
theorem Got.snoc [DecidableEq κ] {L J : List α} {seen : κ → Bool} (h : Got key L seen J) (H : Lin kl) (hL : Rises key kl L) {a : α} (ha : a ∈ L) (hs : seen (key a) = false) : Got key L (fun z => seen z || decide (z = key a)) (J ++ [a]) := by
  refine ⟨?_, fun x => ?_⟩
  · refine List.nodup_append.2 ⟨h.nodup, by simp, fun x hx y hy => ?_⟩
    simp only [List.mem_singleton] at hy
    subst hy
    rintro rfl
    have := ((h.mem _).1 hx).2
    rw [hs] at this; cases this
  · rw [List.mem_append, h.mem, List.mem_singleton]
    constructor
    · rintro (⟨h1, h2⟩ | rfl)
      · exact ⟨h1, by simp [h2]⟩
      · exact ⟨ha, by simp⟩
    · rintro ⟨h1, h2⟩
      simp only [Bool.or_eq_true, decide_eq_true_eq] at h2
      rcases h2 with h2 | h2
      · exact .inl ⟨h1, h2⟩
      · exact .inr (key_inj H hL h1 ha h2)
theorem Got.skip [DecidableEq κ] {L J : List α} {seen : κ → Bool} (h : Got key L seen J) {x : κ} (hx : ∀ a ∈ L, key a ≠ x) : Got key L (fun z => seen z || decide (z = x)) J := by
  refine ⟨h.nodup, fun a => ?_⟩
  rw [h.mem]
  constructor
  · rintro ⟨h1, h2⟩; exact ⟨h1, by simp [h2]⟩
  · rintro ⟨h1, h2⟩
    simp only [Bool.or_eq_true, decide_eq_true_eq] at h2
    rcases h2 with h2 | h2
    · exact ⟨h1, h2⟩
    · exact absurd h2 (hx a h1)
theorem Got.all {L J : List α} {seen : κ → Bool} (h : Got key L seen J) (hd : ∀ a ∈ L, seen (key a) = true) : ∀ a, a ∈ J ↔ a ∈ L := fun a => by
  rw [h.mem]
  exact ⟨fun h => h.1, fun ha => ⟨ha, hd a ha⟩⟩
theorem Got.len [DecidableEq α] {L J : List α} {seen : κ → Bool} (h : Got key L seen J) : J.length ≤ L.length := nodup_len h.nodup fun a ha => ((h.mem a).1 ha).1
end Go.Proofs.Ytaaecdijbkkoiaa.Sl
