/- A row of structs that slices.SortFunc has sorted: a list that rises. -/
import Derived.Test.YtaaecdijbkkoiaaRowK
import Derived.Test.YtaaecdijbkkoiaaSl
import Derived.Shelf.SlSortCmp.WholeK
import Derived.Shelf.SlSortCmp.NoneTotal
namespace Go.Proofs.Ytaaecdijbkkoiaa
open Go.RowKit Go.Shelf Go.Lib Go.Sort
section
variable {P : Program} {ρ : Ren} {α κ : Type} [Inhabited α] {key : α → κ} {kl : κ → κ → Prop}
theorem list_of_sorted {lt : α → α → Bool} {d d' : Array α} (hp : PermIn 0 d.size d d') (hs : SortedIn lt 0 d.size d') : d'.toList.Perm d.toList ∧ d'.toList.Pairwise fun a b => lt b a = false := by
  obtain ⟨h1, _, h3⟩ := hp
  refine ⟨?_, List.pairwise_iff_getElem.2 fun i j hi hj hij => ?_⟩
  · have e1 : d'.extract 0 d.size = d' := by rw [← h1]; simp
    rw [e1] at h3
    simpa using h3
  · have hj' : j < d'.size := by simpa using hj
    have hi' : i < d'.size := by omega
    have := hs i j (Nat.zero_le _) hij (by omega)
    rw [getElem!_pos d' j hj', getElem!_pos d' i hi'] at this
    simpa using this
/-- the sort of a row of the call's own -/
theorem sort_row (LL : SlLaysF0.n6 P ρ) (T : TypeId) (k : Nat) (k0 : 0 < k) (aE : ∀ w, (isAgg (ρ.t 24)).run P w = .ok true w) (zE : ∀ w, (Go.sizeOf (ρ.t 24)).run P w = .ok k w)
    (enc : α → List Value) (hk : ∀ x, (enc x).length = k) (h1 : ∀ x, ∀ v ∈ enc x, v.oneCell' = true) (cf : α → α → Int) (hO : SWO (ltOf cf)) (g : Nat)
    (eg : ∀ args w, (callFunc g args).run P w = .ok (.enter g args) w)
    (hcmp : ∀ x y W, Calls P g #[.agg (enc x).toArray, .agg (enc y).toArray] W fun e w' => e = .returned (.int .i64 (cf x y)) ∧ ∃ q os', w' = grow (W.drewN q) os')
    (H : Sl.Lin kl) (hlt : ∀ a b, ltOf cf a b = true ↔ kl (key a) (key b)) {L J : List α} (hL : Sl.Rises key kl L) (hn : J.Nodup) (hm : ∀ a, a ∈ J ↔ a ∈ L) (B : Nat) (v : Value) (w : World) (hB : B ≤ w.heap.size) (hr : RowK T enc k B w v J) (hlen : J.length < 4611686018427387904) :
    Calls P (ρ.f 6) #[v, .func (.func g) #[] #[]] w fun e w' => e = .returned (.tuple #[]) ∧ RowK T enc k B w' v L ∧ Below B w w' := by
  obtain ⟨oa, cap, rfl, hc, hc2, hnone⟩ := hr.form
  by_cases h0 : J.length = 0
  · have hJ : J = [] := List.eq_nil_of_length_eq_zero h0
    have hLe : L = [] := by
      cases L with
      | nil => rfl
      | cons a L => have := (hm a).2 (by simp); rw [hJ] at this; simp at this
    rw [h0]
    refine (AnyF.slices_SortFunc_none LL oa cap _ w).mono ?_
    rintro e w' ⟨rfl, rfl⟩
    refine ⟨rfl, ?_, Below.refl _ _⟩
    rw [hJ] at hr
    rw [hLe]; exact hr
  · cases oa with
    | none => exact absurd (hnone rfl).1 h0
    | some a =>
      have hform : ∃ gb, a = ⟨gb, 0, none⟩ ∧ gb < w.heap.size ∧ B ≤ gb := by
        rcases hr.2 with ⟨e, _⟩ | ⟨gb, cap', cur, e, hb1, hb2, _⟩
        · cases e
        · simp only [Value.slice.injEq, Option.some.injEq] at e
          exact ⟨gb, e.1, lt_of_block hb2, hb1⟩
      obtain ⟨gb, rfl, hgb, hBg⟩ := hform
      have hH := hr.holds hk k0
      have hsz : J.toArray.size = J.length := by simp
      have hcon := AnyQ.slices_SortFunc LL k aE zE enc hk h1 cf hO g #[] gb 0 cap J.toArray w eg (fun m os dk _ x y => by simpa using hcmp x y _) hH hgb (by rw [hsz]; exact hlen)
      rw [hsz] at hcon
      refine hcon.mono ?_
      rintro e w' ⟨rfl, d', n, os, hp, hs, rfl⟩
      rw [← hsz] at hp hs
      obtain ⟨q1, q2⟩ := list_of_sorted hp hs
      have hd : d'.toList = L := by
        refine Sl.sorted_eq H hL (q1.nodup_iff.2 (by simpa using hn)) (fun x => by rw [q1.mem_iff]; simpa using hm x) ?_
        refine List.Pairwise.imp (fun {x y} h => ?_) q2
        rw [← hlt, h]; simp
      have hd2 : d'.size = J.length := by
        have := q1.length_eq
        simpa using this
      obtain ⟨r1, r2⟩ := hr.sorted (os := os) (m := n) hk k0 hd2
      rw [hd] at r1
      have hLJ : J.length = L.length := by rw [← hd]; simp [hd2]
      exact ⟨rfl, r1, r2.below hBg hB⟩
end
end Go.Proofs.Ytaaecdijbkkoiaa
