/- What is decoded is of a size that is gone through. -/
import Derived.Test.YtlffcilgmockmaaDoorOpDecQ
namespace Go.Proofs.YtlffcilgmockmaaDoor.OpW
set_option maxRecDepth 100000
set_option linter.unusedSimpArgs false
open Go.RowKit OpP PackW
structure LimB (x : Lim) : Prop where
  p : x.pm ≤ 70000
  d : x.dm ≤ 70000
  c : ∀ n : Int, n ≤ 255 → x.cm n ≤ 300
theorem textA_size (l : List UInt8) (sp : Bool) (m : Int) (hm : m ≤ 70000) : (textA l sp m).size ≤ 70000 := by
  unfold textA
  cases h : utextV l sp m with
  | none => simp [ByteArray.size]
  | some v =>
    unfold utextV at h
    split at h
    · rename_i hc
      injection h with h
      show v.toArray.size ≤ _
      rw [← h]
      simp only [List.size_toArray, List.length_take, List.length_drop]
      omega
    · cases h
theorem numA_one (l : List UInt8) (sp : Bool) : numA l sp 1 ≤ 255 := by
  unfold numA
  cases h : unumV l sp 1 with
  | none => simp
  | some v =>
    unfold unumV at h
    split at h
    · injection h with h
      have h1 := ShiftP.getN_lt (l.take (Int.toNat 1))
      have h2 : (l.take (Int.toNat 1)).length ≤ 1 := by rw [List.length_take]; exact Nat.min_le_left _ _
      have h3 : 256 ^ (l.take (Int.toNat 1)).length ≤ 256 ^ 1 := Nat.pow_le_pow_right (by decide) h2
      show (v : Int) ≤ 255
      omega
    · cases h
/-- sizes, behind k fields -/
structure FitK (r : Rec) (k : Nat) : Prop where
  p : r.p.size ≤ 70000
  t : r.t.size ≤ 70000
  d : r.d.size ≤ 70000
  m : r.m.length ≤ 300 * k
theorem getD_fit (x : Lim) (hx : LimB x) (c : UInt8) (hc : IsF c) (d : Dn) (k : Nat) (h : FitK d.r k) : FitK (getD x c d).r (k + 1) := by
  obtain ⟨xs, hxs, hl⟩ := mvsD_r (x.cm (numA d.l d.sp 1)) (numD 1 d fun _ r => r)
  have h1 := hx.c _ (numA_one d.l d.sp)
  have e1 := h.p
  have e2 := h.t
  have e3 := h.d
  have e4 := h.m
  rcases hc with rfl | rfl | rfl | rfl | rfl | rfl | rfl | rfl | rfl
  · rw [getD_112]; exact ⟨textA_size _ _ _ hx.p, e2, e3, by show d.r.m.length ≤ _; omega⟩
  · rw [getD_116]; exact ⟨e1, textA_size _ _ _ hx.p, e3, by show d.r.m.length ≤ _; omega⟩
  · rw [getD_115]; exact ⟨e1, e2, e3, by show d.r.m.length ≤ _; omega⟩
  · rw [getD_104]; exact ⟨e1, e2, e3, by show d.r.m.length ≤ _; omega⟩
  · rw [getD_111]; exact ⟨e1, e2, e3, by show d.r.m.length ≤ _; omega⟩
  · rw [getD_100]; exact ⟨e1, e2, textA_size _ _ _ hx.d, by show d.r.m.length ≤ _; omega⟩
  · rw [getD_107]; exact ⟨e1, e2, e3, by show d.r.m.length ≤ _; omega⟩
  · rw [getD_105]; exact ⟨e1, e2, e3, by show d.r.m.length ≤ _; omega⟩
  · rw [getD_109, hxs]
    refine ⟨e1, e2, e3, ?_⟩
    show (d.r.m ++ xs).length ≤ _
    rw [List.length_append]; omega
theorem fold_fit (x : Lim) (hx : LimB x) : ∀ (cs : List UInt8) (d : Dn) (k : Nat), (∀ c ∈ cs, IsF c) → FitK d.r k → FitK (cs.foldl (fun d c => getD x c d) d).r (k + cs.length)
  | [], d, k, _, h => h
  | c :: cs, d, k, hF, h => by
    rw [List.foldl_cons, List.length_cons]
    have := fold_fit x hx cs (getD x c d) (k + 1) (fun c' hc' => hF c' (List.mem_cons_of_mem _ hc')) (getD_fit x hx c (hF c (List.mem_cons_self ..)) d k h)
    rwa [show k + (cs.length + 1) = k + 1 + cs.length by omega]
theorem dec_fit (x : Lim) (hx : LimB x) (s : List UInt8) : Fit (decD x s).r := by
  have h0 : FitK (headD s).r 0 := ⟨by show (⟨#[]⟩ : ByteArray).size ≤ _; simp [ByteArray.size], by show (⟨#[]⟩ : ByteArray).size ≤ _; simp [ByteArray.size], by show (⟨#[]⟩ : ByteArray).size ≤ _; simp [ByteArray.size], by show ([] : List Mv).length ≤ _; simp⟩
  by_cases hk : 1 ≤ (headD s).r.k ∧ (headD s).r.k ≤ 14
  · have h := fold_fit x hx _ (headD s) 0 (fields_isF _ hk) h0
    have hl := fields_size _ hk
    have hl2 : (fieldsOf (headD s).r.k).data.toList.length = (fieldsOf (headD s).r.k).size := by simp
    have e := h.m
    have e1 := h.p
    have e2 := h.t
    have e3 := h.d
    unfold Fit decD
    omega
  · rw [decD_none x s hk]
    have e := h0.m
    have e1 := h0.p
    have e2 := h0.t
    have e3 := h0.d
    unfold Fit
    omega
theorem fold_m (x : Lim) : ∀ (cs : List UInt8) (d : Dn), 109 ∉ cs → (cs.foldl (fun d c => getD x c d) d).r.m = d.r.m
  | [], _, _ => rfl
  | c :: cs, d, h => by
    rw [List.foldl_cons, fold_m x cs _ (fun e => h (List.mem_cons_of_mem _ e))]
    exact getD_m x c (fun e => h (by rw [e]; exact List.mem_cons_self ..)) d
theorem take_not (cs : List UInt8) (h : cs.Nodup) (k : Nat) (hk : k < cs.length) : cs[k] ∉ cs.take k := by
  intro hm
  have h2 := h
  rw [← List.take_append_drop k cs, List.nodup_append] at h2
  exact h2.2.2 _ hm _ (by rw [List.drop_eq_getElem_cons hk]; exact List.mem_cons_self ..) rfl
end Go.Proofs.YtlffcilgmockmaaDoor.OpW
