/- What the listed table gives: op.fields stands in block 0. -/
import Derived.Test.YthnkpoagpjnopaaDoorRows
import Derived.Test.YthnkpoagpjnopaaDoorOpKept
import Derived.ProofKit
import Derived.LaidMore
import Derived.OpenShut
import Derived.Stop.Joined
namespace Go.Proofs.YthnkpoagpjnopaaDoor.OpW
set_option maxRecDepth 100000
open Go.ChangeShapes Go.WideShapes Go.ChangeAt Go.WideElems Go.RowKit OpP
theorem gFields : Tryd.prog.globalNamed "escheat/op.fields" = some 0 := by kernel_rfl
theorem tFields : (Tryd.prog.globals[0]?).map (·.type) = some 133 := by kernel_rfl
theorem take_one {α : Type} {l : List α} {k : Nat} {v : α} (h : (l.drop k).take 1 = [v]) : l[k]? = some v := by
  have h1 := congrArg (fun y => y[0]?) h
  simpa [List.getElem?_take, List.getElem?_drop] using h1
theorem fields_at {H : Type} (k : Nat) (h1 : 1 ≤ k) (h2 : k ≤ 14) : ([.lit (.string []), .lit (.string [112]), .lit (.string [112]), .lit (.string [112]), .lit (.string [112, 116]), .lit (.string [112]), .lit (.string [112, 116]), .lit (.string [112, 115]), .lit (.string [112]), .lit (.string [104]), .lit (.string [104, 111, 100]), .lit (.string [107]), .lit (.string [107]), .lit (.string [105, 109, 100]), .lit (.string [100, 115, 111])] : List (DataW H))[k]? = some (.lit (.string (fieldsOf k).data.toList)) := by
  have h : k = 1 ∨ k = 2 ∨ k = 3 ∨ k = 4 ∨ k = 5 ∨ k = 6 ∨ k = 7 ∨ k = 8 ∨ k = 9 ∨ k = 10 ∨ k = 11 ∨ k = 12 ∨ k = 13 ∨ k = 14 := by omega
  rcases h with rfl | rfl | rfl | rfl | rfl | rfl | rfl | rfl | rfl | rfl | rfl | rfl | rfl | rfl <;> rfl
theorem fl_of {W : World} (h : laidMetH Tryd.prog [("escheat/op.fields", Rows.laid_escheat_op_fields)] W) : Fl W := by
  rw [MakeChecks.laidMetH_plain _ _ _ (by kernel_rfl)] at h
  obtain ⟨ps, ⟨g0, t0, cs0, f0, p0, q0, hg0, ht0, hv0, hd0, _⟩, _, _⟩ := h
  obtain rfl := Option.some.inj (gFields.symm.trans hg0)
  obtain rfl := Option.some.inj (tFields.symm.trans ht0)
  obtain ⟨xs, m, rfl, hx, hlen, hn, hel⟩ := DataW.trod_array Tryd.underlying133 hd0
  have c9 : Tryd.prog.cellsOf 9 = 1 := by kernel_rfl
  simp only [Prod.mk.injEq] at hx
  have hl := hx.1
  unfold Rows.laid_escheat_op_fields at hl
  injection hl with hl
  intro k h1 h2
  have hk := hel k (by omega)
  rw [c9, Nat.mul_one] at hk
  have hf : (xs.map (·.1))[k]? = some (.lit (.string (fieldsOf k).data.toList)) := by rw [← hl]; exact fields_at k h1 h2
  rw [List.getElem?_map] at hf
  cases hxk : xs[k]? with
  | none => rw [hxk] at hf; cases hf
  | some y =>
    rw [hxk] at hf hk
    simp only [Option.map_some, Option.some.injEq] at hf
    obtain ⟨s, e1, e2, _⟩ := DataW.trod_string Tryd.underlying9 hk
    rw [e2] at hf
    injection hf with hf
    injection hf with hf
    have hs : s = fieldsOf k := by
      obtain ⟨a⟩ := s
      obtain ⟨b, hb⟩ : ∃ b, fieldsOf k = b := ⟨_, rfl⟩
      rw [hb] at hf ⊢
      obtain ⟨b⟩ := b
      congr 1
      exact Array.toList_inj.1 hf
    rw [← hs]
    have := World.var?_cell hg0 hv0 k
    rw [this]
    have h3 := take_one e1
    simpa using h3
end Go.Proofs.YthnkpoagpjnopaaDoor.OpW
