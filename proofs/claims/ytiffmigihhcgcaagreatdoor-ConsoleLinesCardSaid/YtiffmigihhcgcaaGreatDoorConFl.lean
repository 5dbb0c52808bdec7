/- What the listed tables give: the variables' facts. -/
import Derived.Test.YtiffmigihhcgcaaGreatDoorRows
import Derived.Test.YtiffmigihhcgcaaGreatDoorConFresh
import Derived.ProofKit
import Derived.LaidMore
import Derived.OpenShut
import Derived.Stop.Joined
import Derived.Lib.LaidTab
namespace Go.Proofs.YtiffmigihhcgcaaGreatDoor.ConW
set_option maxRecDepth 100000
set_option linter.constructorNameAsVariable false
open Go.ChangeShapes Go.WideShapes Go.ChangeAt Go.WideElems Go.RowKit ConP
def fmD {H : Type} (x : Fm) : DataW H := .agg [.lit (.string x.w), .lit (.int .i64 x.k), .lit (.int .i64 x.c), .lit (.int .i64 x.o), .lit (.string x.fs)]
theorem forms_laid : (Rows.laid_escheat_console_forms : DataW Unit) = .agg (forms.map fmD) := rfl
theorem pow_laid : (Rows.laid_internal_strconv_uint64pow10 : DataW Unit) = Lib.tabData .u64 Lib.pow10Tab := rfl
theorem gForms : Tryz.prog.globalNamed "escheat/console.forms" = some 0 := by kernel_rfl
theorem tForms : (Tryz.prog.globals[0]?).map (·.type) = some 51 := by kernel_rfl
theorem gSyn : Tryz.prog.globalNamed "strconv.ErrSyntax" = some 3 := by kernel_rfl
theorem gRng : Tryz.prog.globalNamed "strconv.ErrRange" = some 4 := by kernel_rfl
theorem tSyn : (Tryz.prog.globals[3]?).map (·.type) = some 83 := by kernel_rfl
theorem tRng : (Tryz.prog.globals[4]?).map (·.type) = some 83 := by kernel_rfl
theorem tPow : (Tryz.prog.globals[1]?).map (·.type) = some 138 := by kernel_rfl
section
variable {enc : TypeId × Value → Unit} {w : World} {base : Nat} {sp : Nat → Bool} {held : Bool} {fuel : Nat} {cs : List Value} {p : List MemPlace}
theorem iface_of {t : TypeId} {ms : Array (String × TypeId)} {nm : String} {d : DataW Unit} (ht : Tryz.prog.underlying t = some (.interface ms)) (h : DataW.trod enc Tryz.prog w base sp held fuel t cs = some (.iface nm d, p)) : ∃ u v, cs = [.iface u v] := by
  cases fuel with
  | zero => simp [DataW.trod] at h
  | succ m =>
    unfold DataW.trod at h
    rw [ht] at h
    split at h <;> first | exact ⟨_, _, rfl⟩ | simp_all
theorem str_of {s : List UInt8} (h : DataW.trod enc Tryz.prog w base sp held fuel 9 cs = some (.lit (.string s), p)) : cs = [.string (bs s)] := by
  cases fuel with
  | zero => simp [DataW.trod] at h
  | succ m =>
    unfold DataW.trod at h
    rw [Tryz.underlying9] at h
    split at h <;> simp_all
    obtain ⟨_, h1, _⟩ := h
    rw [← h1]; rfl
theorem int_of {n : Int} (h : DataW.trod enc Tryz.prog w base sp held fuel 3 cs = some (.lit (.int .i64 n), p)) : cs = [.int .i64 n] := by
  cases fuel with
  | zero => simp [DataW.trod] at h
  | succ m =>
    unfold DataW.trod at h
    rw [Tryz.underlying3] at h
    split at h <;> simp_all
theorem form_of {x : Fm} (h : DataW.trod enc Tryz.prog w base sp held fuel 50 cs = some (fmD x, p)) : cs = fmCells x := by
  obtain ⟨xs, n, _, hx, hl, hlen, hf⟩ := DataW.trod_struct Tryz.underlying50 h
  have c9 : Tryz.prog.cellsOf 9 = 1 := by kernel_rfl
  have c3 : Tryz.prog.cellsOf 3 = 1 := by kernel_rfl
  have c5 : Tryz.prog.cellsOf 50 = 5 := by kernel_rfl
  rw [c5] at hl
  match xs, hlen, cs, hl with
  | [y0, y1, y2, y3, y4], _, [v0, v1, v2, v3, v4], _ =>
    have g0 := hf 0 _ rfl
    have g1 := hf 1 _ rfl
    have g2 := hf 2 _ rfl
    have g3 := hf 3 _ rfl
    have g4 := hf 4 _ rfl
    simp [c9, c3] at g0 g1 g2 g3 g4
    unfold fmD at hx
    simp only [Prod.mk.injEq, List.map_cons, List.map_nil] at hx
    obtain ⟨hx, _⟩ := hx
    injection hx with hx
    injection hx with e0 hx
    injection hx with e1 hx
    injection hx with e2 hx
    injection hx with e3 hx
    injection hx with e4 hx
    obtain ⟨d0, p0⟩ := y0
    obtain ⟨d1, p1⟩ := y1
    obtain ⟨d2, p2⟩ := y2
    obtain ⟨d3, p3⟩ := y3
    obtain ⟨d4, p4⟩ := y4
    simp only at e0 e1 e2 e3 e4
    subst e0; subst e1; subst e2; subst e3; subst e4
    have a0 := str_of g0
    have a1 := int_of g1
    have a2 := int_of g2
    have a3 := int_of g3
    have a4 := str_of g4
    injection a0 with a0 _
    injection a1 with a1 _
    injection a2 with a2 _
    injection a3 with a3 _
    injection a4 with a4 _
    rw [a0, a1, a2, a3, a4]; rfl
end
theorem flat_of {α : Type} (f : α → List Value) (n : Nat) : ∀ (l : List α) (cs : List Value), cs.length = l.length * n → (∀ k x, l[k]? = some x → (cs.drop (k * n)).take n = f x) → cs = l.flatMap f
  | [], cs, h, _ => by simp at h; simp [h]
  | x :: l, cs, h, hk => by
    have h0 := hk 0 x rfl
    rw [Nat.zero_mul, List.drop_zero] at h0
    have ih := flat_of f n l (cs.drop n) (by rw [List.length_drop, h, List.length_cons, Nat.succ_mul]; omega) (fun k y hy => by
      rw [List.drop_drop, Nat.add_comm, ← Nat.succ_mul]
      exact hk (k + 1) y (by simpa using hy))
    rw [List.flatMap_cons, ← h0, ← ih, List.take_append_drop]
def laidL : List (String × DataW Unit) := [("math/bits.deBruijn32tab", Rows.laid_math_bits_deBruijn32tab), ("math/bits.deBruijn64tab", Rows.laid_math_bits_deBruijn64tab), ("internal/strconv.uint64pow10", Rows.laid_internal_strconv_uint64pow10), ("unicode/utf8.acceptRanges", Rows.laid_unicode_utf8_acceptRanges), ("strconv.ErrRange", Rows.laid_strconv_ErrRange), ("strconv.ErrSyntax", Rows.laid_strconv_ErrSyntax), ("escheat/console.forms", Rows.laid_escheat_console_forms), ("unicode/utf8.first", Rows.laid_unicode_utf8_first)]
theorem var_heap {w : World} {n : String} {g : Nat} {cs : Array Value} (hg : Tryz.prog.globalNamed n = some g) (h : w.var? Tryz.prog n = some cs) : ∃ t fr, w.heap[g]? = some (.cells cs t fr) := by
  unfold World.var? at h
  rw [hg] at h
  simp only [Option.bind_some] at h
  split at h
  · rename_i c t fr he
    injection h with h
    subst h
    exact ⟨t, fr, he⟩
  · cases h
theorem pv_of {W : World} (h : laidMetH Tryz.prog laidL W) : PV W := by
  rw [MakeChecks.laidMetH_plain _ _ _ (by kernel_rfl)] at h
  obtain ⟨ps, h, _, _⟩ := h
  obtain ⟨_, _, _, _, _, _, _, _, _, _, h, _⟩ := h
  obtain ⟨_, _, _, _, _, _, _, _, _, _, h, _⟩ := h
  obtain ⟨g2, t2, cs2, _, _, _, hg2, ht2, hv2, hd2, h, _⟩ := h
  obtain ⟨_, _, _, _, _, _, _, _, _, _, h, _⟩ := h
  obtain ⟨g4, t4, cs4, _, _, _, hg4, ht4, hv4, hd4, h, _⟩ := h
  obtain ⟨g5, t5, cs5, _, _, _, hg5, ht5, hv5, hd5, h, _⟩ := h
  obtain ⟨g6, t6, cs6, f6, p6, _, hg6, ht6, hv6, hd6, h, _⟩ := h
  clear h
  obtain rfl := Option.some.inj (gpow.symm.trans hg2)
  obtain rfl := Option.some.inj (tPow.symm.trans ht2)
  obtain rfl := Option.some.inj (gRng.symm.trans hg4)
  obtain rfl := Option.some.inj (tRng.symm.trans ht4)
  obtain rfl := Option.some.inj (gSyn.symm.trans hg5)
  obtain rfl := Option.some.inj (tSyn.symm.trans ht5)
  obtain rfl := Option.some.inj (gForms.symm.trans hg6)
  obtain rfl := Option.some.inj (tForms.symm.trans ht6)
  have hcell : ∀ {n : String} {g : Nat} {cs : Array Value} {u : TypeId} {v : Value}, Tryz.prog.globalNamed n = some g → W.var? Tryz.prog n = some cs → cs.toList = [.iface u v] → W.cell? ⟨g, 0, none⟩ = some (.iface u v) := by
    intro n g cs u v hg hv he
    obtain ⟨t, fr, hh⟩ := var_heap hg hv
    rw [Lib.cell_of_heap hh]
    obtain ⟨l⟩ := cs
    simp only at he
    rw [he]; rfl
  refine ⟨⟨?_, ?_, ?_⟩, ?_⟩
  · obtain ⟨u, v, he⟩ := iface_of Tryz.underlying83 hd5
    exact ⟨u, v, hcell gSyn hv5 he⟩
  · obtain ⟨u, v, he⟩ := iface_of Tryz.underlying83 hd4
    exact ⟨u, v, hcell gRng hv4 he⟩
  · rw [pow_laid] at hd2
    unfold Lib.TabIs
    rw [hv2, ← Lib.cells_of_tab Tryz.underlying138 Tryz.underlying114 (by kernel_rfl) (by kernel_rfl) hd2]
  · obtain ⟨t, fr, hh⟩ := var_heap gForms hv6
    refine ⟨t, fr, ?_⟩
    rw [hh]
    have e : cs6 = formCells := by
      rw [forms_laid] at hd6
      obtain ⟨xs, m, rfl, hx, hlen, hn, hel⟩ := DataW.trod_array Tryz.underlying51 hd6
      have c5 : Tryz.prog.cellsOf 50 = 5 := by kernel_rfl
      have c27 : Tryz.prog.cellsOf 51 = 135 := by kernel_rfl
      simp only [Prod.mk.injEq] at hx
      have hl := hx.1
      injection hl with hl
      apply Array.toList_inj.1
      refine flat_of fmCells 5 forms _ (by rw [hlen, c27]; rfl) (fun k x hxk => ?_)
      have hk27 : k < 27 := (List.getElem?_eq_some_iff.1 hxk).1
      have hk := hel k hk27
      rw [c5] at hk
      have hf : (xs.map (·.1))[k]? = some (fmD x) := by rw [← hl, List.getElem?_map, hxk]; rfl
      rw [List.getElem?_map] at hf
      cases hxx : xs[k]? with
      | none => rw [hxx] at hf; cases hf
      | some y =>
        rw [hxx] at hf hk
        simp only [Option.map_some, Option.some.injEq] at hf
        obtain ⟨d, q⟩ := y
        simp only at hf
        subst hf
        exact form_of hk
    rw [e]
end Go.Proofs.YtiffmigihhcgcaaGreatDoor.ConW
