/- A step that came in by value: opener, and the laws' walks in the order that the rows want. -/
import Derived.Test.YtiffmigihhcgcaaDoorConStep
namespace Go.Proofs.YtiffmigihhcgcaaDoor.ConW
set_option maxRecDepth 100000
set_option linter.constructorNameAsVariable false
set_option linter.unusedVariables false
open Go.RowKit Go.ChangeShapes Go.WideShapes Go.Deep ConP OpP OpW
section
variable {H : Type} {enc : TypeId × Value → H} {w : World} {base b0 : Nat} {spare : Nat → Bool} {held : Bool} {r : Reach} {v : Value} {d : DataW H} {p : List MemPlace}
theorem open_i {fuel : Nat} {u : Value} {x : DataW H × List MemPlace} (h : DataW.trod enc Tryd.prog w base spare held fuel 3 [u] = some x) : ∃ z : Int, u = .int .i64 z ∧ -9223372036854775808 ≤ z ∧ z ≤ 9223372036854775807 := by
  obtain ⟨z, e, _, hw⟩ := DataW.trod_int Tryd.underlying3 h
  exact ⟨z, by simpa using e, i64_bd' hw⟩
theorem open_i6 {fuel : Nat} {u : Value} {x : DataW H × List MemPlace} (h : DataW.trod enc Tryd.prog w base spare held fuel 2 [u] = some x) : ∃ z : Int, u = .int .i64 z ∧ -9223372036854775808 ≤ z ∧ z ≤ 9223372036854775807 := by
  obtain ⟨z, e, _, hw⟩ := DataW.trod_int Tryd.underlying2 h
  exact ⟨z, by simpa using e, i64_bd' hw⟩
theorem open_s {fuel : Nat} {u : Value} {x : DataW H × List MemPlace} (h : DataW.trod enc Tryd.prog w base spare held fuel 9 [u] = some x) : ∃ z : ByteArray, u = .string z := by
  obtain ⟨z, e, _, _⟩ := DataW.trod_string Tryd.underlying9 h
  exact ⟨z, by simpa using e⟩
theorem struct_all {P : Program} {fuel : Nat} {t : TypeId} {cs : List Value} {x : DataW H × List MemPlace} {fs : Array Field} (ht : P.underlying t = some (.struct fs)) (h : DataW.trod enc P w base spare held fuel t cs = some x) :
    ∃ n, cs.length = P.cellsOf t ∧ ∀ (i : Nat) (f : Field), fs[i]? = some f → ∃ y, DataW.trod enc P w base spare held n f.type ((cs.drop f.offset).take (P.cellsOf f.type)) = some y := by
  obtain ⟨xs, n, _, _, hl, hlen, hf⟩ := DataW.trod_struct ht h
  refine ⟨n, hl, fun i f hi => ?_⟩
  have h1 := hf i f hi
  have hil : i < xs.length := by rw [hlen]; exact (Array.getElem?_eq_some_iff.1 hi).1
  rw [List.getElem?_eq_getElem hil] at h1
  exact ⟨_, h1⟩
theorem zero_in : (-9223372036854775808 : Int) ≤ 0 ∧ (0 : Int) ≤ 9223372036854775807 := by decide
theorem open_stepv (hv : Value.okWide Tryd.prog w r b0 32 v) (h : DataW.Trod enc Tryd.prog w base spare held 32 v d p) :
    ∃ (s : Stp) (oa : Option Addr) (n cc : Nat) (z : Int) (pa : Option Addr) (pn pc : Nat) (_ : n = s.a.o.m.length) (_ : Ints s), v = .agg (cellsS s (.slice oa n cc) z (.slice pa pn pc)) ∧ MvAt w oa s.a.o.m ∧ ChAt w pa pn := by
  obtain ⟨cs, rfl, _⟩ := okWide_struct Tryd.underlying32 hv
  obtain ⟨fuel, hf⟩ := h
  obtain ⟨m, hcl, hfd⟩ := struct_all Tryd.underlying32 hf
  have k0 : Tryd.prog.cellsOf 32 = 24 := by kernel_rfl
  have k1 : Tryd.prog.cellsOf 3 = 1 := by kernel_rfl
  have k2 : Tryd.prog.cellsOf 27 = 18 := by kernel_rfl
  have k3 : Tryd.prog.cellsOf 30 = 2 := by kernel_rfl
  have k4 : Tryd.prog.cellsOf 9 = 1 := by kernel_rfl
  have k5 : Tryd.prog.cellsOf 25 = 12 := by kernel_rfl
  have k6 : Tryd.prog.cellsOf 2 = 1 := by kernel_rfl
  have k7 : Tryd.prog.cellsOf 23 = 1 := by kernel_rfl
  have k8 : Tryd.prog.cellsOf 28 = 1 := by kernel_rfl
  obtain ⟨l, rfl⟩ : ∃ l : List Value, cs = l.toArray := ⟨cs.toList, by simp⟩
  rw [k0] at hcl
  have hl : l.length = 24 := hcl
  have hls : (Value.agg l.toArray).cells.toList = l := rfl
  rw [hls] at hfd
  clear hcl hf hv hls
  match l, hl, hfd with
  | [v0, v1, v2, v3, v4, v5, v6, v7, v8, v9, v10, v11, v12, v13, v14, v15, v16, v17, v18, v19, v20, v21, v22, v23], _, hfd =>
    obtain ⟨_, g0⟩ := hfd 0 _ rfl
    obtain ⟨_, g1⟩ := hfd 1 _ rfl
    obtain ⟨_, g2⟩ := hfd 2 _ rfl
    obtain ⟨_, g3⟩ := hfd 3 _ rfl
    obtain ⟨_, g4⟩ := hfd 4 _ rfl
    obtain ⟨_, g5⟩ := hfd 5 _ rfl
    simp [k1, k2, k3] at g0 g1 g2 g3 g4 g5
    obtain ⟨mc, _, hc⟩ := struct_all Tryd.underlying27 g4
    obtain ⟨_, c0⟩ := hc 0 _ rfl
    obtain ⟨_, c1⟩ := hc 1 _ rfl
    obtain ⟨_, c2⟩ := hc 2 _ rfl
    obtain ⟨_, c3⟩ := hc 3 _ rfl
    obtain ⟨_, c4⟩ := hc 4 _ rfl
    obtain ⟨_, c5⟩ := hc 5 _ rfl
    obtain ⟨_, c6⟩ := hc 6 _ rfl
    simp [k1, k4, k5] at c0 c1 c2 c3 c4 c5 c6
    obtain ⟨mo, _, ho⟩ := struct_all Tryd.underlying25 c1
    obtain ⟨_, o0⟩ := ho 0 _ rfl
    obtain ⟨_, o1⟩ := ho 1 _ rfl
    obtain ⟨_, o2⟩ := ho 2 _ rfl
    obtain ⟨_, o3⟩ := ho 3 _ rfl
    obtain ⟨_, o4⟩ := ho 4 _ rfl
    obtain ⟨_, o5⟩ := ho 5 _ rfl
    obtain ⟨_, o6⟩ := ho 6 _ rfl
    obtain ⟨_, o7⟩ := ho 7 _ rfl
    obtain ⟨_, o8⟩ := ho 8 _ rfl
    obtain ⟨_, o9⟩ := ho 9 _ rfl
    obtain ⟨_, o10⟩ := ho 10 _ rfl
    obtain ⟨_, o11⟩ := ho 11 _ rfl
    simp [k1, k4, k6, k7] at o0 o1 o2 o3 o4 o5 o6 o7 o8 o9 o10 o11
    obtain ⟨mp, _, hp⟩ := struct_all Tryd.underlying30 g5
    obtain ⟨_, p0⟩ := hp 0 _ rfl
    obtain ⟨_, p1⟩ := hp 1 _ rfl
    simp [k1, k8] at p0 p1
    obtain ⟨sk, rfl, ska, skb⟩ := open_i g0
    obtain ⟨sc, rfl, sca, scb⟩ := open_i g1
    obtain ⟨sn, rfl, sna, snb⟩ := open_i g2
    obtain ⟨sf, rfl, sfa, sfb⟩ := open_i g3
    obtain ⟨ak, rfl, aka, akb⟩ := open_i c0
    obtain ⟨ocl, rfl, ocla, oclb⟩ := open_i o0
    obtain ⟨osq, rfl, osqa, osqb⟩ := open_i o1
    obtain ⟨okk, rfl, okka, okkb⟩ := open_i o2
    obtain ⟨opp, rfl⟩ := open_s o3
    obtain ⟨ott, rfl⟩ := open_s o4
    obtain ⟨osz, rfl, osza, oszb⟩ := open_i o5
    obtain ⟨ohh, rfl, ohha, ohhb⟩ := open_i o6
    obtain ⟨ooo, rfl, oooa, ooob⟩ := open_i o7
    obtain ⟨odd, rfl⟩ := open_s o8
    obtain ⟨otk, rfl, otka, otkb⟩ := open_i6 o9
    obtain ⟨oii, rfl, oiia, oiib⟩ := open_i o10
    obtain ⟨oa, mv, cap, rfl, _, hm⟩ := open_moves o11
    obtain ⟨ap, rfl⟩ := open_s c2
    obtain ⟨ah, rfl, aha, ahb⟩ := open_i c3
    obtain ⟨af, rfl, afa, afb⟩ := open_i c4
    obtain ⟨asz, rfl, asza, aszb⟩ := open_i c5
    obtain ⟨ad, rfl⟩ := open_s c6
    obtain ⟨zz, rfl, zza, zzb⟩ := open_i p0
    obtain ⟨pa, pn, pc, rfl, hch⟩ := open_chains p1
    refine ⟨⟨sk, sc, sn, sf, ⟨ak, ⟨ocl, osq, okk, opp, ott, osz, ohh, ooo, odd, otk, oii, mv⟩, ap, ah, af, asz, ad⟩⟩, oa, mv.length, cap, zz, pa, pn, pc, rfl, ?_, rfl, hm, hch⟩
    intro p
    cases p
    all_goals first
      | exact ⟨sca, scb⟩
      | exact ⟨sna, snb⟩
      | exact ⟨sfa, sfb⟩
      | exact ⟨osza, oszb⟩
      | exact ⟨asza, aszb⟩
      | exact ⟨ohha, ohhb⟩
      | exact ⟨aha, ahb⟩
      | exact ⟨afa, afb⟩
      | exact zero_in
end
end Go.Proofs.YtiffmigihhcgcaaDoor.ConW
