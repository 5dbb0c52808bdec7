/- The table of inodes: All. -/
import Derived.Test.YtappgelpigoknaaInbTrunc
import Derived.Test.YtappgelpigoknaaShelf
import Derived.Deep.DeepCutAuto
namespace Go.Proofs.Ytappgelpigoknaa.InoW
set_option maxRecDepth 100000
open Go.RowKit InoP ExtW Go.Maps Go.Sort Go.Shelf
variable {tb b : Nat} {L : List Ino} {next : Int}
theorem sortsA (m : Nat) : AnyZI.SortsIn Try.prog Try.sortedA_ren Fence.wide m :=
  ⟨fun blk off cap ss W hH hblk hsz => callsIn_wide.2 (AnyM.slices_Sort_int Try.sortA blk off cap ss W hH hblk hsz),
   fun p cap W => callsIn_wide.2 (AnyM.slices_Sort_int_none Try.sortA p cap W)⟩
theorem sort_keys {ss : List Int} (hL : Rises L) (h : ss.Perm (L.map (·.i))) : ss.mergeSort (fun x y => decide (x ≤ y)) = L.map (·.i) := by
  have hk := (rises_keys L).1 hL
  refine List.Perm.eq_of_pairwise (le := fun a b : Int => a ≤ b) (fun a b _ _ h1 h2 => Int.le_antisymm h1 h2) ?_ (hk.imp fun h => by omega) ((List.mergeSort_perm _ _).trans h)
  refine (List.pairwise_mergeSort (le := fun x y : Int => decide (x ≤ y)) (fun a b c h1 h2 => ?_) (fun a b => ?_) ss).imp fun h => by simpa using h
  · simp only [decide_eq_true_eq] at *; omega
  · simp only [Bool.or_eq_true, decide_eq_true_eq]; omega
set_option maxHeartbeats 1600000 in
theorem all_any (w : World) (h : TIs w tb b L next) :
    Calls Try.prog 29 #[.pointer (some ⟨tb, 0, none⟩)] w fun e w' => ∃ oa cap, e = .returned (.slice oa L.length cap) ∧ w'.ownsRow w.heap.size 3 1 (.slice oa L.length cap) L.length (L.map fun x => Value.int .i64 x.i) ∧ (oa = none → L.length = 0 ∧ cap = 0) ∧ Below w.heap.size w w' := by
  refine (callsIn_wide (n := 6)).1 ?_
  obtain ⟨n, g, o⟩ := h.op
  obtain ⟨k1, k2⟩ := keys_of h.good o.no o.yes
  obtain ⟨D0, hown, hperm, hsize, _⟩ := owns_keys o.m k1 k2 (by have := h.good.len; simp; omega)
  have hbl := hown.lt
  have hlen := h.good.len
  have hsz : Maps.size D0 = L.length := by rw [hsize]; simp
  have hseq : SeqGives Fence.wide 2 Try.prog 63 #[.pointer (some ⟨w.heap.size, 0, none⟩)] encZ (fun ss => ss.Perm (intKeys D0)) (Maps.size D0) (w.alloc (.cells #[.map (some b)] 69)) :=
    AnyZI.keys_gives (ρ := Try.keysA_ren) { Try.keysA with } Fence.wide _ trivial rfl (by omega) w.heap.size b _ D0 _ (by simp) (by simp) (by
      obtain ⟨es, clock, hb, Ft, hs, hD⟩ := hown
      exact ⟨es, clock, (Below.heap_alloc _ _ b hbl).trans hb, Ft, hs, hD⟩)
  have cK : ∀ mb W, CallsIn Fence.wide 5 Try.prog 47 #[.map mb] W fun e w' => e = .returned (.func (.func 63) #[] #[.pointer (some ⟨W.heap.size, 0, none⟩)]) ∧ w' = W.alloc (.cells #[.map mb] 69) := fun mb W => AnyZI.keys_in Try.keysA Fence.wide 5 trivial rfl mb W
  have cS := AnyZI.sorted_in Try.sortedA Fence.wide 5 trivial trivial trivial trivial rfl (by omega) (sortsA _) (enters_of Try.func62 (by kernel_rfl) rfl) 63 #[.pointer (some ⟨w.heap.size, 0, none⟩)] trivial (enters_of Try.func63 (by kernel_rfl) rfl) _ _ (by rw [hsz]; unfold maxLen; omega) (by rw [hsz]; omega) _ hseq
  change CallsIn _ _ Try.prog 46 _ _ _ at cS
  have hfK : Fence.wide.fn 47 := trivial
  have hfS : Fence.wide.fn 46 := trivial
  have h0 := h.m0.1
  have HG := Lib.hid h.good.rises
  have HPM := Lib.hid hperm
  have CK := Lib.hid cK
  have CS := Lib.hid cS
  clear h o k1 k2 hown hperm hsize hbl hlen hsz hseq cK cS
  refine callsIn_of_wp Try.func29 rfl trivial ?_ rfl
  simp only [Try.ntmps29, List.size_toArray, List.length_cons, List.length_nil, Nat.reduceAdd, Nat.reduceSub, Array.replicate_succ, Array.replicate_zero, List.push_toArray, List.append_toArray, List.nil_append, List.cons_append]
  gi_wp2_with (first
    | (gi_at_call 47; refine (CK.out _ _).mono ?_; rintro e w' ⟨rfl, rfl⟩)
    | (gi_at_call 46; refine CS.out.mono ?_; rintro e w' ⟨v, ss, rfl, hS, hrow, hnil, hb⟩; have HS := Lib.hid hS; have HROW := Lib.hid hrow; have HNIL := Lib.hid hnil; have HB := Lib.hid hb; clear hS hrow hnil hb))
  go_ret
  have hss : ss.Perm (L.map (·.i)) := HS.out.trans HPM.out
  have hlen : ss.length = L.length := by have := hss.length_eq; simpa using this
  have hrow := HROW.out
  rw [sort_keys HG.out hss, hlen, List.map_map] at hrow
  obtain ⟨oa, cap, rfl⟩ := row_form hrow
  refine ⟨oa, cap, rfl, ownsRow_base_a hrow (by simp), fun e => ?_, ((Below.refl _ w).alloc (Nat.le_refl _) _).trans (HB.out.mono (by simp))⟩
  rcases hrow.2 with ⟨e1, h1⟩ | ⟨gg, cap', cur, e1, _⟩
  · simp only [Value.slice.injEq] at e1
    exact ⟨h1, e1.2.2⟩
  · subst e; simp at e1
end Go.Proofs.Ytappgelpigoknaa.InoW
