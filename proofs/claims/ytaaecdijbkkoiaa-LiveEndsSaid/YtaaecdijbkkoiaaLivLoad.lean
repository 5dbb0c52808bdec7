/- Loaded: a table and the document's, of a list that may be a table's. -/
import Derived.Test.YtaaecdijbkkoiaaLivSegs
import Derived.Test.YtaaecdijbkkoiaaInoRGood
import Derived.Test.YtaaecdijbkkoiaaInoOwn
import Derived.Test.YtaaecdijbkkoiaaInoLoad
import Derived.OwnWalk
namespace Go.Proofs.Ytaaecdijbkkoiaa.LivW
set_option maxRecDepth 100000
open Go.RowKit LivP InoP InoW ExtW
/-- too long a list, or one of its lists of parts is -/
def largeB (xs : List Ino) : Bool := decide (100 < xs.length) || xs.any fun x => decide (100 < x.p.length)
theorem large_small {xs : List Ino} (h : largeB xs = false) : xs.length ≤ 100 ∧ ∀ x ∈ xs, x.p.length ≤ 100 := by
  unfold largeB at h
  rw [Bool.or_eq_false_iff] at h
  refine ⟨by have := of_decide_eq_false h.1; omega, fun x hx => ?_⟩
  have := List.any_eq_false.1 h.2 x hx
  simp at this; exact this
set_option maxHeartbeats 1600000 in
theorem large_any (oa : Option Addr) (cap : Nat) (xs : List Ino) (ys : List IV) (w : World) (h : IList w oa xs ys) (hx : xs.length ≤ 9223372036854775806) (hp : ∀ x ∈ xs, x.p.length ≤ 9223372036854775807) :
    Calls Try.prog 24 #[.slice oa xs.length cap] w fun e w' => e = .returned (.bool (largeB xs)) ∧ Below w.heap.size w w' := by
  have H := Lib.hid h
  have HX := Lib.hid hx
  have HP := Lib.hid hp
  have hlen := h.read.1
  clear h hp
  by_cases hb : 100 < xs.length
  · have hb2 : (100 : Int) < (xs.length : Int) := by omega
    have HE : Hid (largeB xs = true) := Lib.hid (by unfold largeB; rw [decide_eq_true hb]; rfl)
    go_enter Try.func24, Try.ntmps24
    go_wp2_with fail
    go_ret
    exact ⟨by rw [HE.out]; rfl, Below.refl _ _⟩
  · have hb2 : ¬ (100 : Int) < (xs.length : Int) := by omega
    go_enter Try.func24, Try.ntmps24
    go_wp2_with fail
    clear hb2
    go_loopw [3] (fun i wr => ∃ k : Nat, k ≤ xs.length ∧ i = .int .i64 (k : Int) ∧ (xs.take k).any (fun x => decide (100 < x.p.length)) = false ∧ Below w.heap.size w wr) (fun i _ => (xs.length - intOf i).toNat)
    case atStart => exact ⟨0, by omega, rfl, rfl, Below.refl _ _⟩
    case round =>
      obtain ⟨k, hk, rfl, hany, hbel⟩ := hrel
      have HB := Lib.hid hbel
      have HANY := Lib.hid hany
      clear hany hbel
      have hx' := HX.out
      by_cases hlt : k < xs.length
      · obtain ⟨x, hx⟩ : ∃ x, xs[k]? = some x := ⟨_, List.getElem?_eq_getElem hlt⟩
        obtain ⟨y, hy⟩ : ∃ y, ys[k]? = some y := ⟨_, List.getElem?_eq_getElem (by omega)⟩
        obtain ⟨yi, yk, yl, yo, ys', ya, yn, yc⟩ := y
        have HH := Lib.hid (H.out.grow HB.out)
        have hr := HH.out.read.2 k x _ hx hy
        obtain ⟨a, rfl, _, c0, c1, c2, c3, c4, c5⟩ := iv_at HH.out.at_ hy
        simp only at c5
        obtain rfl : yn = x.p.length := hr.n
        have HXM : Hid (x ∈ xs) := Lib.hid (List.mem_of_getElem? hx)
        have HT1 : Hid (xs.take (k + 1) = xs.take k ++ [x]) := Lib.hid (take_snocI hx)
        clear hx hy hr c0 c1 c2 c3 c4
        by_cases hl : 100 < x.p.length
        · have hl2 : (100 : Int) < (x.p.length : Int) := by omega
          have HE : Hid (largeB xs = true) := Lib.hid (by
            unfold largeB
            rw [List.any_eq_true.2 ⟨x, HXM.out, decide_eq_true hl⟩, Bool.or_true])
          clear hl
          go_wp2_with fail
          go_ret
          exact ⟨by rw [HE.out]; rfl, HB.out⟩
        · have hl2 : ¬ (100 : Int) < (x.p.length : Int) := by omega
          have HA1 : Hid ((xs.take (k + 1)).any (fun x => decide (100 < x.p.length)) = false) := Lib.hid (by rw [HT1.out, List.any_append, HANY.out]; simp; omega)
          clear hl
          go_wp2_with fail
          exact ⟨⟨k + 1, by omega, by simp, HA1.out, HB.out⟩, by simp [intOf]; omega⟩
      · obtain rfl : k = xs.length := by omega
        rw [List.take_length] at HANY
        have HE : Hid (largeB xs = false) := Lib.hid (by unfold largeB; rw [HANY.out, decide_eq_false hb]; rfl)
        go_wp2_with fail
        go_ret
        exact ⟨by rw [HE.out]; rfl, HB.out⟩
set_option maxHeartbeats 3200000 in
theorem loaded_yes (nx : Int) (oa : Option Addr) (cap : Nat) (xs : List Ino) (ys : List IV) (hg : LGood xs nx) (W : World) (h : IList W oa xs ys) :
    Calls Try.prog 7 #[.slice oa xs.length cap, .int .i64 nx] W fun e w' => ∃ tb mb qb oq cq zs, e = .returned (.tuple #[.pointer (some ⟨tb, 0, none⟩), .pointer (some ⟨qb, 0, none⟩), .bool true]) ∧ TIs w' tb mb xs nx ∧ IList w' oq xs zs ∧ w'.heap[qb]? = some (.cells #[.slice oq xs.length cq, .int .i64 nx] 30 (0, 0)) ∧ Below W.heap.size W w' := by
  have H := Lib.hid h
  have HG := Lib.hid hg
  have HPL : Hid (∀ x ∈ xs, x.p.length ≤ 100000) := Lib.hid (fun x hx => by have := (hg.mem hx).g.1; omega)
  have HLL : Hid (xs.length ≤ 100000) := Lib.hid (by have := hg.len; omega)
  have HLB : Hid (largeB xs = false) := Lib.hid (by
    unfold largeB
    rw [Bool.or_eq_false_iff]
    refine ⟨decide_eq_false (by have := hg.len; omega), List.any_eq_false.2 fun x hx => ?_⟩
    have := (hg.mem hx).g.1
    simp; omega)
  clear h hg
  go_enter Try.func7, Try.ntmps7
  go_wp2_with (first
    | (go_at_call 24; refine (large_any oa cap xs ys _ H.out (by have := HLL.out; omega) (fun x hx => by have := HPL.out x hx; omega)).mono ?_; rintro e w1 ⟨rfl, hb1⟩; rw [HLB.out]; have HB1 := Lib.hid hb1; have H1 := Lib.hid (H.out.grow hb1); clear hb1)
    | (go_at_call 27; go_loud (refine (load_yes _ _ _ _ nx _ _ xs _ HG.out _ HT5.out HR5.out.list).mono ?_; rintro e w6 ⟨rfl, mb, ht6, hs6, ho6⟩; have HT6 := Lib.hid ht6; have HS6 := Lib.hid hs6; have HO6 := Lib.hid ho6; clear ht6 hs6 ho6))
    | (go_at_call 28; refine (copied_any oa cap xs ys HPL.out HLL.out _ H4.out).mono ?_; rintro e w5 ⟨oa5, cap5, zs5, rfl, hr5, hb5⟩; have HR5 := Lib.hid hr5; have HB5 := Lib.hid hb5; have HT5 := Lib.hid (HT4.out.grow hb5); clear hr5 hb5)
    | (go_at_call 19; refine (new_any _).mono ?_; rintro e w4 ⟨rfl, ht4, hb4⟩; have HT4 := Lib.hid ht4; have HB4 := Lib.hid hb4; have H4 := Lib.hid (H3.out.grow hb4); clear ht4 hb4)
    | (go_at_call 25; refine (rgood_yes nx _ _ xs _ HG.out _ HR2.out.list).mono ?_; rintro e w3 ⟨rfl, hb3⟩; have HB3 := Lib.hid hb3; have H3 := Lib.hid (H2.out.grow hb3); clear hb3)
    | (go_at_call 26; refine (own_any oa cap xs ys HPL.out HLL.out _ H1.out).mono ?_; rintro e w2 ⟨oa2, cap2, zs2, rfl, hr2, hb2⟩; have HR2 := Lib.hid hr2; have HB2 := Lib.hid hb2; have H2 := Lib.hid (H1.out.grow hb2); clear hr2 hb2))
  have HB6 : Hid (Below W.heap.size W w6) := Lib.hid (by
    have b1 := HB1.out
    have b2 := b1.trans (HB2.out.mono b1.size)
    have b3 := b2.trans (HB3.out.mono b2.size)
    have b4 := b3.trans (HB4.out.mono b3.size)
    have b5 := b4.trans (HB5.out.mono b4.size)
    exact b5.trans (HO6.out.below (by have := b3.size; omega) b5.size))
  go_wp2_with (go_at_call 26; refine (own_any oa cap xs ys HPL.out HLL.out _ (H.out.grow HB6.out)).mono ?_; rintro e w7 ⟨oa7, cap7, zs7, rfl, hr7, hb7⟩; have HR7 := Lib.hid hr7; have HB7 := Lib.hid hb7; clear hr7 hb7)
  go_ret3
  have ha := below_alloc w7 (.cells #[.slice oa7 xs.length cap7, .int .i64 nx] 30)
  exact ⟨_, _, _, _, _, _, rfl, (HT6.out.grow HB7.out).grow ha, HR7.out.list.grow ha, heap_alloc_new w7 _, (HB6.out.trans (HB7.out.mono HB6.out.size)).trans (ha.mono (by have := HB6.out.size; have := HB7.out.size; omega))⟩
end Go.Proofs.Ytaaecdijbkkoiaa.LivW
