/- The maps of extent: keys that are places, elements that are spots. -/
import Derived.Test.YtappgelpigoknaaExtEnd
import Derived.Test.YtappgelpigoknaaMaps
namespace Go.Proofs.Ytappgelpigoknaa.ExtW
set_option maxRecDepth 100000
open Go.RowKit
open Go.Maps (Keyed)
def plV (i : Int) : Value := .agg #[.int .i64 i]
def spV (y : Int × Int) : Value := .agg #[.int .i64 y.1, .int .i64 y.2]
def plOk (i : Int) : Prop := (Lit.int .i64 i).wf = true
theorem plOk_of {i : Int} (h : -1000000 ≤ i ∧ i ≤ 1000000) : plOk i := by
  unfold plOk; simp [Lit.wf, IntKind.min, IntKind.max, IntKind.signed, IntKind.bits]; omega
theorem extLaid : laidOutB Try.prog = true := by kernel_rfl
theorem plType : Try.prog.keyType 110 = true := by kernel_rfl
theorem plRow : (110 : TypeId) < Try.prog.types.size := of_decide_eq_true (by kernel_rfl)
theorem plWide : (match Try.prog.underlying 110 with | some (.array _ _) | some (.struct _) => true | _ => false) = true := by rw [Try.underlying110]
theorem plKeyed : Keyed Try.prog 110 := Keyed.of_law (deep_law_laid extLaid (m := 2) (by omega) plRow (by kernel_rfl) plWide)
theorem plCells : Try.prog.cellsOf 110 = 1 := by kernel_rfl
theorem intCells : Try.prog.cellsOf 3 = 1 := by kernel_rfl
theorem plFormed (i : Int) : (plV i).formed Try.prog 110 = true := by simp [plV, Value.formed, Try.underlying110, plCells]
theorem tsize : ∃ m, Try.prog.types.size = m + 1 := ⟨Try.prog.types.size - 1, by kernel_rfl⟩
theorem plKey (i : Int) (h : plOk i) : ∃ l, keyOf Try.prog 110 (plV i) = some l := by
  obtain ⟨m, hm⟩ := tsize
  unfold keyOf
  rw [Try.underlying110]
  simp only [plType, plFormed, Bool.and_self, if_true]
  unfold Program.keyLits
  rw [Try.underlying110]
  unfold plOk at h
  simp [plV, Value.cells, plCells, hm, Program.keyLits, Try.underlying3, h, intCells]
theorem plMK : MK Try.prog 110 plV plOk := ⟨plKeyed, plKey, fun x y h => by simpa [plV] using h⟩
theorem spZero (w : World) : (zeroValue 112).run Try.prog w = .ok (spV (0, 0)) w := by kernel_rfl
def PlIs (w : World) (b n : Nat) (g : Int → Option (Int × Int)) : Prop := MapIs plV plOk spV w b n g
theorem over_more (g : Int → Option (Int × Int)) (x : Pt) (k : Nat) : (fun z => if z = x.o + k then some (x.a, x.f + k) else overG g ⟨x.o, k, x.a, x.f⟩ z) = overG g ⟨x.o, (k + 1 : Nat), x.a, x.f⟩ := by
  funext z
  unfold overG
  simp only
  by_cases h : z = x.o + k
  · subst h
    rw [if_pos rfl, if_pos (by omega)]
    congr 2; omega
  · rw [if_neg h]
    by_cases h2 : x.o ≤ z ∧ z < x.o + k
    · rw [if_pos h2, if_pos (by omega)]
    · rw [if_neg h2, if_neg (by omega)]
set_option maxHeartbeats 1600000 in
theorem bput_any (x : Pt) (hx : One x) (b n : Nat) (g : Int → Option (Int × Int)) (w : World) (h : PlIs w b n g) :
    Calls Try.prog 71 #[.map (some b), .agg #[.int .i64 x.o, .int .i64 x.n, .int .i64 x.a, .int .i64 x.f]] w fun e w' => e = .returned (.tuple #[]) ∧ PlIs w' b (n + x.n.toNat) (overG g x) ∧ Only b w w' := by
  have hxs := hx.small
  have hlt := MapIs.lt h
  have HBX := Lib.hid (Box.made w x)
  have H0 : Hid (PlIs (w.alloc (.cells #[.int .i64 x.o, .int .i64 x.n, .int .i64 x.a, .int .i64 x.f] 40)) b n g) := Lib.hid (MapIs.alloc h _)
  obtain ⟨N, hN⟩ : ∃ N : Nat, x.n = N := ⟨x.n.toNat, by omega⟩
  have HN := Lib.hid hN
  have hN2 : N ≤ 1024 := by omega
  have HL := Lib.hid hlt
  have hS : w.heap.size < (w.alloc (.cells #[.int .i64 x.o, .int .i64 x.n, .int .i64 x.a, .int .i64 x.f] 40)).heap.size := by simp
  have HO0 : Hid (Only b w (w.alloc (.cells #[.int .i64 x.o, .int .i64 x.n, .int .i64 x.a, .int .i64 x.f] 40))) := Lib.hid (Only.of_below (below_alloc w _))
  clear h hlt hN
  go_enter Try.func71, Try.ntmps71
  go_wp2_with fail
  generalize w.alloc (.cells #[.int .i64 x.o, .int .i64 x.n, .int .i64 x.a, .int .i64 x.f] 40) = w0 at *
  go_loopw [7] (fun i wr => ∃ k : Nat, k ≤ N ∧ i = .int .i64 (k : Int) ∧ PlIs wr b (n + k) (overG g ⟨x.o, k, x.a, x.f⟩) ∧ Only b w0 wr) (fun i _ => ((N : Int) - intOf i).toNat)
  case atStart => exact ⟨0, by omega, rfl, MapIs.congr H0.out (by funext z; unfold overG; rw [if_neg (by simp only; omega)]), Only.refl _ _⟩
  case round =>
    obtain ⟨k, hk, rfl, hm, ho⟩ := hrel
    have HM := Lib.hid hm
    have HO := Lib.hid ho
    have HB2 : Hid (Box wr w.heap.size x) := Lib.hid (Only.heap ho HBX.out (by have := HL.out; omega))
    obtain ⟨p0, p1, p2, p3⟩ := HB2.out.cells
    clear hm ho
    have hn := HN.out
    by_cases hlt : k < N
    · have hlt2 : (k : Int) < x.n := by omega
      have hw1 : IntKind.i64.wrap (x.o + k) = x.o + k := IntWalk.i64_in _ (by omega)
      have hw2 : IntKind.i64.wrap (x.f + k) = x.f + k := IntWalk.i64_in _ (by omega)
      have hok : plOk (x.o + k) := plOk_of (by omega)
      have HK := Lib.hid hok
      clear hn hxs hok
      go_wp2_with (at_mapUpdate; go_loud (refine wpList_map_store _ rfl _ _ _ 107 112 rfl plMK Try.underlying107 b (n + k) _ HM.out (by rfl) (x.o + k) (x.a, x.f + k) HK.out (by rfl) (by rfl) ?_; intro w5 hm5 ho5 hs5; have HM5 := Lib.hid hm5; have HO5 := Lib.hid ho5; clear hm5 ho5))
      exact ⟨⟨k + 1, by omega, by simp, MapIs.congr HM5.out (over_more g x k), HO.out.trans HO5.out⟩, by simp [intOf]; omega⟩
    · obtain rfl : k = N := by omega
      have hlt2 : ¬ ((k : Int) < x.n) := by omega
      clear hn hxs
      go_wp2_with fail
      go_end0
      exact ⟨rfl, by rw [HN.out]; exact MapIs.congr HM.out (by rw [← HN.out]), HO0.out.trans HO.out⟩
end Go.Proofs.Ytappgelpigoknaa.ExtW
