/- The reference's spread. -/
import Derived.Test.YtappgelpigoknaaExtSpr
namespace Go.Proofs.Ytappgelpigoknaa.ExtW
open Go.RowKit
theorem says_none : Says (fun _ => (-1, 0)) (fun _ => none) := fun i hi => ⟨.inl ⟨by dsimp only; omega, rfl⟩, by dsimp only; omega, by dsimp only; omega, by dsimp only; omega, by dsimp only; omega⟩
set_option maxRecDepth 100000 in
set_option maxHeartbeats 3200000 in
theorem spread_any (oa : Option Addr) (cap : Nat) (l : List Pt) (hg : Good l) (w : World) (h : PtsAt w.heap.size oa l w) :
    Calls Try.prog 67 #[.slice oa l.length cap] w fun e w' => ∃ a d, e = .returned (.slice (some a) 8192 8192) ∧ Spr w.heap.size w' a d ∧ Says d (look l) ∧ Below w.heap.size w w' := by
  have HP := Lib.hid h
  have HO : Hid (∀ y ∈ l, One y) := Lib.hid (chain_ones hg.2)
  have HS := Lib.hid (good_sorted hg)
  have hl64 := hg.1
  clear h hg
  obtain ⟨w1, hmk, hspr, hb1, hsz⟩ := zeroRow w
  generalize (⟨w.heap.size, 0, none⟩ : Addr) = a at hmk hspr
  have HSP := Lib.hid hspr
  have HB1 := Lib.hid hb1
  clear hspr hb1 hsz
  go_enter Try.func67, Try.ntmps67
  go_wp2_with fail
  clear hmk
  go_loopw [4] (fun i wr => ∃ k : Nat, k ≤ 8192 ∧ i = .int .i64 (k : Int) ∧ Spr w.heap.size wr a (fun j => if j < k then (-1, 0) else (0, 0)) ∧ Below w.heap.size w wr) (fun i _ => (8192 - intOf i).toNat)
  case atStart => exact ⟨0, by omega, rfl, HSP.out.congr (fun i hi => by rw [if_neg (by omega)]), HB1.out⟩
  case round =>
    obtain ⟨k, hk, rfl, hsp, hbel⟩ := hrel
    have HSPR := Lib.hid hsp
    have HB := Lib.hid hbel
    clear hsp hbel
    by_cases hlt : k < 8192
    · have hk8 : (k : Int) < 8192 := by omega
      obtain ⟨q0, q1, f0, f1⟩ := HSPR.out.cells hlt
      go_wp2_with fail
      exact ⟨⟨k + 1, by omega, by simp, (HSPR.out.set1 k (-1)).congr (fun i hi => by
        by_cases c : i = k
        · subst c; rw [if_pos rfl, if_neg (by omega), if_pos (by omega)]
        · rw [if_neg c]
          by_cases c2 : i < k
          · rw [if_pos c2, if_pos (by omega)]
          · rw [if_neg c2, if_neg (by omega)]), HB.out.setCell (by rw [add_block]; exact HSPR.out.2.1) _⟩, by simp [intOf]; omega⟩
    · have hk8 : ¬ ((k : Int) < 8192) := by omega
      have HSP2 : Hid (Spr w.heap.size wr a (fun _ => (-1, 0))) := Lib.hid (HSPR.out.congr (fun i hi => by rw [if_pos (by omega)]))
      obtain ⟨k8, rfl⟩ : ∃ k8 : Nat, k8 = k := ⟨_, rfl⟩
      clear HSPR hlt hk
      go_wp2_with fail
      obtain ⟨w2, rfl⟩ : ∃ w2 : World, w2 = wr := ⟨_, rfl⟩
      go_loopw [5, 6] (fun i _ wr => ∃ (k : Nat) (d : Nat → Int × Int), k ≤ l.length ∧ i = .int .i64 (k : Int) ∧ Spr w.heap.size wr a d ∧ Says d ((l.take k).foldl overG (fun _ => none)) ∧ Below w.heap.size w wr) (fun i _ _ => ((l.length : Int) - intOf i).toNat)
      case atStart => exact ⟨0, _, by omega, rfl, HSP2.out, says_none, HB.out⟩
      case round =>
        obtain ⟨k, d, hk, rfl, hsp, hsay, hbel⟩ := hrel
        have HSPR := Lib.hid hsp
        have HSAY := Lib.hid hsay
        have HBR := Lib.hid hbel
        clear hsp hsay hbel
        by_cases hlt : k < l.length
        · obtain ⟨x, hx⟩ : ∃ x, l[k]? = some x := ⟨_, List.getElem?_eq_getElem hlt⟩
          have HX1 : Hid ((l.take (k + 1)).foldl overG (fun _ => none) = overG ((l.take k).foldl overG (fun _ => none)) x) := Lib.hid (by rw [take_snoc hx, List.foldl_append]; rfl)
          have HOX := Lib.hid (HO.out x (List.mem_of_getElem? hx))
          have HX := Lib.hid hx
          generalize (l.take k).foldl overG (fun _ => none) = G at HSAY HX1
          obtain ⟨N, hN⟩ : ∃ N : Nat, x.n = N := ⟨x.n.toNat, by have := HOX.out.small; omega⟩
          have HN := Lib.hid hN
          have hN2 : N ≤ 1024 := by have := HOX.out.small; omega
          clear hx hN
          go_wp2_with fail
          obtain ⟨w3, rfl⟩ : ∃ w3 : World, w3 = wr := ⟨_, rfl⟩
          go_loopw [6] (fun i wr => ∃ (j : Nat) (d : Nat → Int × Int), j ≤ N ∧ i = .int .i64 (j : Int) ∧ Spr w.heap.size wr a d ∧ Says d (overG G ⟨x.o, j, x.a, x.f⟩) ∧ Below w.heap.size w wr) (fun i _ => ((N : Int) - intOf i).toNat)
          case atStart => exact ⟨0, d, by omega, rfl, HSPR.out, (by rw [show overG G ⟨x.o, ((0 : Nat) : Int), x.a, x.f⟩ = G from funext fun z => by unfold overG; rw [if_neg (by simp only; omega)]]; exact HSAY.out), HBR.out⟩
          case round =>
            obtain ⟨j, d2, hj, rfl, hsp, hsay, hbel⟩ := hrel
            have HSPJ := Lib.hid hsp
            have HSAYJ := Lib.hid hsay
            have HBJ := Lib.hid hbel
            clear hsp hsay hbel
            obtain ⟨a2, rfl, hab, c0, c1, c2, c3⟩ := (HP.out.below HBJ.out) k x HX.out
            have hn := HN.out
            have hxs := HOX.out.small
            by_cases hjl : j < N
            · have hjl2 : (j : Int) < x.n := by omega
              obtain ⟨m, hm⟩ : ∃ m : Nat, x.o + j = m := ⟨(x.o + j).toNat, by omega⟩
              have hw1 : IntKind.i64.wrap (x.o + j) = m := by rw [← hm]; exact IntWalk.i64_in _ (by omega)
              have hw2 : IntKind.i64.wrap (x.f + j) = x.f + j := IntWalk.i64_in _ (by omega)
              have hm0 : (0 : Int) ≤ (m : Int) := by omega
              have hm1 : (m : Int) < 8192 := by omega
              have hm2 : m < 8192 := by omega
              obtain ⟨q0, q1, f0, f1⟩ := HSPJ.out.cells hm2
              have HSET := Lib.hid (HSPJ.out.set2 m x.a (x.f + j))
              obtain ⟨pb, po, hpa⟩ : ∃ (pb po : Nat), a.add (m * 2) = ⟨pb, po, none⟩ := ⟨a.block, m * 2, addb _ HSPJ.out.1 _⟩
              have HPB : Hid (w.heap.size ≤ pb) := Lib.hid (by have := HSPJ.out.2.1; rw [addb _ HSPJ.out.1] at hpa; injection hpa with h1 h2; omega)
              rw [hpa] at q0 q1 f0 f1 HSET
              have HM := Lib.hid hm
              have hlt2 : (k : Int) < (l.length : Int) := by omega
              have hk0 : (0 : Int) ≤ (k : Int) := by omega
              clear hm hn hxs
              go_wp2_with fail
              go_still_tail 22, (by kernel_rfl)
              go_wp2_with fail
              exact ⟨⟨j + 1, fun q => if q = m then (x.a, x.f + j) else d2 q, by omega, by simp, HSET.out.grow (Below.refl _ _).drew, Says.over x HOX.out j m hjl2 HM.out HSAYJ.out, ((HBJ.out.setCell (p := ⟨_, _, none⟩) HPB.out _).setCell (p := ⟨_, _, none⟩) HPB.out _).drew⟩, by simp [intOf]; omega⟩
            · have hjl2 : ¬ ((j : Int) < x.n) := by omega
              have hlt2 : (k : Int) < (l.length : Int) := by omega
              have hk0 : (0 : Int) ≤ (k : Int) := by omega
              have HJN : Hid (j = N) := Lib.hid (by omega)
              clear hn hxs
              go_wp2_with fail
              exact ⟨⟨k + 1, d2, by omega, by simp, HSPJ.out, by rw [HX1.out]; have := HSAYJ.out; rw [HJN.out, ← HN.out] at this; exact this, HBJ.out⟩, by simp [intOf]; omega⟩
        · obtain rfl : k = l.length := by omega
          rw [List.take_length] at HSAY
          go_wp2_with fail
          go_ret
          exact ⟨a, d, rfl, HSPR.out, by rw [← fold_look HS.out]; exact HSAY.out, HBR.out⟩
end Go.Proofs.Ytappgelpigoknaa.ExtW
