/- console.write: the word that stands somewhere. -/
import Derived.Test.YtiffmigihhcgcaaGreatDoorConBuild
namespace Go.Proofs.YtiffmigihhcgcaaGreatDoor.ConW
set_option maxRecDepth 100000
set_option linter.constructorNameAsVariable false
open Go.RowKit ConP
/-- a step whose numbers are numbers, and whose data is not too long -/
structure Num (s : Stp) : Prop where
  n : ∀ p, -9223372036854775808 ≤ getN s p ∧ getN s p ≤ 9223372036854775807
  d : s.a.d.size ≤ 1000000
theorem getN_is {s : Stp} {p : Pl} (hp : isN p = true) : getW s p = Lib.itoa (getN s p) := by cases p <;> first | rfl | cases hp
theorem getT_is {s : Stp} {p : Pl} (hp : isT p = true) : getW s p = (getT s p).data.toList := by cases p <;> first | rfl | cases hp
set_option maxHeartbeats 1600000 in
theorem write_any (f : UInt8) (b : Nat) (s : Stp) (m c : Value) (z : Int) (w : World) (h : SBox w b s m z c) (hv : CV w) (hr : Num s) :
    Calls Tryz.prog 24 #[.pointer (some ⟨b, 0, none⟩), .int .u8 (f.toNat : Int)] w fun e w' => e = .returned (.string (bs (getW s (place (s.a.k == 1) f)))) ∧ Below w.heap.size w w' := by
  have hc := number_any f b s m c z w h
  generalize hp : place (s.a.k == 1) f = p at *
  cases hn : isN p with
  | true =>
    rw [show ptrN b p = .pointer (some ⟨b, offP p, none⟩) from if_pos hn] at hc
    have HC := Lib.hid hc
    have hcl := h.num hn
    have HI := Lib.hid (itoa_any (getN s p) (hr.n p).1 (hr.n p).2 w hv)
    have HG : Hid (getW s p = Lib.itoa (getN s p)) := Lib.hid (getN_is hn)
    clear hc h hv hr hn hp
    generalize offP p = o at *
    generalize getN s p = v at *
    generalize getW s p = y at *
    go_enter Tryz.func24, Tryz.ntmps24
    go_wp2_with fail
    refine HC.out.mono ?_
    rintro e w1 ⟨rfl, rfl⟩
    go_wp2_with fail
    refine HI.out.mono ?_
    rintro e w2 ⟨rfl, hb2⟩
    have HB2 := Lib.hid hb2
    clear hb2
    go_wp2_with fail
    go_ret
    exact ⟨congrArg (fun q => Ending.returned (.string (bs q))) HG.out.symm, HB2.out⟩
  | false =>
    have ht := text_any f b s m c z (by rw [hp]; exact hn) w h
    rw [hp] at ht
    rw [show ptrN b p = .pointer none from if_neg (by rw [hn]; decide)] at hc
    cases hnt : isT p with
    | true =>
      rw [show ptrT b p = .pointer (some ⟨b, offP p, none⟩) from if_pos hnt] at ht
      have HC := Lib.hid hc
      have HT := Lib.hid ht
      have hcl := h.txt hn
      have HG : Hid (getW s p = (getT s p).data.toList) := Lib.hid (getT_is hnt)
      clear hc ht h hv hr hn hnt hp
      generalize offP p = o at *
      generalize getT s p = v at *
      generalize getW s p = y at *
      go_enter Tryz.func24, Tryz.ntmps24
      go_wp2_with fail
      refine HC.out.mono ?_
      rintro e w1 ⟨rfl, rfl⟩
      go_wp2_with fail
      refine HT.out.mono ?_
      rintro e w1 ⟨rfl, rfl⟩
      go_wp2_with fail
      go_ret
      exact ⟨by rw [HG.out]; rfl, Below.refl _ _⟩
    | false =>
      have e : p = .d := by
        cases p <;> first | rfl | (exfalso; revert hn; decide) | (exfalso; revert hnt; decide)
      subst e
      rw [show ptrT b .d = .pointer none from rfl] at ht
      have HC := Lib.hid hc
      have HT := Lib.hid ht
      have hcl : w.cell? ⟨b, 21, none⟩ = some (.string s.a.d) := h.txt (p := .d) rfl
      have HX := Lib.hid (hex_any s.a.d hr.d w)
      have HG : Hid (getW s .d = hexS s.a.d.data.toList) := Lib.hid rfl
      clear hc ht h hv hr hn hnt hp
      generalize getW s .d = y at *
      go_enter Tryz.func24, Tryz.ntmps24
      go_wp2_with fail
      refine HC.out.mono ?_
      rintro e w1 ⟨rfl, rfl⟩
      go_wp2_with fail
      refine HT.out.mono ?_
      rintro e w1 ⟨rfl, rfl⟩
      go_wp2_with fail
      refine HX.out.mono ?_
      rintro e w2 ⟨rfl, hb2⟩
      have HB2 := Lib.hid hb2
      clear hb2
      go_wp2_with fail
      go_ret
      exact ⟨congrArg (fun q => Ending.returned (.string (bs q))) HG.out.symm, HB2.out⟩
end Go.Proofs.YtiffmigihhcgcaaGreatDoor.ConW
