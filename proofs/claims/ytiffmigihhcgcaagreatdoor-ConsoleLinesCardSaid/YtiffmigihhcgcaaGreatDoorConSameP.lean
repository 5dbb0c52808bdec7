/- Two steps alike: the program's. -/
import Derived.Test.YtiffmigihhcgcaaGreatDoorConSameP1
import Derived.Test.YtiffmigihhcgcaaGreatDoorConSameP2
import Derived.Test.YtiffmigihhcgcaaGreatDoorConSameP3
namespace Go.Proofs.YtiffmigihhcgcaaGreatDoor.ConW
set_option maxRecDepth 100000
set_option linter.constructorNameAsVariable false
set_option linter.unusedVariables false
open Go.RowKit ConP OpP OpW
set_option maxHeartbeats 12800000 in
theorem psame_any (a b : Stp) (oa ob pa pb : Option Addr) (na nb ca cb pna pnb pca pcb : Nat) (za zb : Int) (hz : pna = pnb → pna = 0) (ha : na = a.a.o.m.length) (hb : nb = b.a.o.m.length) (zx : a.a.o.m.length ≤ 1000000) (zy : b.a.o.m.length ≤ 1000000) (w : World) (h1 : MvAt w oa a.a.o.m) (h2 : MvAt w ob b.a.o.m) :
    Calls Tryz.prog 13 #[.agg (cellsS a (.slice oa na ca) za (.slice pa pna pca)), .agg (cellsS b (.slice ob nb cb) zb (.slice pb pnb pcb))] w fun e w' => e = .returned (.bool (sameS a b && za == zb && pna == pnb)) ∧ Below w.heap.size w w' := by
  by_cases p0 : a.k = b.k
  rotate_left
  · exact psame_0 a b oa ob pa pb na nb ca cb pna pnb pca pcb za zb hz ha hb zx zy (Lib.hid p0) w h1 h2
  by_cases p1 : a.c = b.c
  rotate_left
  · exact psame_1 a b oa ob pa pb na nb ca cb pna pnb pca pcb za zb hz ha hb zx zy (Lib.hid p0) (Lib.hid p1) w h1 h2
  by_cases p2 : a.n = b.n
  rotate_left
  · exact psame_2 a b oa ob pa pb na nb ca cb pna pnb pca pcb za zb hz ha hb zx zy (Lib.hid p0) (Lib.hid p1) (Lib.hid p2) w h1 h2
  by_cases p3 : a.f = b.f
  rotate_left
  · exact psame_3 a b oa ob pa pb na nb ca cb pna pnb pca pcb za zb hz ha hb zx zy (Lib.hid p0) (Lib.hid p1) (Lib.hid p2) (Lib.hid p3) w h1 h2
  by_cases p4 : za = zb
  rotate_left
  · exact psame_4 a b oa ob pa pb na nb ca cb pna pnb pca pcb za zb hz ha hb zx zy (Lib.hid p0) (Lib.hid p1) (Lib.hid p2) (Lib.hid p3) (Lib.hid p4) w h1 h2
  by_cases p5 : pna = pnb
  rotate_left
  · exact psame_5 a b oa ob pa pb na nb ca cb pna pnb pca pcb za zb hz ha hb zx zy (Lib.hid p0) (Lib.hid p1) (Lib.hid p2) (Lib.hid p3) (Lib.hid p4) (Lib.hid p5) w h1 h2
  by_cases p6 : a.a.k = b.a.k
  rotate_left
  · exact psame_6 a b oa ob pa pb na nb ca cb pna pnb pca pcb za zb hz ha hb zx zy (Lib.hid p0) (Lib.hid p1) (Lib.hid p2) (Lib.hid p3) (Lib.hid p4) (Lib.hid p5) (Lib.hid p6) w h1 h2
  by_cases p7 : sameB a.a.o b.a.o = true
  rotate_left
  · exact psame_7 a b oa ob pa pb na nb ca cb pna pnb pca pcb za zb hz ha hb zx zy (Lib.hid p0) (Lib.hid p1) (Lib.hid p2) (Lib.hid p3) (Lib.hid p4) (Lib.hid p5) (Lib.hid p6) (Lib.hid p7) w h1 h2
  by_cases p8 : a.a.p = b.a.p
  rotate_left
  · exact psame_8 a b oa ob pa pb na nb ca cb pna pnb pca pcb za zb hz ha hb zx zy (Lib.hid p0) (Lib.hid p1) (Lib.hid p2) (Lib.hid p3) (Lib.hid p4) (Lib.hid p5) (Lib.hid p6) (Lib.hid p7) (Lib.hid p8) w h1 h2
  by_cases p9 : a.a.h = b.a.h
  rotate_left
  · exact psame_9 a b oa ob pa pb na nb ca cb pna pnb pca pcb za zb hz ha hb zx zy (Lib.hid p0) (Lib.hid p1) (Lib.hid p2) (Lib.hid p3) (Lib.hid p4) (Lib.hid p5) (Lib.hid p6) (Lib.hid p7) (Lib.hid p8) (Lib.hid p9) w h1 h2
  by_cases p10 : a.a.f = b.a.f
  rotate_left
  · exact psame_10 a b oa ob pa pb na nb ca cb pna pnb pca pcb za zb hz ha hb zx zy (Lib.hid p0) (Lib.hid p1) (Lib.hid p2) (Lib.hid p3) (Lib.hid p4) (Lib.hid p5) (Lib.hid p6) (Lib.hid p7) (Lib.hid p8) (Lib.hid p9) (Lib.hid p10) w h1 h2
  by_cases p11 : a.a.s = b.a.s
  rotate_left
  · exact psame_11 a b oa ob pa pb na nb ca cb pna pnb pca pcb za zb hz ha hb zx zy (Lib.hid p0) (Lib.hid p1) (Lib.hid p2) (Lib.hid p3) (Lib.hid p4) (Lib.hid p5) (Lib.hid p6) (Lib.hid p7) (Lib.hid p8) (Lib.hid p9) (Lib.hid p10) (Lib.hid p11) w h1 h2
  by_cases p12 : a.a.d = b.a.d
  rotate_left
  · exact psame_12 a b oa ob pa pb na nb ca cb pna pnb pca pcb za zb hz ha hb zx zy (Lib.hid p0) (Lib.hid p1) (Lib.hid p2) (Lib.hid p3) (Lib.hid p4) (Lib.hid p5) (Lib.hid p6) (Lib.hid p7) (Lib.hid p8) (Lib.hid p9) (Lib.hid p10) (Lib.hid p11) (Lib.hid p12) w h1 h2
  exact psame_yes a b oa ob pa pb na nb ca cb pna pnb pca pcb za zb hz ha hb zx zy (Lib.hid p0) (Lib.hid p1) (Lib.hid p2) (Lib.hid p3) (Lib.hid p4) (Lib.hid p5) (Lib.hid p6) (Lib.hid p7) (Lib.hid p8) (Lib.hid p9) (Lib.hid p10) (Lib.hid p11) (Lib.hid p12) w h1 h2
end Go.Proofs.YtiffmigihhcgcaaGreatDoor.ConW
