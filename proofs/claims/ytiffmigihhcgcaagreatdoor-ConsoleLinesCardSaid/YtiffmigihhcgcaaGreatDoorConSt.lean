/- A step in memory; the program's variables; where a word belongs. -/
import Derived.Test.YtiffmigihhcgcaaGreatDoorConUnhex
import Derived.Test.YtiffmigihhcgcaaGreatDoorOpSt
import Derived.Lib.SmallJoins
import Derived.Lib.AtoiErrMem
namespace Go.Proofs.YtiffmigihhcgcaaGreatDoor.ConW
set_option maxRecDepth 100000
set_option linter.constructorNameAsVariable false
open Go.RowKit ConP
/-- what the calls read of the library's variables -/
structure CV (w : World) : Prop where
  syn : ∃ te pe, w.cell? ⟨3, 0, none⟩ = some (.iface te pe)
  rng : ∃ te pe, w.cell? ⟨4, 0, none⟩ = some (.iface te pe)
  pow : Lib.TabIs Tryz.prog w "internal/strconv.uint64pow10" .u64 Lib.pow10Tab
theorem gpow : Tryz.prog.globalNamed "internal/strconv.uint64pow10" = some 1 := by kernel_rfl
theorem CV.keep {w w' : World} (h : CV w) (k : Below w.heap.size w w') : CV w' := by
  obtain ⟨⟨t1, p1, h1⟩, ⟨t2, p2, h2⟩, h3⟩ := h
  exact ⟨⟨t1, p1, (k.cell (World.block_lt_of_cell? _ _ h1)).trans h1⟩, ⟨t2, p2, (k.cell (World.block_lt_of_cell? _ _ h2)).trans h2⟩, Go.Joins.tab_stays gpow h3 k (Nat.le_refl _)⟩
theorem below_grow (w : World) (os : Array Obj) : Below w.heap.size w (Sort.grow w os) :=
  ⟨rfl, rfl, rfl, by simp [Sort.grow], fun k hk => by show (w.heap ++ os)[k]? = _; rw [Array.getElem?_append_left hk]⟩
theorem itoa_any (n : Int) (h0 : -9223372036854775808 ≤ n) (h1 : n ≤ 9223372036854775807) (w : World) (h : CV w) : Calls Tryz.prog 21 #[.int .i64 n] w fun e w' => e = .returned (.string (bs (Lib.itoa n))) ∧ Below w.heap.size w w' :=
  (Tryz.strconv_Itoa n h0 h1 w h.pow).mono fun _ _ ⟨he, k, os, hw⟩ => ⟨he, by rw [hw]; exact (below_drewN (Below.refl _ _) k).trans ((below_grow (w.drewN k) os).mono (Nat.le_refl _))⟩
/-- what Atoi hands back -/
def AtoiPost (s : ByteArray) (w : World) (e : Ending) (w' : World) : Prop :=
  (∃ v er, e = .returned (.tuple #[.int .i64 v, er]) ∧ -9223372036854775808 ≤ v ∧ v ≤ 9223372036854775807 ∧ ((er = .nilIface ∧ Lib.atoiAll s.data.toList = .ok v) ∨ ((∃ t p, er = .iface t p) ∧ ∀ u, Lib.atoiAll s.data.toList ≠ .ok u))) ∧ Below w.heap.size w w'
theorem atoi_range {l : Bs} {v : Int} (h : Lib.atoiAll l = .ok v) : -9223372036854775808 ≤ v ∧ v ≤ 9223372036854775807 := by
  cases l with
  | nil => cases h
  | cons c r =>
    unfold Lib.atoiAll at h
    simp only at h
    split at h
    · cases h
    · cases h
    · rename_i u hu
      split at h
      · cases h
      · split at h
        · cases h
        · injection h with h
          subst h
          split <;> omega
theorem atoi_any (s : ByteArray) (hs : s.size ≤ 1000000) (w : World) (h : CV w) : Calls Tryz.prog 47 #[.string s] w (AtoiPost s w) := by
  cases ha : Lib.atoiAll s.data.toList with
  | ok v =>
    obtain ⟨r1, r2⟩ := atoi_range ha
    refine (Tryz.strconv_Atoi_ok s (by omega) v ha w).mono ?_
    rintro e w' ⟨rfl, hw⟩
    refine ⟨⟨v, _, rfl, r1, r2, .inl ⟨rfl, ha⟩⟩, ?_⟩
    rcases hw with rfl | ⟨t, rfl⟩
    · exact Below.refl _ _
    · exact Lib.bytesWorld_below _ _ _
  | «syntax» =>
    obtain ⟨te, pe, hv⟩ := h.syn
    refine (Tryz.strconv_Atoi_syntax s (by omega) ha _ w hv (.inr ⟨te, pe, rfl⟩)).mono ?_
    rintro e w' ⟨N, rfl, _, _, hb⟩
    exact ⟨⟨0, _, rfl, by omega, by omega, .inr ⟨⟨_, _, rfl⟩, fun u e => by rw [ha] at e; cases e⟩⟩, hb⟩
  | range =>
    obtain ⟨te, pe, hv⟩ := h.rng
    refine (Tryz.strconv_Atoi_range s (by omega) ha _ w hv (.inr ⟨te, pe, rfl⟩)).mono ?_
    rintro e w' ⟨N, rfl, _, _, hb⟩
    refine ⟨⟨_, _, rfl, ?_, ?_, .inr ⟨⟨_, _, rfl⟩, fun u e => by rw [ha] at e; cases e⟩⟩, hb⟩
    · unfold Lib.atoiSat; split <;> omega
    · unfold Lib.atoiSat; split <;> omega
/-- a step's cells; m its record's moves, z, c its projection -/
def cellsS (s : Stp) (m : Value) (z : Int) (c : Value) : Array Value := #[.int .i64 s.k, .int .i64 s.c, .int .i64 s.n, .int .i64 s.f, .int .i64 s.a.k,
  .int .i64 s.a.o.cl, .int .i64 s.a.o.sq, .int .i64 s.a.o.k, .string s.a.o.p, .string s.a.o.t, .int .i64 s.a.o.sz, .int .i64 s.a.o.h, .int .i64 s.a.o.o, .string s.a.o.d, .int .i64 s.a.o.tk, .int .i64 s.a.o.i, m,
  .string s.a.p, .int .i64 s.a.h, .int .i64 s.a.f, .int .i64 s.a.s, .string s.a.d, .int .i64 z, c]
def SBox (w : World) (b : Nat) (s : Stp) (m : Value) (z : Int) (c : Value) : Prop := w.heap[b]? = some (.cells (cellsS s m z c) 31 (0, 0))
theorem stepSize : (Tryz.prog.info? 31).map (·.size) = some 24 := by kernel_rfl
theorem SBox.keep {w w' : World} {b : Nat} {s : Stp} {m c : Value} {z : Int} (h : SBox w b s m z c) (k : Below w.heap.size w w') : SBox w' b s m z c := (k.block b (lt_of_block h)).trans h
theorem SBox.cell {w : World} {b : Nat} {s : Stp} {m c : Value} {z : Int} (h : SBox w b s m z c) (i : Nat) (v : Value) (hv : (cellsS s m z c)[i]? = some v) : w.cell? ⟨b, i, none⟩ = some v := by
  rw [Lib.cell_of_heap h]; exact hv
theorem SBox.free {w : World} {b : Nat} {s : Stp} {m c : Value} {z : Int} (h : SBox w b s m z c) (i : Nat) : w.frozen? ⟨b, i, none⟩ = false := Lib.frozen_of_heap h i
def offP : Pl → Nat
  | .cl => 1 | .nn => 2 | .fa => 3 | .oz => 10 | .z => 20 | .oh => 11 | .h => 18 | .of => 19 | .ot => 9 | .op => 8 | .p => 17 | .d => 21
def isN : Pl → Bool
  | .ot | .op | .p | .d => false
  | _ => true
def isT : Pl → Bool
  | .ot | .op | .p => true
  | _ => false
theorem SBox.setN {w : World} {b : Nat} {s : Stp} {m c : Value} {z : Int} (h : SBox w b s m z c) {p : Pl} (hp : isN p = true) (v : Int) : SBox (w.setCell ⟨b, offP p, none⟩ (.int .i64 v)) b (setN s p v) m z c := by
  unfold SBox
  rw [heap_setCell_same w b _ _ _ _ h]
  cases p <;> first | rfl | cases hp
theorem SBox.setT {w : World} {b : Nat} {s : Stp} {m c : Value} {z : Int} (h : SBox w b s m z c) {p : Pl} (hp : isN p = false) (v : ByteArray) : SBox (w.setCell ⟨b, offP p, none⟩ (.string v)) b (setT s p v) m z c := by
  unfold SBox
  rw [heap_setCell_same w b _ _ _ _ h]
  cases p <;> first | rfl | cases hp
theorem SBox.num {w : World} {b : Nat} {s : Stp} {m c : Value} {z : Int} (h : SBox w b s m z c) {p : Pl} (hp : isN p = true) : w.cell? ⟨b, offP p, none⟩ = some (.int .i64 (getN s p)) := by
  refine h.cell _ _ ?_
  cases p <;> first | rfl | cases hp
theorem SBox.txt {w : World} {b : Nat} {s : Stp} {m c : Value} {z : Int} (h : SBox w b s m z c) {p : Pl} (hp : isN p = false) : w.cell? ⟨b, offP p, none⟩ = some (.string (getT s p)) := by
  refine h.cell _ _ ?_
  cases p <;> first | rfl | cases hp
def ptrN (b : Nat) (p : Pl) : Value := if isN p then .pointer (some ⟨b, offP p, none⟩) else .pointer none
def ptrT (b : Nat) (p : Pl) : Value := if isT p then .pointer (some ⟨b, offP p, none⟩) else .pointer none
theorem u8_ne {f : UInt8} {k : Nat} (hk : k < 256) (h : f ≠ UInt8.ofNat k) : ((f.toNat : Int) == (k : Int)) = false := by
  rw [beq_eq_false_iff_ne]
  intro e
  apply h
  apply UInt8.toNat_inj.1
  rw [UInt8.toNat_ofNat']
  omega
set_option maxHeartbeats 1600000 in
theorem number_any (f : UInt8) (b : Nat) (s : Stp) (m c : Value) (z : Int) (w : World) (h : SBox w b s m z c) :
    Calls Tryz.prog 40 #[.pointer (some ⟨b, 0, none⟩), .int .u8 (f.toNat : Int)] w fun e w' => e = .returned (ptrN b (place (s.a.k == 1) f)) ∧ w = w' := by
  have c4 : w.cell? ⟨b, 4, none⟩ = some (.int .i64 s.a.k) := h.cell 4 _ rfl
  clear h
  obtain ⟨k, hk⟩ : ∃ k, k = (s.a.k == 1) := ⟨_, rfl⟩
  rw [← hk]
  have hcs : f = 99 ∨ f = 102 ∨ f = 110 ∨ f = 111 ∨ f = 115 ∨ f = 104 ∨ (f ≠ 99 ∧ f ≠ 102 ∧ f ≠ 110 ∧ f ≠ 111 ∧ f ≠ 115 ∧ f ≠ 104) := by
    by_cases h1 : f = 99
    · exact .inl h1
    by_cases h2 : f = 102
    · exact .inr (.inl h2)
    by_cases h3 : f = 110
    · exact .inr (.inr (.inl h3))
    by_cases h4 : f = 111
    · exact .inr (.inr (.inr (.inl h4)))
    by_cases h5 : f = 115
    · exact .inr (.inr (.inr (.inr (.inl h5))))
    by_cases h6 : f = 104
    · exact .inr (.inr (.inr (.inr (.inr (.inl h6)))))
    exact .inr (.inr (.inr (.inr (.inr (.inr ⟨h1, h2, h3, h4, h5, h6⟩)))))
  have hk2 := hk.symm
  clear hk
  rcases hcs with rfl | rfl | rfl | rfl | rfl | rfl | ⟨h1, h2, h3, h4, h5, h6⟩
  · go_enter Tryz.func40, Tryz.ntmps40
    go_wp2_with fail
    go_ret
    exact ⟨by cases k <;> rfl, rfl⟩
  · go_enter Tryz.func40, Tryz.ntmps40
    go_wp2_with fail
    go_ret
    exact ⟨by cases k <;> rfl, rfl⟩
  · go_enter Tryz.func40, Tryz.ntmps40
    go_wp2_with fail
    go_ret
    exact ⟨by cases k <;> rfl, rfl⟩
  · go_enter Tryz.func40, Tryz.ntmps40
    go_wp2_with fail
    go_ret
    exact ⟨by cases k <;> rfl, rfl⟩
  · cases k
    all_goals
      go_enter Tryz.func40, Tryz.ntmps40
      go_wp2_with fail
      go_ret
      exact ⟨rfl, rfl⟩
  · cases k
    all_goals
      go_enter Tryz.func40, Tryz.ntmps40
      go_wp2_with fail
      go_ret
      exact ⟨rfl, rfl⟩
  · have HP : Hid (ptrN b (place k f) = .pointer none) := Lib.hid (by
      unfold place
      rw [if_neg h1, if_neg h2, if_neg h3, if_neg h4, if_neg h5, if_neg h6]
      split
      · rfl
      · split
        · cases k <;> rfl
        · rfl)
    have q1 : ((f.toNat : Int) == 99) = false := u8_ne (k := 99) (by decide) h1
    have q2 : ((f.toNat : Int) == 102) = false := u8_ne (k := 102) (by decide) h2
    have q3 : ((f.toNat : Int) == 110) = false := u8_ne (k := 110) (by decide) h3
    have q4 : ((f.toNat : Int) == 111) = false := u8_ne (k := 111) (by decide) h4
    have q5 : ((f.toNat : Int) == 115) = false := u8_ne (k := 115) (by decide) h5
    have q6 : ((f.toNat : Int) == 104) = false := u8_ne (k := 104) (by decide) h6
    clear h1 h2 h3 h4 h5 h6
    go_enter Tryz.func40, Tryz.ntmps40
    go_wp2_with fail
    go_ret
    exact ⟨congrArg Ending.returned HP.out.symm, rfl⟩
set_option maxHeartbeats 1600000 in
theorem text_any (f : UInt8) (b : Nat) (s : Stp) (m c : Value) (z : Int) (hf : isN (place (s.a.k == 1) f) = false) (w : World) (h : SBox w b s m z c) :
    Calls Tryz.prog 41 #[.pointer (some ⟨b, 0, none⟩), .int .u8 (f.toNat : Int)] w fun e w' => e = .returned (ptrT b (place (s.a.k == 1) f)) ∧ w = w' := by
  have c4 : w.cell? ⟨b, 4, none⟩ = some (.int .i64 s.a.k) := h.cell 4 _ rfl
  clear h
  obtain ⟨k, hk⟩ : ∃ k, k = (s.a.k == 1) := ⟨_, rfl⟩
  rw [← hk] at hf ⊢
  have hk2 := hk.symm
  clear hk
  by_cases h1 : f = 116
  · subst h1
    clear hf
    go_enter Tryz.func41, Tryz.ntmps41
    go_wp2_with fail
    go_ret
    exact ⟨by cases k <;> rfl, rfl⟩
  · by_cases h2 : f = 112
    · subst h2
      clear hf h1
      cases k
      all_goals
        go_enter Tryz.func41, Tryz.ntmps41
        go_wp2_with fail
        go_ret
        exact ⟨rfl, rfl⟩
    · have HP : Hid (ptrT b (place k f) = .pointer none) := Lib.hid (by
        have e : place k f = .d ∨ isN (place k f) = true := by
          unfold place
          rw [if_neg h1, if_neg h2]
          repeat' split
          all_goals first | exact .inl rfl | exact .inr rfl
        rcases e with e | e
        · rw [e]; rfl
        · rw [hf] at e; cases e)
      have q1 : ((f.toNat : Int) == 116) = false := u8_ne (k := 116) (by decide) h1
      have q2 : ((f.toNat : Int) == 112) = false := u8_ne (k := 112) (by decide) h2
      clear h1 h2 hf
      go_enter Tryz.func41, Tryz.ntmps41
      go_wp2_with fail
      go_ret
      exact ⟨congrArg Ending.returned HP.out.symm, rfl⟩
end Go.Proofs.YtiffmigihhcgcaaGreatDoor.ConW
