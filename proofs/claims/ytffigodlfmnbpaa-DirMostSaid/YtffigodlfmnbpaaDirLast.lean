/- The walk of DirLast. -/
import Derived.Test.YtffigodlfmnbpaaDirLaws
namespace Go.Proofs.Ytffigodlfmnbpaa.DirW
open Go.RowKit DirP
/-- names beside which one stands for nine -/
structure LdL (W wr : World) (nb b c : Nat) (L : List En) : Prop where
  h : DIs wr nb b c L
  below : Below W.heap.size W wr
  bn : W.heap.size ≤ nb
  bb : W.heap.size ≤ b
  bc : W.heap.size ≤ c
def Ld (W wr : World) (nb b c : Nat) (name : ByteArray) : Prop := ∃ L, LdL W wr nb b c L ∧ lk L (7, name) = some 9
def Gn (W wr : World) (nb b c : Nat) (name : ByteArray) : Prop := ∃ L, LdL W wr nb b c L ∧ lk L (7, name) = none
variable {W w : World} {nb b c : Nat} {L : List En} {name : ByteArray}
theorem LdL.onB {w' : World} {L' : List En} (p : LdL W w nb b c L) (h' : DIs w' nb b c L') (k : Only2 b c w w') : LdL W w' nb b c L' :=
  ⟨h', p.below.trans (k.below p.bb p.bc p.below.size), p.bn, p.bb, p.bc⟩
theorem LdL.grow {w' : World} (p : LdL W w nb b c L) (k : Below w.heap.size w w') : LdL W w' nb b c L := ⟨p.h.grow k, bstep p.below k, p.bn, p.bb, p.bc⟩
theorem Ld.grow {w' : World} (p : Ld W w nb b c name) (k : Below w.heap.size w w') : Ld W w' nb b c name := by
  obtain ⟨L, h, e⟩ := p
  exact ⟨L, h.grow k, e⟩
theorem addE_lk {L : List En} {d i : Int} {t : ByteArray} (h : addE L d t i = 0) : lk L (d, t) = none := by
  unfold addE at h
  cases hl : lk L (d, t) with
  | none => rfl
  | some v =>
    rw [hl] at h
    by_cases h1 : PathW.nameB t.data.toList = true
    · rw [if_pos h1] at h
      by_cases h2 : rngB d i = true
      · rw [if_pos h2, if_pos (by simp)] at h; cases h
      · rw [if_neg h2] at h; cases h
    · rw [if_neg h1] at h; cases h
theorem addL_lk {L : List En} (g : DGood L) (d i : Int) (t : ByteArray) (h : lk L (7, name) = some 9) : lk (addL L d t i) (7, name) = some 9 := by
  unfold addL
  split
  · rename_i e
    have hn := addE_lk e
    rw [lk_ins g.rises (a := ⟨d, t, i⟩) hn]
    show (if (7, name) = (d, t) then some i else lk L (7, name)) = _
    rw [if_neg (fun e => by rw [← e, h] at hn; cases hn), h]
  · exact h
theorem ld_add (d : Int) (t : ByteArray) (i : Int) (ht : t.size ≤ 1000) (hok : deOk (d, t)) (p : Ld W w nb b c name) :
    Calls Try.prog 10 #[.pointer (some ⟨nb, 0, none⟩), .int .i64 d, .string t, .int .i64 i] w fun e w' => (∃ r, e = .returned (.int .i64 r)) ∧ Ld W w' nb b c name := by
  obtain ⟨L, p, hl⟩ := p
  exact (add_any nb b c L d t i (by omega) hok w p.h).mono fun _ _ ⟨he, h1, h2, _⟩ => ⟨⟨_, he⟩, _, p.onB h1 h2, addL_lk p.h.good d i t hl⟩
theorem ld_drop (d : Int) (t : ByteArray) (hok : deOk (d, t)) (hne : (7, name) ≠ (d, t)) (p : Ld W w nb b c name) :
    Calls Try.prog 11 #[.pointer (some ⟨nb, 0, none⟩), .int .i64 d, .string t] w fun e w' => (∃ r, e = .returned (.int .i64 r)) ∧ Ld W w' nb b c name := by
  obtain ⟨L, p, hl⟩ := p
  exact (drop_any nb b c L d t hok w p.h).mono fun _ _ ⟨he, h1, h2, _⟩ => ⟨⟨_, he⟩, _, p.onB h1 h2, by rw [lk_del p.h.good.rises]; exact (if_neg hne).trans hl⟩
theorem ld_find (hok : deOk (7, name)) (p : Ld W w nb b c name) :
    Calls Try.prog 12 #[.pointer (some ⟨nb, 0, none⟩), .int .i64 7, .string name] w fun e w' => e = .returned (.tuple #[.int .i64 9, .bool true]) ∧ w = w' := by
  obtain ⟨L, p, hl⟩ := p
  have := find_any nb b c L 7 name hok w p.h
  unfold fiI fiB at this
  rw [hl] at this
  exact this
theorem ld_last (hok : deOk (7, name)) (p : Ld W w nb b c name) :
    Calls Try.prog 11 #[.pointer (some ⟨nb, 0, none⟩), .int .i64 7, .string name] w fun e w' => e = .returned (.int .i64 0) ∧ Gn W w' nb b c name := by
  obtain ⟨L, p, hl⟩ := p
  have := drop_any nb b c L 7 name hok w p.h
  unfold dropE at this
  rw [hl] at this
  exact this.mono fun _ _ ⟨he, h1, h2, _⟩ => ⟨he, _, p.onB h1 h2, by rw [lk_del p.h.good.rises]; exact if_pos rfl⟩
theorem gn_find (hok : deOk (7, name)) (p : Gn W w nb b c name) :
    Calls Try.prog 12 #[.pointer (some ⟨nb, 0, none⟩), .int .i64 7, .string name] w fun e w' => e = .returned (.tuple #[.int .i64 0, .bool false]) ∧ w = w' := by
  obtain ⟨L, p, hl⟩ := p
  have := find_any nb b c L 7 name hok w p.h
  unfold fiI fiB at this
  rw [hl] at this
  exact this
theorem Ld.below (p : Ld W w nb b c name) : Below W.heap.size W w := by obtain ⟨L, p, _⟩ := p; exact p.below
theorem Gn.below (p : Gn W w nb b c name) : Below W.heap.size W w := by obtain ⟨L, p, _⟩ := p; exact p.below
theorem ld_new (name : ByteArray) (W w1 w2 : World) (nb b c : Nat) (h1 : DIs w2 nb b c (addL [] 7 name 9)) (h2 : Only2 b c w1 w2) (hb : Below W.heap.size W w1) (bn : W.heap.size ≤ nb) (bb : W.heap.size ≤ b) (bc : W.heap.size ≤ c) (h0 : addE [] 7 name 9 = 0) : Ld W w2 nb b c name := by
  refine ⟨_, ⟨h1, hb.trans (h2.below bb bc hb.size), bn, bb, bc⟩, ?_⟩
  unfold addL
  rw [if_pos h0, lk_ins dgood_nil.rises (a := ⟨7, name, 9⟩) rfl]
  exact if_pos rfl
set_option maxRecDepth 100000 in
set_option maxHeartbeats 8000000 in
theorem last_walk (oa : Option Addr) (cap : Nat) (l : List Stp) (hl : l.length ≤ 9223372036854775807) (name : ByteArray) (hw : name.size ≤ maxLen) (W : World) (h : Steps W oa l) : Calls Try.prog 3 #[.slice oa l.length cap, .string name] W fun e w' => e = .returned (.bool true) ∧ Below W.heap.size W w' := by
  have HP := Lib.hid h.pts
  have HOK := Lib.hid h.ok
  have HN : Hid (deOk (7, name)) := Lib.hid ⟨(by decide : (Lit.int .i64 7).wf = true), hw⟩
  clear h
  by_cases hf : FairL l
  · have HFA : Hid (decide (FairL l) = true) := Lib.hid (decide_eq_true hf)
    have HF := Lib.hid hf
    clear hf
    by_cases hn : name.size ≤ 1000
    · have hn1 : ¬ ((name.size : Int) > 1000) := by omega
      obtain ⟨r, hr⟩ : ∃ r, r = addE [] 7 name 9 := ⟨_, rfl⟩
      have HR := Lib.hid hr
      have HNS : Hid (name.size ≤ 9223372036854775807) := Lib.hid (by omega)
      clear hr hn
      by_cases hr0 : r = 0
      · go_enter Try.func3, Try.ntmps3
        go_wp2_with (first
          | (go_at_call 7; refine (new_any _).mono ?_; rintro e w1 ⟨rfl, h1, hb1⟩; have H1 := Lib.hid h1; have HB1 := Lib.hid hb1; clear h1 hb1)
          | (go_at_call 8; refine (fair_any _ _ _ hl _ (HP.out.grow HB1.out)).mono ?_; rintro e w2 ⟨rfl, rfl⟩; rw [HFA.out])
          | (go_at_call 10; refine (add_any _ _ _ _ 7 name 9 HNS.out HN.out _ H1.out).mono ?_; rintro e w3 ⟨rfl, h3, ho3, _⟩; rw [← HR.out, hr0]; have HL3 : Hid (Ld W w3 (W.heap.size + 2) W.heap.size (W.heap.size + 1) name) := Lib.hid (ld_new name W w1 w3 _ _ _ h3 ho3 HB1.out (by omega) (by omega) (by omega) (HR.out.symm.trans hr0)); clear h3 ho3))
        generalize W.heap.size + 2 = nb at *
        generalize W.heap.size + 1 = c at *
        obtain ⟨b, hbb⟩ : ∃ b, b = W.heap.size := ⟨_, rfl⟩
        have HL4 : Hid (Ld W w3 nb b c name) := Lib.hid (by rw [hbb]; exact HL3.out)
        clear HL3 H1 hbb HR hr0 HNS
        go_loopw [6] (fun i wr => ∃ m : Nat, m ≤ l.length ∧ i = .int .i64 (m : Int) ∧ Ld W wr nb b c name) (fun i _ => (l.length - intOf i).toNat)
        case atStart => exact ⟨0, by omega, rfl, HL4.out⟩
        case round =>
          obtain ⟨m, hm, rfl, hld⟩ := hrel
          have HD := Lib.hid hld
          clear hld HL4
          by_cases hlt : m < l.length
          · obtain ⟨x, hx⟩ : ∃ x, l[m]? = some x := ⟨_, List.getElem?_eq_getElem hlt⟩
            obtain ⟨a, rfl, hab, c0, c1, c2, c3⟩ := st_at (HP.out.below HD.out.below) hx
            have HK := Lib.hid (HOK.out x (List.mem_of_getElem? hx))
            have HS := Lib.hid (HF.out.1 x (List.mem_of_getElem? hx))
            obtain ⟨k, d, i, t⟩ := x
            simp only at c0 c1 c2 c3 HK HS
            have hi1 : (m : Int) < (l.length : Int) := by omega
            have hi2 : m + 1 ≤ l.length := hlt
            clear hx hlt hm
            have HDB := Lib.hid (HD.out.grow (below_alloc wr (.cells #[.int .i64 k, .int .i64 d, .int .i64 i, .string t] 30)))
            by_cases k0 : k = 0
            · subst k0
              have hc : ((d == 7) = false) ∨ ((d == 7) = true ∧ (t.toList == name.toList) = false) ∨ ((d == 7) = true ∧ (t.toList == name.toList) = true) := by
                cases (d == 7) <;> cases (t.toList == name.toList) <;> simp
              rcases hc with d1 | ⟨d1, d2⟩ | ⟨d1, d2⟩
              all_goals
                go_wp2_with (first
                  | (go_at_call 10; refine (ld_add d t i HS.out HK.out HDB.out).mono ?_; rintro e w3 ⟨⟨r3, rfl⟩, h3⟩; have H3 := Lib.hid h3; clear h3)
                  | (go_at_call 12; refine (ld_find HN.out H3.out).mono ?_; rintro e w4 ⟨rfl, rfl⟩))
                exact ⟨⟨m + 1, hi2, by simp, H3.out⟩, by simp [intOf]; omega⟩
            · by_cases k1 : k = 1
              · subst k1
                have hc : ((d == 7) = false ∧ (7, name) ≠ (d, t)) ∨ ((d == 7) = true ∧ (t.toList == name.toList) = false ∧ (7, name) ≠ (d, t)) ∨ ((d == 7) = true ∧ (t.toList == name.toList) = true) := by
                  by_cases e1 : d = 7
                  · subst e1
                    by_cases e2 : t = name
                    · subst e2; exact .inr (.inr ⟨rfl, by simp⟩)
                    · exact .inr (.inl ⟨rfl, by rw [str_beq]; exact decide_eq_false e2, fun e => e2 (by injection e with _ e; exact e.symm)⟩)
                  · exact .inl ⟨by simpa using e1, fun e => e1 (by injection e with e _; exact e.symm)⟩
                clear k0
                rcases hc with ⟨d1, hne⟩ | ⟨d1, d2, hne⟩ | ⟨d1, d2⟩
                · have HNE := Lib.hid hne
                  clear hne
                  go_wp2_with (first
                    | (go_at_call 11; refine (ld_drop d t HK.out HNE.out HDB.out).mono ?_; rintro e w3 ⟨⟨r3, rfl⟩, h3⟩; have H3 := Lib.hid h3; clear h3)
                    | (go_at_call 12; refine (ld_find HN.out H3.out).mono ?_; rintro e w4 ⟨rfl, rfl⟩))
                  exact ⟨⟨m + 1, hi2, by simp, H3.out⟩, by simp [intOf]; omega⟩
                · have HNE := Lib.hid hne
                  clear hne
                  go_wp2_with (first
                    | (go_at_call 11; refine (ld_drop d t HK.out HNE.out HDB.out).mono ?_; rintro e w3 ⟨⟨r3, rfl⟩, h3⟩; have H3 := Lib.hid h3; clear h3)
                    | (go_at_call 12; refine (ld_find HN.out H3.out).mono ?_; rintro e w4 ⟨rfl, rfl⟩))
                  exact ⟨⟨m + 1, hi2, by simp, H3.out⟩, by simp [intOf]; omega⟩
                · go_wp2_with fail
                  exact ⟨⟨m + 1, hi2, by simp, HDB.out⟩, by simp [intOf]; omega⟩
              · have b0 : (k == 0) = false := by simpa using k0
                have b1 : (k == 1) = false := by simpa using k1
                clear k0 k1
                have hc : ((d == 7) = false) ∨ ((d == 7) = true ∧ (t.toList == name.toList) = false) ∨ ((d == 7) = true ∧ (t.toList == name.toList) = true) := by
                  cases (d == 7) <;> cases (t.toList == name.toList) <;> simp
                rcases hc with d1 | ⟨d1, d2⟩ | ⟨d1, d2⟩
                all_goals
                  go_wp2_with (go_at_call 12; refine (ld_find HN.out HDB.out).mono ?_; rintro e w4 ⟨rfl, rfl⟩)
                  exact ⟨⟨m + 1, hi2, by simp, HDB.out⟩, by simp [intOf]; omega⟩
          · have hi1 : ¬ ((m : Int) < (l.length : Int)) := by omega
            clear hlt hm
            go_wp2_with (first
              | (go_at_call 11; refine (ld_last HN.out HD.out).mono ?_; rintro e w5 ⟨rfl, h5⟩; have H5 := Lib.hid h5; clear h5)
              | (go_at_call 12; refine (gn_find HN.out H5.out).mono ?_; rintro e w6 ⟨rfl, rfl⟩)
              | (go_at_call 9; refine (wakes_any _).mono ?_; rintro e w9 ⟨rfl, hb9⟩; have HB9 := Lib.hid hb9; clear hb9))
            go_ret
            exact ⟨rfl, bstep H5.out.below HB9.out⟩
      · have hrb : (r == 0) = false := by simpa using hr0
        clear hr0
        go_enter Try.func3, Try.ntmps3
        go_wp2_with (first
          | (go_at_call 7; refine (new_any _).mono ?_; rintro e w1 ⟨rfl, h1, hb1⟩; have H1 := Lib.hid h1; have HB1 := Lib.hid hb1; clear h1 hb1)
          | (go_at_call 8; refine (fair_any _ _ _ hl _ (HP.out.grow HB1.out)).mono ?_; rintro e w2 ⟨rfl, rfl⟩; rw [HFA.out])
          | (go_at_call 10; refine (add_any _ _ _ _ 7 name 9 HNS.out HN.out _ H1.out).mono ?_; rintro e w3 ⟨rfl, h3, ho3, _⟩; rw [← HR.out]; have HB3 : Hid (Below W.heap.size W w3) := Lib.hid (HB1.out.trans (ho3.below (by omega) (by omega) HB1.out.size)); clear h3 ho3)
          | (go_at_call 9; refine (wakes_any _).mono ?_; rintro e w9 ⟨rfl, hb9⟩; have HB9 := Lib.hid hb9; clear hb9))
        go_ret
        exact ⟨rfl, bstep HB3.out HB9.out⟩
    · have hn1 : (name.size : Int) > 1000 := by omega
      clear hn
      go_enter Try.func3, Try.ntmps3
      go_wp2_with (first
        | (go_at_call 7; refine (new_any _).mono ?_; rintro e w1 ⟨rfl, h1, hb1⟩; have HB1 := Lib.hid hb1; clear h1 hb1)
        | (go_at_call 8; refine (fair_any _ _ _ hl _ (HP.out.grow HB1.out)).mono ?_; rintro e w2 ⟨rfl, rfl⟩; rw [HFA.out])
        | (go_at_call 9; refine (wakes_any _).mono ?_; rintro e w9 ⟨rfl, hb9⟩; have HB9 := Lib.hid hb9; clear hb9))
      go_ret
      exact ⟨rfl, bstep HB1.out HB9.out⟩
  · have HFA : Hid (decide (FairL l) = false) := Lib.hid (decide_eq_false hf)
    clear hf
    go_enter Try.func3, Try.ntmps3
    go_wp2_with (first
      | (go_at_call 7; refine (new_any _).mono ?_; rintro e w1 ⟨rfl, h1, hb1⟩; have HB1 := Lib.hid hb1; clear h1 hb1)
      | (go_at_call 8; refine (fair_any _ _ _ hl _ (HP.out.grow HB1.out)).mono ?_; rintro e w2 ⟨rfl, rfl⟩; rw [HFA.out])
      | (go_at_call 9; refine (wakes_any _).mono ?_; rintro e w9 ⟨rfl, hb9⟩; have HB9 := Lib.hid hb9; clear hb9))
    go_ret
    exact ⟨rfl, bstep HB1.out HB9.out⟩
end Go.Proofs.Ytffigodlfmnbpaa.DirW
