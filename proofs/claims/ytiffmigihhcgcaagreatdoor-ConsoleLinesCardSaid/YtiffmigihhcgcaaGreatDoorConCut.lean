/- console.cut, and the document's words. -/
import Derived.Test.YtiffmigihhcgcaaGreatDoorConForm
import Derived.Test.YtiffmigihhcgcaaGreatDoorOpPath
import Derived.Test.YtiffmigihhcgcaaGreatDoorAppend
import Derived.Laws.RangeAny
import Derived.Lib.OthersKept
import Derived.Deep.Onto
namespace Go.Proofs.YtiffmigihhcgcaaGreatDoor.ConP
set_option maxRecDepth 100000
/-- so far the words in acc, and a word that began at x, up to i -/
structure CutI (P : Bs) (x i : Nat) (acc : List Bs) : Prop where
  xi : x ≤ i
  iP : i ≤ P.length
  no : ∀ j, x ≤ j → j < i → P.getD j 0 ≠ 32
  eq : wds P = acc ++ wds (P.drop x)
  len : acc.length ≤ x
theorem cutI_0 (P : Bs) : CutI P 0 0 [] := ⟨by omega, by omega, fun j h1 h2 => by omega, by simp, by simp⟩
theorem seg_free {P : Bs} {x i : Nat} {acc : List Bs} (h : CutI P x i acc) : 32 ∉ (P.drop x).take (i - x) := by
  intro hm
  obtain ⟨k, hk⟩ := List.getElem?_of_mem hm
  rw [List.getElem?_take] at hk
  split at hk
  · rw [List.getElem?_drop] at hk
    have := h.no (x + k) (by omega) (by omega)
    rw [List.getD_eq_getElem?_getD, hk] at this
    exact this rfl
  · cases hk
theorem cutI_cut {P : Bs} {x i : Nat} {acc : List Bs} (h : CutI P x i acc) (hi : i < P.length) (hc : P.getD i 0 = 32) : CutI P (i + 1) (i + 1) (acc ++ [(P.drop x).take (i - x)]) := by
  refine ⟨by omega, by omega, fun j h1 h2 => by omega, ?_, by have := h.len; have := h.xi; simp; omega⟩
  have e : P.drop x = (P.drop x).take (i - x) ++ 32 :: P.drop (i + 1) := by
    have h1 := List.take_append_drop (i - x) (P.drop x)
    rw [List.drop_drop, show x + (i - x) = i by have := h.xi; omega, List.drop_eq_getElem_cons hi] at h1
    have h2 : P[i] = 32 := by
      rw [List.getD_eq_getElem?_getD, List.getElem?_eq_getElem hi] at hc
      exact hc
    rw [h2] at h1
    exact h1.symm
  rw [h.eq]
  conv => lhs; rw [e, wds_app _ _ (seg_free h)]
  simp
theorem cutI_skip {P : Bs} {x i : Nat} {acc : List Bs} (h : CutI P x i acc) (n : Nat) (hi : i + n ≤ P.length) (hc : ∀ j, i ≤ j → j < i + n → P.getD j 0 ≠ 32) : CutI P x (i + n) acc :=
  ⟨by have := h.xi; omega, hi, fun j h1 h2 => by
    by_cases hj : j < i
    · exact h.no j h1 hj
    · exact hc j (by omega) h2, h.eq, h.len⟩
theorem cutI_end {P : Bs} {x i : Nat} {acc : List Bs} (h : CutI P x i acc) (hi : i = P.length) : wds P = acc ++ [P.drop x] := by
  rw [h.eq]
  have hs := seg_free h
  rw [List.take_of_length_le (by simp; omega)] at hs
  rw [wds_one _ hs]
theorem decode_cont (s : ByteArray) (pos : Nat) (h : pos < s.size) (ha : 128 ≤ (s[pos]'h).toNat) : pos + (Utf8.decode s pos).2 ≤ s.size ∧ ∀ j, pos < j → j < pos + (Utf8.decode s pos).2 → 128 ≤ (s.get! j).toNat := by
  have h0 := get_at s pos h
  have hn : ¬ (s[pos]'h).toNat < 128 := by omega
  simp only [Utf8.decode, h0, hn, if_false]
  have key : ∀ k : Nat, (decide (pos + k < s.size) && ((s.get! (pos + k)).toNat / 64 == 2)) = true → pos + k < s.size ∧ 128 ≤ (s.get! (pos + k)).toNat := by
    intro k hk
    rw [Bool.and_eq_true, decide_eq_true_eq, beq_iff_eq] at hk
    exact ⟨hk.1, by omega⟩
  have one : ∀ j, pos < j → j < pos + 1 → 128 ≤ (s.get! j).toNat := fun j h1 h2 => by omega
  split
  · rename_i hc
    rw [Bool.and_eq_true] at hc
    have k1 := key 1 hc.2
    split
    · exact ⟨by show pos + 2 ≤ _; omega, fun j h1 h2 => by
        have : j < pos + 2 := h2
        obtain rfl : j = pos + 1 := by omega
        exact k1.2⟩
    · exact ⟨by show pos + 1 ≤ _; omega, one⟩
  · split
    · rename_i hc
      rw [Bool.and_eq_true, Bool.and_eq_true] at hc
      have k1 := key 1 hc.1.2
      have k2 := key 2 hc.2
      split
      · exact ⟨by show pos + 3 ≤ _; omega, fun j h1 h2 => by
          have : j < pos + 3 := h2
          rcases (by omega : j = pos + 1 ∨ j = pos + 2) with rfl | rfl
          · exact k1.2
          · exact k2.2⟩
      · exact ⟨by show pos + 1 ≤ _; omega, one⟩
    · split
      · rename_i hc
        rw [Bool.and_eq_true, Bool.and_eq_true, Bool.and_eq_true] at hc
        have k1 := key 1 hc.1.1.2
        have k2 := key 2 hc.1.2
        have k3 := key 3 hc.2
        split
        · exact ⟨by show pos + 4 ≤ _; omega, fun j h1 h2 => by
            have : j < pos + 4 := h2
            rcases (by omega : j = pos + 1 ∨ j = pos + 2 ∨ j = pos + 3) with rfl | rfl | rfl
            · exact k1.2
            · exact k2.2
            · exact k3.2⟩
        · exact ⟨by show pos + 1 ≤ _; omega, one⟩
      · exact ⟨by show pos + 1 ≤ _; omega, one⟩
/-- a rune of a text: a blank is one, and alone -/
theorem rune_is (s : ByteArray) (pos : Nat) (h : pos < s.size) : ∃ r n, Utf8.decode s pos = (r, n) ∧ r ≤ 2147483647 ∧ 1 ≤ n ∧ pos + n ≤ s.size ∧ ((s.data.toList.getD pos 0 = 32 ∧ r = 32 ∧ n = 1) ∨ (r ≠ 32 ∧ ∀ j, pos ≤ j → j < pos + n → s.data.toList.getD j 0 ≠ 32)) := by
  have hle := decode_le s pos
  have hg := PathW.getD_at s pos h
  by_cases ha : (s[pos]'h).toNat < 128
  · have hd := decode_ascii s pos h ha
    refine ⟨_, _, hd, by omega, Nat.le_refl _, by omega, ?_⟩
    by_cases hb : s[pos]'h = 32
    · left
      exact ⟨hg.trans hb, by rw [hb]; rfl, rfl⟩
    · right
      refine ⟨fun e => hb (UInt8.toNat_inj.1 (by rw [e]; rfl)), fun j h1 h2 => ?_⟩
      obtain rfl : j = pos := by omega
      rw [hg]; exact hb
  · have h1 := decode_high s pos h (by omega)
    obtain ⟨h2, h3⟩ := decode_cont s pos h (by omega)
    obtain ⟨r, n, hd⟩ : ∃ r n, Utf8.decode s pos = (r, n) := ⟨_, _, rfl⟩
    rw [hd] at h1 h2 h3 hle
    simp only at h1 h2 h3 hle
    refine ⟨r, n, hd, hle, h1.2, h2, .inr ⟨by omega, fun j hj1 hj2 => ?_⟩⟩
    have hjs : j < s.size := by omega
    rw [PathW.getD_at s j hjs]
    intro e
    by_cases hj : j = pos
    · subst hj
      rw [e] at ha; exact ha (by decide)
    · have h4 := h3 j (by omega) hj2
      have hgj : s.get! j = s[j] := get_at s j hjs
      rw [hgj, e] at h4
      revert h4; decide
end Go.Proofs.YtiffmigihhcgcaaGreatDoor.ConP
namespace Go.Proofs.YtiffmigihhcgcaaGreatDoor.ConW
set_option maxRecDepth 100000
open Go.RowKit ConP
open PathW (Strs strV strinfo ext_mid ext_drop str_list list_size getD_at)
theorem strs_wider {B C : Nat} {w : World} {v : Value} {l : List Bs} (h : Strs B w v l) (hB : C ≤ B) : Strs C w v l := World.ownsRow.mono h hB
set_option maxHeartbeats 1600000 in
theorem cut_any (s : ByteArray) (hs : s.size ≤ 1000000) (w : World) :
    Calls Tryz.prog 19 #[.string s] w fun e w' => ∃ v, e = .returned v ∧ Strs w.heap.size w' v (wds s.data.toList) ∧ Below w.heap.size w w' := by
  obtain ⟨i0, hi, hz0, hz1, hz2⟩ := info_parts strinfo
  have hlen := list_size s
  have HLEN := Lib.hid hlen
  clear hlen
  go_enter Tryz.func19, Tryz.ntmps19
  go_wp2_with fail
  obtain ⟨B, hB⟩ : ∃ B, B = w.heap.size := ⟨_, rfl⟩
  have hit0 : (w.iter s 0).heap[B]? = some (.stringIter s 0) := by rw [hB]; exact World.iter_heap w s 0
  have hbl0 : Below B w (w.iter s 0) := by rw [hB]; exact below_alloc w _
  have HIT0 := Lib.hid hit0
  have HBL0 := Lib.hid hbl0
  have HBE := Lib.hid hB
  rw [← hB]
  clear hit0 hbl0 hB
  generalize w.iter s 0 = w1 at *
  go_loopw [3, 4] (fun l a wr => ∃ (x k : Nat) (acc : List Bs), a = .int .i64 (x : Int) ∧ CutI s.data.toList x k acc ∧ Strs (B + 1) wr l acc ∧ wr.heap[B]? = some (.stringIter s k) ∧ Below B w wr) (fun _ _ wr => s.size - wr.iterPos B)
  case atStart => exact ⟨0, 0, [], rfl, cutI_0 _, ⟨rfl, .inl ⟨rfl, rfl⟩⟩, HIT0.out, HBL0.out⟩
  case round =>
    obtain ⟨x, k, acc, rfl, hI, hstr, hit, hbel⟩ := hrel
    obtain ⟨oa, cap, rfl⟩ := hstr.form
    have hwB : B < wr.heap.size := (Array.getElem?_eq_some_iff.1 hit).1
    have hxi := hI.xi
    have hip := hI.iP
    have hal := hI.len
    rw [HLEN.out] at hip
    by_cases hlt : k < s.size
    · obtain ⟨r, n, hd, hr, hn1, hn2, hcs⟩ := rune_is s k hlt
      have hnx : ∀ ty, (Instr.next (.pointer (some ⟨B, 0, none⟩)) true ty).run Tryz.prog wr = .ok (.tuple #[.bool true, .int .i64 k, .int .i32 r]) (wr.iterAt B s (k + n)) := fun ty => by
        have := Lib.run_next_any_at (P := Tryz.prog) wr B s k ty hit hlt
        rw [hd] at this
        exact this
      have hit2 := Lib.iterAt_heap wr B s k (k + n) hit
      have hbel2 := Lib.below_iterAt hbel (k := B) (Nat.le_refl _) s (k + n)
      have hsz2 : (wr.iterAt B s (k + n)).heap.size = wr.heap.size := Lib.iterAt_size ..
      have hstr2 : Strs (B + 1) (wr.iterAt B s (k + n)) (.slice oa acc.length cap) acc := by
        rcases hstr.2 with ⟨h1, h2⟩ | ⟨g, cap', cur, h1, h2, h3, h4⟩
        · exact ⟨hstr.1, .inl ⟨h1, h2⟩⟩
        · refine ⟨hstr.1, .inr ⟨g, cap', cur, h1, h2, ?_, h4⟩⟩
          rw [Lib.iterAt_other _ _ _ _ _ (by omega)]; exact h3
      have HSV : Hid (Value.string (s.extract x k) = strV ((s.data.toList.drop x).take (k - x))) := Lib.hid (by rw [str_list, ext_mid])
      have HIT := Lib.hid hit2
      have HB := Lib.hid hbel2
      have HOWN : Hid ((wr.iterAt B s (k + n)).ownsRow (B + 1) 9 1 (.slice oa acc.length cap) acc.length (acc.map strV)) := Lib.hid hstr2
      have HSZ := Lib.hid hsz2
      have HPOS : Hid (wr.iterPos B = k) := Lib.hid (by simp [World.iterPos, hit])
      clear hit hd hit2 hbel2 hstr2 hstr hsz2 hbel
      rcases hcs with ⟨hc, rfl, rfl⟩ | ⟨hr32, hno⟩
      · have HI2 := Lib.hid (cutI_cut hI (by rw [HLEN.out]; exact hlt) hc)
        clear hI hc
        generalize wr.iterAt B s (k + 1) = w2 at *
        go_wp2_with (at_builtin; refine wpList_append_new rfl _ _ 44 rfl (B + 1) 9 i0 (.string ⟨#[]⟩) 1 16 Tryz.underlying44 hi hz0 hz1 hz2 rfl (by decide) _ _ _ (by rfl) HOWN.out 1 1 (by rfl) rfl (by simp; rfl) (by unfold maxLen; omega) (by omega) (by have := HSZ.out; omega) ?_; intro oa2 cap2 w5 hown5 hbel5 _; have HS5 := Lib.hid hown5; have HB5 := Lib.hid (HB.out.trans (hbel5.mono (by omega))); have HIT5 : Hid (w5.heap[B]? = some (.stringIter s (k + 1))) := Lib.hid ((hbel5.block B (by omega)).trans HIT.out); clear hown5 hbel5)
        exact ⟨⟨k + 1, k + 1, _, by go_num, HI2.out, Strs.snoc HSV.out HS5.out, HIT5.out, HB5.out⟩, by rw [HPOS.out]; simp [World.iterPos, HIT5.out]; omega⟩
      · have hb : ((r : Int) == 32) = false := by rw [beq_eq_false_iff_ne]; omega
        have HI2 := Lib.hid (cutI_skip hI n (by rw [HLEN.out]; exact hn2) hno)
        clear hI hno
        generalize wr.iterAt B s (k + n) = w2 at *
        go_wp2_with fail
        exact ⟨⟨x, k + n, acc, rfl, HI2.out, HOWN.out, HIT.out, HB.out⟩, by rw [HPOS.out]; simp [World.iterPos, HIT.out]; omega⟩
    · have hnx : ∀ ty, (Instr.next (.pointer (some ⟨B, 0, none⟩)) true ty).run Tryz.prog wr = .ok (.tuple #[.bool false]) wr := fun ty => Lib.run_next_end_at wr B s k ty hit hlt
      have hke : k = s.size := by omega
      have HE := Lib.hid (cutI_end hI (by rw [HLEN.out]; exact hke))
      have HSV : Hid (Value.string (s.extract x s.size) = strV (s.data.toList.drop x)) := Lib.hid (by rw [str_list, ext_drop])
      have HB := Lib.hid hbel
      have HOWN : Hid (wr.ownsRow (B + 1) 9 1 (.slice oa acc.length cap) acc.length (acc.map strV)) := Lib.hid hstr
      clear hI hit hstr hbel hke
      go_wp2_with (at_builtin; refine wpList_append_new rfl _ _ 44 rfl (B + 1) 9 i0 (.string ⟨#[]⟩) 1 16 Tryz.underlying44 hi hz0 hz1 hz2 rfl (by decide) _ _ _ (by rfl) HOWN.out 1 1 (by rfl) rfl (by simp; rfl) (by unfold maxLen; omega) (by omega) (by omega) ?_; intro oa2 cap2 w5 hown5 hbel5 _; have HS5 := Lib.hid hown5; have HB5 := Lib.hid (HB.out.trans (hbel5.mono (by omega))); clear hown5 hbel5)
      go_ret
      exact ⟨_, rfl, by rw [HE.out, ← HBE.out]; exact strs_wider (Strs.snoc HSV.out HS5.out) (by omega), by rw [← HBE.out]; exact HB5.out⟩
set_option maxHeartbeats 1600000 in
theorem words_any (s : ByteArray) (hs : s.size ≤ 1000000) (w : World) :
    Calls Tryz.prog 28 #[.string s] w fun e w' => ∃ v, e = .returned v ∧ Strs w.heap.size w' v (wds s.data.toList) ∧ Below w.heap.size w w' := by
  obtain ⟨i0, hi, hz0, hz1, hz2⟩ := info_parts strinfo
  have hlen := list_size s
  have HLEN := Lib.hid hlen
  have GET := Lib.hid (PathW.getD_at s)
  clear hlen
  go_enter Tryz.func28, Tryz.ntmps28
  go_wp2_with fail
  go_loopw [3, 4, 5] (fun l a i wr => (∃ (x k : Nat) (acc : List Bs), i = .int .i64 (k : Int) ∧ a = .int .i64 (x : Int) ∧ CutI s.data.toList x k acc ∧ Strs w.heap.size wr l acc ∧ Below w.heap.size w wr) ∨
    (i = .int .i64 ((s.size : Int) + 1) ∧ Strs w.heap.size wr l (wds s.data.toList) ∧ Below w.heap.size w wr)) (fun _ _ i _ => s.size + 1 - (intOf i).toNat)
  case atStart => exact .inl ⟨0, 0, [], rfl, rfl, cutI_0 _, ⟨rfl, .inl ⟨rfl, rfl⟩⟩, Below.refl _ _⟩
  case round =>
    rcases hrel with ⟨x, k, acc, rfl, rfl, hI, hstr, hbel⟩ | ⟨rfl, hstr, hbel⟩
    · obtain ⟨oa, cap, rfl⟩ := hstr.form
      have hxi := hI.xi
      have hip := hI.iP
      have hal := hI.len
      rw [HLEN.out] at hip
      have HOWN : Hid (wr.ownsRow w.heap.size 9 1 (.slice oa acc.length cap) acc.length (acc.map strV)) := Lib.hid hstr
      have HB := Lib.hid hbel
      have HSV : Hid (Value.string (s.extract x k) = strV ((s.data.toList.drop x).take (k - x))) := Lib.hid (by rw [str_list, ext_mid])
      clear hstr hbel
      have hki : (k : Int) ≤ (s.size : Int) := by omega
      by_cases hlt : k < s.size
      · have hG := GET.out k hlt
        have hks : ((k : Int) == (s.size : Int)) = false := by rw [beq_eq_false_iff_ne]; omega
        by_cases hc : s[k] = 32
        · have hb : ((s[k].toNat : Int) == 32) = true := by rw [hc]; rfl
          have HI2 := Lib.hid (cutI_cut hI (by rw [HLEN.out]; exact hlt) (hG.trans hc))
          clear hc hG hI
          go_wp2_with (at_builtin; refine wpList_append_new rfl _ _ 44 rfl w.heap.size 9 i0 (.string ⟨#[]⟩) 1 16 Tryz.underlying44 hi hz0 hz1 hz2 rfl (by decide) _ _ _ (by rfl) HOWN.out 1 1 (by rfl) rfl (by simp; rfl) (by unfold maxLen; omega) (by omega) HB.out.size ?_; intro oa2 cap2 w5 hown5 hbel5 _; have HS5 := Lib.hid hown5; have HB5 := Lib.hid (HB.out.trans hbel5); clear hown5 hbel5)
          exact ⟨.inl ⟨k + 1, k + 1, _, by go_num, by go_num, HI2.out, Strs.snoc HSV.out HS5.out, HB5.out⟩, by simp [intOf]; omega⟩
        · have hb : ((s[k].toNat : Int) == 32) = false := by
            rw [beq_eq_false_iff_ne]
            intro h
            exact hc (UInt8.toNat_inj.1 (by have : (32 : UInt8).toNat = 32 := rfl; omega))
          have HI2 := Lib.hid (cutI_skip hI 1 (by rw [HLEN.out]; omega) fun j h1 h2 => by
            obtain rfl : j = k := by omega
            rw [hG]; exact hc)
          clear hc hG hI
          go_wp2_with fail
          exact ⟨.inl ⟨x, k + 1, acc, by go_num, rfl, HI2.out, HOWN.out, HB.out⟩, by simp [intOf]; omega⟩
      · obtain rfl : k = s.size := by omega
        have HE := Lib.hid (cutI_end hI (by rw [HLEN.out]))
        have HTK : Hid ((s.data.toList.drop x).take (s.size - x) = s.data.toList.drop x) := Lib.hid (List.take_of_length_le (by simp))
        clear hI hlt
        go_wp2_with (at_builtin; refine wpList_append_new rfl _ _ 44 rfl w.heap.size 9 i0 (.string ⟨#[]⟩) 1 16 Tryz.underlying44 hi hz0 hz1 hz2 rfl (by decide) _ _ _ (by rfl) HOWN.out 1 1 (by rfl) rfl (by simp; rfl) (by unfold maxLen; omega) (by omega) HB.out.size ?_; intro oa2 cap2 w5 hown5 hbel5 _; have HS5 := Lib.hid hown5; have HB5 := Lib.hid (HB.out.trans hbel5); clear hown5 hbel5)
        exact ⟨.inr ⟨by go_num, by rw [HE.out, ← HTK.out]; exact Strs.snoc HSV.out HS5.out, HB5.out⟩, by simp [intOf]⟩
    · have HS := Lib.hid hstr
      have HB := Lib.hid hbel
      clear hstr hbel
      have hlt : decide ((s.size : Int) + 1 ≤ (s.size : Int)) = false := decide_eq_false (by omega)
      go_wp2_with fail
      go_ret
      exact ⟨_, rfl, HS.out, HB.out⟩
/-- the document's number of a word -/
def numI (w : Bs) : Int := match numW w with | some n => (n : Int) | none => -1
open Lib (digitVal decFrom decNat digitVal_eq decFrom_take decFrom_lt digit_of_decFrom) in
set_option maxHeartbeats 1600000 in
theorem rnum_any (s : ByteArray) (hs : s.size ≤ 1000000) (w : World) :
    Calls Tryz.prog 29 #[.string s] w fun e w' => e = .returned (.int .i64 (numI s.data.toList)) ∧ w = w' := by
  have hlen := list_size s
  have HLEN := Lib.hid hlen
  have GET := Lib.hid (PathW.getD_at s)
  clear hlen
  by_cases h0 : s.size < 1
  · have HN : Hid (numI s.data.toList = -1) := Lib.hid (by
      have e : s.data.toList = [] := List.eq_nil_of_length_eq_zero (by rw [HLEN.out]; omega)
      rw [e]; rfl)
    have h1 : (s.size : Int) < 1 := by omega
    clear h0
    go_enter Tryz.func29, Tryz.ntmps29
    go_wp2_with fail
    go_ret
    exact ⟨ret_int HN.out.symm, rfl⟩
  · by_cases h9 : 9 < s.size
    · have HN : Hid (numI s.data.toList = -1) := Lib.hid (by
        unfold numI numW
        rw [if_neg (by rw [HLEN.out]; omega)])
      have h1 : decide ((s.size : Int) < 1) = false := decide_eq_false (by omega)
      have h2 : 9 < (s.size : Int) := by omega
      clear h0 h9
      go_enter Tryz.func29, Tryz.ntmps29
      go_wp2_with fail
      go_ret
      exact ⟨ret_int HN.out.symm, rfl⟩
    · have h1 : decide ((s.size : Int) < 1) = false := decide_eq_false (by omega)
      have h2 : decide (9 < (s.size : Int)) = false := decide_eq_false (by omega)
      have hp0 : 0 < s.size := by omega
      have hG0 := GET.out 0 hp0
      by_cases hz : 1 < s.size ∧ s[0] = 48
      · have HN : Hid (numI s.data.toList = -1) := Lib.hid (by
          unfold numI numW
          rw [if_neg]
          rintro ⟨_, h | h⟩
          · rw [HLEN.out] at h; omega
          · apply h
            rw [List.head?_eq_getElem?, List.getElem?_eq_getElem (by rw [HLEN.out]; omega)]
            exact congrArg some hz.2)
        have h3 : 1 < (s.size : Int) := by omega
        have h4 : ((s[0].toNat : Int) == 48) = true := by rw [hz.2]; rfl
        obtain ⟨n1, n2⟩ := some_bytes (s := s) hp0
        clear h0 h9 hz hG0
        go_enter Tryz.func29, Tryz.ntmps29
        go_wp2_with fail
        go_ret
        exact ⟨ret_int HN.out.symm, rfl⟩
      · have HNW : Hid (numI s.data.toList = match decFrom 0 s.data.toList with | some n => (n : Int) | none => -1) := Lib.hid (by
          unfold numI numW
          rw [if_pos, decNat, if_neg]
          · intro e
            have h1 : s.data.toList = [] := List.isEmpty_iff.1 e
            have h2 := HLEN.out
            rw [h1, List.length_nil] at h2
            omega
          · refine ⟨by rw [HLEN.out]; omega, ?_⟩
            by_cases h : 1 < s.size
            · right
              rw [List.head?_eq_getElem?, List.getElem?_eq_getElem (by rw [HLEN.out]; omega)]
              intro e
              exact hz ⟨h, by injection e⟩
            · left; rw [HLEN.out]; omega)
        have h9' : s.size ≤ 9 := by omega
        have hcs : (s.size = 1 ∧ decide (1 < (s.size : Int)) = false) ∨ (1 < s.size ∧ ((s[0].toNat : Int) == 48) = false) := by
          by_cases h : 1 < s.size
          · right
            refine ⟨h, ?_⟩
            rw [beq_eq_false_iff_ne]
            intro e
            exact hz ⟨h, UInt8.toNat_inj.1 (by have : (48 : UInt8).toNat = 48 := rfl; omega)⟩
          · left; exact ⟨by omega, decide_eq_false (by omega)⟩
        obtain ⟨n1, n2⟩ := some_bytes (s := s) hp0
        clear h0 h9 hz hG0
        rcases hcs with ⟨_, h3⟩ | ⟨h3', h4⟩
        all_goals
          first | (have h3 : 1 < (s.size : Int) := by omega) | skip
          go_enter Tryz.func29, Tryz.ntmps29
          go_wp2_with fail
          clear h1 h2 h3 n1 n2
          try clear h4
          go_loopw [3, 4] (fun v i wr => wr = w ∧ ∃ (k n : Nat), k ≤ s.size ∧ i = .int .i64 (k : Int) ∧ v = .int .i64 (n : Int) ∧ decFrom 0 (s.data.toList.take k) = some n ∧ n ≤ 10000000000) (fun _ i _ => s.size - (intOf i).toNat)
          case atStart => exact ⟨rfl, 0, 0, by omega, rfl, rfl, rfl, by omega⟩
          case round =>
            obtain ⟨rfl, k, n, hk, rfl, rfl, hd, hn⟩ := hrel
            have HD := Lib.hid hd
            clear hd
            by_cases hlt : k < s.size
            · have hG := GET.out k hlt
              have hk1 : (k : Int) < (s.size : Int) := by omega
              have hel : s.data.toList[k]? = some s[k] := by rw [List.getElem?_eq_getElem (by rw [HLEN.out]; omega)]; rfl
              cases hdv : digitVal s[k] with
              | none =>
                have HN : Hid (numI s.data.toList = -1) := Lib.hid (by
                  rw [HNW.out]
                  cases hx : decFrom 0 s.data.toList with
                  | none => rfl
                  | some m =>
                    obtain ⟨d, hd⟩ := digit_of_decFrom _ _ _ hx k _ hel
                    rw [hdv] at hd; cases hd)
                have hcc : (s[k].toNat : Int) < 48 ∨ (decide ((s[k].toNat : Int) < 48) = false ∧ 57 < (s[k].toNat : Int)) := by
                  unfold digitVal at hdv
                  by_cases h : s[k].toNat < 48
                  · left; omega
                  · right
                    refine ⟨decide_eq_false (by omega), ?_⟩
                    by_cases h2 : s[k].toNat ≤ 57
                    · rw [if_pos ⟨by omega, h2⟩] at hdv; cases hdv
                    · omega
                clear hdv hel hG
                rcases hcc with h5 | ⟨h5, h6⟩
                all_goals
                  go_wp2_with fail
                  try simp only [Exit.inBlock, Exit.then]
                  go_ret
                  exact ⟨ret_int HN.out.symm, rfl⟩
              | some d =>
                obtain ⟨h5, h6, h7⟩ := digitVal_eq hdv
                have HD2 := Lib.hid (decFrom_take _ k 0 n _ d HD.out hel hdv)
                have HBD : Hid (n * 10 + d ≤ 10000000000) := Lib.hid (by
                  have h8 := decFrom_lt _ _ _ HD2.out
                  have h9 : (10 : Nat) ^ (s.data.toList.take (k + 1)).length ≤ 10 ^ 9 := Nat.pow_le_pow_right (by decide) (by simp; omega)
                  have h10 : (10 : Nat) ^ 9 = 1000000000 := by decide
                  omega)
                have h8 : decide ((s[k].toNat : Int) < 48) = false := decide_eq_false (by omega)
                have h9 : decide (57 < (s[k].toNat : Int)) = false := decide_eq_false (by omega)
                have e1 : IntKind.u8.wrap ((s[k].toNat : Int) - 48) = (d : Int) := by
                  have h0 : ∀ E : Int, IntKind.u8.wrap E = E % 256 := fun E => by simp [IntKind.wrap, IntKind.signed, IntKind.bits]
                  rw [h0]; omega
                have e2 : IntKind.i64.wrap (d : Int) = (d : Int) := IntWalk.i64_in _ (by omega)
                have e3 : IntKind.i64.wrap ((n : Int) * 10) = (n : Int) * 10 := IntWalk.i64_in _ (by omega)
                have e4 : IntKind.i64.wrap ((n : Int) * 10 + (d : Int)) = (n : Int) * 10 + (d : Int) := IntWalk.i64_in _ (by omega)
                clear hdv hel hG h7
                go_wp2_with fail
                exact ⟨⟨trivial, k + 1, n * 10 + d, by omega, by simp, by simp, HD2.out, HBD.out⟩, by simp [intOf]; omega⟩
            · obtain rfl : k = s.size := by omega
              have HN : Hid (numI s.data.toList = (n : Int)) := Lib.hid (by
                have := HD.out
                rw [List.take_of_length_le (by rw [HLEN.out]; omega)] at this
                rw [HNW.out, this])
              have hk1 : decide ((s.size : Int) < (s.size : Int)) = false := decide_eq_false (by omega)
              go_wp2_with fail
              go_ret
              exact ⟨ret_int HN.out.symm, rfl⟩
end Go.Proofs.YtiffmigihhcgcaaGreatDoor.ConW
