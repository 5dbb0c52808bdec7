/- Hexadecimal digits: the document's. -/
import Derived.Test.YtiffmigihhcgcaaGreatDoorConCut
import Derived.Test.YtiffmigihhcgcaaGreatDoorBytes
namespace Go.Proofs.YtiffmigihhcgcaaGreatDoor.ConW
set_option maxRecDepth 100000
open Go.RowKit ConP
open PathW (Strs strV strinfo ext_mid ext_drop str_list list_size getD_at)
def digS : ByteArray := ⟨#[48, 49, 50, 51, 52, 53, 54, 55, 56, 57, 97, 98, 99, 100, 101, 102]⟩
theorem digS_size : digS.size = 16 := rfl
theorem digS_at : ∀ k : Fin 16, digS[k.val]'k.isLt = hexD k.val := by decide
/-- a digit's number, -1: none -/
def digI (c : UInt8) : Int := match hexV c with | some n => (n : Int) | none => -1
theorem hexV_none {c : UInt8} (h : ∀ k, k < 16 → c ≠ hexD k) : hexV c = none := by
  cases hv : hexV c with
  | none => rfl
  | some n =>
    obtain ⟨h1, h2⟩ := hexD_V hv
    exact absurd h2.symm (h n h1)
set_option maxHeartbeats 800000 in
theorem digit_any (c : UInt8) (w : World) : Calls Tryz.prog 54 #[.int .u8 (c.toNat : Int)] w fun e w' => e = .returned (.int .i64 (digI c)) ∧ w = w' := by
  go_enter Tryz.func54, Tryz.ntmps54
  go_wp2_with fail
  go_loopw [3] (fun i wr => wr = w ∧ ∃ k : Nat, k ≤ 16 ∧ i = .int .i64 (k : Int) ∧ ∀ j, j < k → c ≠ hexD j) (fun i _ => 16 - (intOf i).toNat)
  case atStart => exact ⟨rfl, 0, by omega, rfl, fun j hj => by omega⟩
  case round =>
    obtain ⟨rfl, k, hk, rfl, hno⟩ := hrel
    have HNO := Lib.hid hno
    clear hno
    by_cases hlt : k < 16
    · have hk1 : (k : Int) < 16 := by omega
      have hat : (⟨#[48, 49, 50, 51, 52, 53, 54, 55, 56, 57, 97, 98, 99, 100, 101, 102]⟩ : ByteArray)[k]'hlt = hexD k := digS_at ⟨k, hlt⟩
      by_cases hc : c = hexD k
      · have hq : ((((⟨#[48, 49, 50, 51, 52, 53, 54, 55, 56, 57, 97, 98, 99, 100, 101, 102]⟩ : ByteArray)[k]'hlt).toNat : Int) == (c.toNat : Int)) = true := by rw [hat, hc]; simp
        have HD : Hid (digI c = (k : Int)) := Lib.hid (by unfold digI; rw [hc, hexV_D hlt])
        clear hat hc
        go_wp2_with fail
        try simp only [Exit.inBlock, Exit.then]
        go_ret
        exact ⟨ret_int HD.out.symm, rfl⟩
      · have hq : ((((⟨#[48, 49, 50, 51, 52, 53, 54, 55, 56, 57, 97, 98, 99, 100, 101, 102]⟩ : ByteArray)[k]'hlt).toNat : Int) == (c.toNat : Int)) = false := by
          rw [hat, beq_eq_false_iff_ne]
          intro e
          exact hc (UInt8.toNat_inj.1 (by omega))
        have HN2 : Hid (∀ j, j < k + 1 → c ≠ hexD j) := Lib.hid fun j hj => by
          by_cases h : j < k
          · exact HNO.out j h
          · obtain rfl : j = k := by omega
            exact hc
        clear hat hc
        go_wp2_with fail
        exact ⟨⟨trivial, k + 1, by omega, by simp, HN2.out⟩, by simp [intOf]; omega⟩
    · obtain rfl : k = 16 := by omega
      have HD : Hid (digI c = -1) := Lib.hid (by unfold digI; rw [hexV_none HNO.out])
      clear hlt
      go_wp2_with fail
      go_ret
      exact ⟨ret_int HD.out.symm, rfl⟩
end Go.Proofs.YtiffmigihhcgcaaGreatDoor.ConW
namespace Go.Proofs.YtiffmigihhcgcaaGreatDoor.ConP
theorem hexP_app : ∀ (a b : Bs), a.length % 2 = 0 → hexP (a ++ b) = (hexP a).bind fun x => (hexP b).map fun y => x ++ y
  | [], b, _ => by simp [hexP]
  | [_], _, h => by simp at h
  | c :: d :: a, b, h => by
    have ih := hexP_app a b (by simp at h; omega)
    simp only [List.cons_append, hexP]
    rw [ih]
    cases hexV c with
    | none => rfl
    | some x =>
      cases hexV d with
      | none => rfl
      | some y =>
        cases hexP a with
        | none => rfl
        | some l =>
          simp only [Option.bind_some]
          cases hexP b <;> rfl
theorem hexP_len : ∀ {a r : Bs}, hexP a = some r → a.length = 2 * r.length
  | [], r, h => by simp [hexP] at h; subst h; rfl
  | [_], r, h => by simp [hexP] at h
  | c :: d :: a, r, h => by
    rw [hexP] at h
    cases hc : hexV c with
    | none => simp [hc] at h
    | some x =>
      cases hd : hexV d with
      | none => simp [hc, hd] at h
      | some y =>
        cases hl : hexP a with
        | none => simp [hc, hd, hl] at h
        | some l =>
          simp only [hc, hd, hl, Option.some.injEq] at h
          subst h
          have := hexP_len hl
          simp; omega
theorem hexP_two (c d : UInt8) : hexP [c, d] = match hexV c, hexV d with | some x, some y => some [UInt8.ofNat (16 * x + y)] | _, _ => none := by
  rw [hexP]
  cases hexV c <;> cases hexV d <;> rfl
/-- two digits more, behind an even number of them -/
theorem hexP_take {s : Bs} {m : Nat} (h : 2 * m + 2 ≤ s.length) : s.take (2 * m + 2) = s.take (2 * m) ++ [s.getD (2 * m) 0, s.getD (2 * m + 1) 0] := by
  rw [List.take_add_one, List.take_add_one, List.getElem?_eq_getElem (by omega), List.getElem?_eq_getElem (by omega)]
  rw [List.getD_eq_getElem?_getD, List.getD_eq_getElem?_getD, List.getElem?_eq_getElem (by omega), List.getElem?_eq_getElem (by omega)]
  simp only [Option.toList, List.append_assoc, List.cons_append, List.nil_append, Option.getD_some]
theorem hexP_yes {s acc : Bs} {m x y : Nat} (h : 2 * m + 2 ≤ s.length) (ha : hexP (s.take (2 * m)) = some acc) (hx : hexV (s.getD (2 * m) 0) = some x) (hy : hexV (s.getD (2 * m + 1) 0) = some y) :
    hexP (s.take (2 * (m + 1))) = some (acc ++ [UInt8.ofNat (16 * x + y)]) := by
  rw [show 2 * (m + 1) = 2 * m + 2 by omega, hexP_take h, hexP_app _ _ (by rw [List.length_take]; omega), ha, hexP_two, hx, hy]
  rfl
theorem hexP_no {s : Bs} {m : Nat} (h : 2 * m + 2 ≤ s.length) (hn : hexV (s.getD (2 * m) 0) = none ∨ hexV (s.getD (2 * m + 1) 0) = none) : hexP s = none := by
  have e : s = s.take (2 * m) ++ ([s.getD (2 * m) 0, s.getD (2 * m + 1) 0] ++ s.drop (2 * m + 2)) := by
    rw [← List.append_assoc, ← hexP_take h, List.take_append_drop]
  have h2 : hexP ([s.getD (2 * m) 0, s.getD (2 * m + 1) 0] ++ s.drop (2 * m + 2)) = none := by
    rw [hexP_app _ _ (by simp), hexP_two]
    rcases hn with hn | hn
    · rw [hn]; rfl
    · rw [hn]; cases hexV (s.getD (2 * m) 0) <;> rfl
  rw [e, hexP_app _ _ (by rw [List.length_take]; omega), h2]
  cases hexP (s.take (2 * m)) <;> rfl
theorem hexW_odd {w : Bs} (h1 : w ≠ [45]) (h2 : w.length % 2 = 1) : hexW w = none := by
  unfold hexW
  rw [if_neg h1, if_neg (by rintro rfl; simp at h2)]
  cases h : hexP w with
  | none => rfl
  | some r => have := hexP_len h; omega
end Go.Proofs.YtiffmigihhcgcaaGreatDoor.ConP
namespace Go.Proofs.YtiffmigihhcgcaaGreatDoor.ConW
open Go.RowKit ConP
open PathW (Strs strV strinfo ext_mid ext_drop str_list list_size)
theorem digit_is (c : UInt8) (v : Int) (h : digI c = v) (w : World) : Calls Tryz.prog 54 #[.int .u8 (c.toNat : Int)] w fun e w' => e = .returned (.int .i64 v) ∧ w = w' := by
  subst h; exact digit_any c w
theorem digI_none {c : UInt8} (h : hexV c = none) : digI c = -1 := by unfold digI; rw [h]
theorem digI_some {c : UInt8} {n : Nat} (h : hexV c = some n) : digI c = (n : Int) := by unfold digI; rw [h]
theorem u8_wrap (E : Int) : IntKind.u8.wrap E = E % 256 := by simp [IntKind.wrap, IntKind.signed, IntKind.bits]
theorem idx_next (s : ByteArray) (k : Nat) (h : k + 1 < s.size) (w : World) : (Instr.index 9 (.string s) (.int .i64 ((k : Int) + 1))).run Tryz.prog w = .ok (.int .u8 (s[k + 1].toNat : Int)) w := by
  rw [run_index_string w 9 s .i64 _ Tryz.underlying9, dif_pos ⟨by omega, by omega⟩]
  have e : ((k : Int) + 1).toNat = k + 1 := by omega
  simp only [e]
theorem u8info : (Tryz.prog.info? 5).map (fun i => (i.zero, i.size, i.bytes)) = some (some (.int .u8 0), 1, 1) := by kernel_rfl
/-- bytes of the call's own, as the walk converts them -/
theorem bytes_at {B n cap : Nat} {w : World} {oa : Option Addr} {l : Bs} (h : w.ownsRow B 5 1 (.slice oa n cap) l.length (Lib.byteCells l)) (hl : l ≠ []) : ∃ g, oa = some ⟨g, 0, none⟩ ∧ n = l.length ∧ BytesAt w g l.length (fun j => l.getD j 0) := by
  have hpos := List.length_pos_iff.2 hl
  rcases h.2 with ⟨h', h0⟩ | ⟨g, cap', cur, h', _⟩
  · omega
  · simp only [Value.slice.injEq] at h'
    obtain ⟨rfl, rfl, rfl⟩ := h'
    refine ⟨g, rfl, rfl, fun j hj => ⟨?_, h.frozenAt j⟩⟩
    rw [h.cellAt j (by omega)]
    simp [Lib.byteCells, List.getElem?_eq_getElem hj]
theorem bytesStr_list (l : Bs) : bytesStr l.length (fun j => l.getD j 0) = bs l := by
  apply ByteArray.ext
  apply Array.toList_inj.1
  rw [bytesStr_data]
  apply List.ext_getElem?
  intro j
  rw [List.getElem?_map]
  by_cases hj : j < l.length
  · rw [List.getElem?_range hj]
    show some (l.getD j 0) = l[j]?
    rw [List.getD_eq_getElem?_getD, List.getElem?_eq_getElem hj]; rfl
  · have e1 : (List.range l.length)[j]? = none := by rw [List.getElem?_eq_none_iff]; simpa using hj
    rw [e1]
    show none = l[j]?
    rw [List.getElem?_eq_none (by omega)]
def e32 (s : ByteArray) : Value := .tuple #[.string (bs ((hexW s.data.toList).getD [])), .bool (hexW s.data.toList).isSome]
set_option maxHeartbeats 1600000 in
theorem rbytes_any (s : ByteArray) (hs : s.size ≤ 1000000) (w : World) :
    Calls Tryz.prog 44 #[.string s] w fun e w' => e = .returned (.tuple #[.string (bs ((hexW s.data.toList).getD [])), .bool (hexW s.data.toList).isSome]) ∧ Below w.heap.size w w' := by
  have hlen := list_size s
  have HLEN := Lib.hid hlen
  have GET := Lib.hid (PathW.getD_at s)
  clear hlen
  by_cases h45 : s.data.toList = [45]
  · obtain rfl : s = ⟨#[45]⟩ := by apply ByteArray.ext; apply Array.toList_inj.1; exact h45
    go_enter Tryz.func44, Tryz.ntmps44
    go_wp2_with fail
    go_ret2
    exact ⟨rfl, Below.refl _ _⟩
  have hne : (s.toList == [45]) = false := by rw [Lib.toList_data, beq_eq_false_iff_ne]; exact h45
  by_cases h0 : s.size = 0 ∨ s.size % 2 = 1
  · have HW : Hid (hexW s.data.toList = none) := Lib.hid (by
      rcases h0 with h | h
      · have e : s.data.toList = [] := List.eq_nil_of_length_eq_zero (by rw [HLEN.out, h])
        rw [e]; rfl
      · exact hexW_odd h45 (by rw [HLEN.out]; exact h))
    have hcs : ((s.size : Int) == 0) = true ∨ (((s.size : Int) == 0) = false ∧ ((s.size : Int) % 2 == 1) = true) := by
      by_cases h : s.size = 0
      · left; rw [beq_iff_eq]; omega
      · right
        refine ⟨by rw [beq_eq_false_iff_ne]; omega, ?_⟩
        rw [beq_iff_eq]; omega
    clear h0 h45
    rcases hcs with h1 | ⟨h1, h2⟩
    all_goals
      go_enter Tryz.func44, Tryz.ntmps44
      go_wp2_with fail
      go_ret2
      exact ⟨by rw [HW.out]; rfl, Below.refl _ _⟩
  · obtain ⟨i0, hi, hz0, hz1, hz2⟩ := info_parts u8info
    have h1 : ((s.size : Int) == 0) = false := by rw [beq_eq_false_iff_ne]; omega
    have h2 : ((s.size : Int) % 2 == 1) = false := by rw [beq_eq_false_iff_ne]; omega
    obtain ⟨n, hn⟩ : ∃ n, s.size = 2 * n := ⟨s.size / 2, by omega⟩
    have HN2 := Lib.hid hn
    have HN1 : Hid (1 ≤ n) := Lib.hid (by omega)
    have HW : Hid (hexW s.data.toList = hexP s.data.toList) := Lib.hid (by
      unfold hexW
      rw [if_neg h45, if_neg (by intro e; have := HLEN.out; rw [e] at this; simp at this; omega)])
    clear h0 h45 hn
    go_enter Tryz.func44, Tryz.ntmps44
    go_wp2_with fail
    clear hne h1 h2
    go_loopw [4, 5] (fun v i wr => ∃ (k m : Nat) (acc : Bs), k = 2 * m ∧ m ≤ n ∧ i = .int .i64 (k : Int) ∧ hexP (s.data.toList.take (2 * m)) = some acc ∧ wr.ownsRow w.heap.size 5 1 v acc.length (Lib.byteCells acc) ∧ Below w.heap.size w wr) (fun _ i _ => s.size - (intOf i).toNat)
    case atStart => exact ⟨0, 0, [], rfl, by omega, rfl, rfl, World.ownsRow_nil _ _ _ _, Below.refl _ _⟩
    case round =>
      obtain ⟨k, m, acc, hkm, hm, rfl, hacc, hown, hbel⟩ := hrel
      obtain ⟨oa, cap, rfl⟩ := row_form hown
      have HOWN := Lib.hid hown
      have HB := Lib.hid hbel
      have HACC := Lib.hid hacc
      have HK := Lib.hid hkm
      have HAL : Hid (acc.length = m) := Lib.hid (by
        have := hexP_len hacc
        rw [List.length_take, HLEN.out] at this
        have := HN2.out
        omega)
      have hn2 := HN2.out
      clear hown hbel hacc
      by_cases hlt : m < n
      · have b0 : k < s.size := by omega
        have b1 : k + 1 < s.size := by omega
        have hk1 : (k : Int) < (s.size : Int) := by omega
        have hal : acc.length ≤ 1000000 := by have := HAL.out; omega
        have HG : Hid (s.data.toList.getD (2 * m) 0 = s[k] ∧ s.data.toList.getD (2 * m + 1) 0 = s[k + 1]) := Lib.hid (by
          have g0 := GET.out k b0
          have g1 := GET.out (k + 1) b1
          rw [← g0, ← g1, hkm]; exact ⟨rfl, rfl⟩)
        have HSL : Hid (2 * m + 2 ≤ s.data.toList.length) := Lib.hid (by rw [HLEN.out]; omega)
        have hix := idx_next s k b1
        have HM : Hid (m < n) := Lib.hid hlt
        clear hn2 hkm hlt hm
        cases hv1 : hexV s[k] with
        | none =>
          have HP : Hid (hexP s.data.toList = none) := Lib.hid (hexP_no HSL.out (.inl (by rw [HG.out.1]; exact hv1)))
          have HX := Lib.hid (digI_none hv1)
          obtain ⟨Y, hY⟩ : ∃ Y, digI s[k + 1] = Y := ⟨_, rfl⟩
          have HY := Lib.hid hY
          clear hv1 hY
          go_wp2_with fail
          go_quiet ((go_at_call 54; first | with_reducible exact quiet_left (digit_is _ _ HX.out _) | exact quiet_left (digit_is _ _ HY.out _)))
          go_wp2_with fail
          try simp only [Exit.inBlock, Exit.then]
          go_ret2
          exact ⟨by rw [HW.out, HP.out]; rfl, below_drewN HB.out _⟩
        | some x =>
          cases hv2 : hexV s[k + 1] with
          | none =>
            have HP : Hid (hexP s.data.toList = none) := Lib.hid (hexP_no HSL.out (.inr (by rw [HG.out.2]; exact hv2)))
            have HX := Lib.hid (digI_some hv1)
            have HY := Lib.hid (digI_none hv2)
            have hx0 : decide ((x : Int) < 0) = false := decide_eq_false (by omega)
            clear hv1 hv2
            go_wp2_with fail
            go_quiet ((go_at_call 54; first | with_reducible exact quiet_left (digit_is _ _ HX.out _) | exact quiet_left (digit_is _ _ HY.out _)))
            go_wp2_with fail
            try simp only [Exit.inBlock, Exit.then]
            go_ret2
            exact ⟨by rw [HW.out, HP.out]; rfl, below_drewN HB.out _⟩
          | some y =>
            have hx16 := (hexD_V hv1).1
            have hy16 := (hexD_V hv2).1
            have HX := Lib.hid (digI_some hv1)
            have HY := Lib.hid (digI_some hv2)
            obtain ⟨b, hb⟩ : ∃ b, b = UInt8.ofNat (16 * x + y) := ⟨_, rfl⟩
            have HP := Lib.hid (hexP_yes HSL.out HACC.out (by rw [HG.out.1]; exact hv1) (by rw [HG.out.2]; exact hv2))
            rw [← hb] at HP
            have hx0 : decide ((x : Int) < 0) = false := decide_eq_false (by omega)
            have hy0 : decide ((y : Int) < 0) = false := decide_eq_false (by omega)
            have e1 : IntKind.i64.wrap (16 * (x : Int)) = 16 * (x : Int) := IntWalk.i64_in _ (by omega)
            have e2 : IntKind.i64.wrap (16 * (x : Int) + (y : Int)) = 16 * (x : Int) + (y : Int) := IntWalk.i64_in _ (by omega)
            have e3 : IntKind.u8.wrap (16 * (x : Int) + (y : Int)) = (b.toNat : Int) := by rw [u8_wrap, hb, UInt8.toNat_ofNat']; omega
            have HBC : Hid (Lib.byteCells (acc ++ [b]) = Lib.byteCells acc ++ [.int .u8 (b.toNat : Int)]) := Lib.hid (by rw [Lib.byteCells_append]; rfl)
            clear hv1 hv2 hb
            go_wp2_with fail
            go_quiet ((go_at_call 54; first | with_reducible exact quiet_left (digit_is _ _ HX.out _) | exact quiet_left (digit_is _ _ HY.out _)))
            have HOWN2 : Hid ((wr.drewN nq).ownsRow w.heap.size 5 1 (.slice oa acc.length cap) acc.length (Lib.byteCells acc)) := Lib.hid HOWN.out
            have HB2 : Hid (Below w.heap.size w (wr.drewN nq)) := Lib.hid (below_drewN HB.out _)
            generalize wr.drewN nq = w2 at *
            go_wp2_with (at_builtin; go_loud (refine wpList_append_new rfl _ _ 79 rfl w.heap.size 5 i0 (.int .u8 0) 1 1 Tryz.underlying79 hi hz0 hz1 hz2 rfl (by decide) _ _ _ (by rfl) HOWN2.out 1 1 (by rfl) rfl (by simp; rfl) (by unfold maxLen; omega) (by omega) HB2.out.size ?_; intro oa2 cap2 w5 hown5 hbel5 _; have HS5 := Lib.hid hown5; have HB5 := Lib.hid (HB2.out.trans hbel5); clear hown5 hbel5))
            have hkk := HK.out
            have hmm := HM.out
            exact ⟨⟨k + 2, m + 1, acc ++ [b], by omega, by omega, by simp, HP.out, by rw [HBC.out, List.length_append]; exact HS5.out, HB5.out⟩, by simp [intOf]; omega⟩
      · obtain rfl : m = n := by omega
        have HP : Hid (hexP s.data.toList = some acc) := Lib.hid (by
          have := HACC.out
          rw [List.take_of_length_le (by rw [HLEN.out]; omega)] at this
          exact this)
        have hk1 : decide ((k : Int) < (s.size : Int)) = false := decide_eq_false (by omega)
        have hne : acc ≠ [] := by
          intro e
          have h8 := HAL.out
          have h9 := HN1.out
          rw [e, List.length_nil] at h8
          omega
        obtain ⟨g, hg, hnl, hba⟩ := bytes_at HOWN.out hne
        subst hg
        have hcv := conv_of_bytes (P := Tryz.prog) wr 79 9 5 g acc.length cap _ Tryz.underlying79 Tryz.underlying5 Tryz.underlying9 hba
        rw [bytesStr_list] at hcv
        obtain ⟨r, hr⟩ : ∃ r, r = bs acc := ⟨_, rfl⟩
        rw [← hr] at hcv
        have HR : Hid (e32 s = .tuple #[.string r, .bool true]) := Lib.hid (by unfold e32; rw [HW.out, HP.out, hr]; rfl)
        obtain ⟨z, hz⟩ : ∃ z : Int, z = (k : Int) := ⟨_, rfl⟩
        obtain ⟨q, hq⟩ : ∃ q, q = acc.length := ⟨_, rfl⟩
        rw [← hq] at hcv
        rw [← hz, ← hq]
        rw [← hz] at hk1
        clear hn2 hlt hm hkm hne hnl hba hr HOWN HACC HK HAL hq hz HN1 HN2
        go_wp2_with fail
        go_ret2
        exact ⟨congrArg Ending.returned HR.out.symm, HB.out⟩
end Go.Proofs.YtiffmigihhcgcaaGreatDoor.ConW
