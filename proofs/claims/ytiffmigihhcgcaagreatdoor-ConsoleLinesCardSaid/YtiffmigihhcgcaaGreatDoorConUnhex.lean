/- console.unhex. -/
import Derived.Test.YtiffmigihhcgcaaGreatDoorConHex
import Derived.Shelf.Strings.SlTrimAscii
namespace Go.Proofs.YtiffmigihhcgcaaGreatDoor.ConP
open ConW (digS digI digS_at hexV_none digI_none digI_some)
theorem dig_list : digS.data.toList = [48, 49, 50, 51, 52, 53, 54, 55, 56, 57, 97, 98, 99, 100, 101, 102] := rfl
theorem contains_hex (c : UInt8) : digS.data.toList.contains c = (hexV c).isSome := by
  cases h : hexV c with
  | some n =>
    obtain ⟨h1, h2⟩ := hexD_V h
    rw [← h2]
    have : ∀ k : Fin 16, digS.data.toList.contains (hexD k.val) = true := by decide
    exact this ⟨n, h1⟩
  | none =>
    rw [dig_list]
    show List.contains _ c = false
    rw [List.contains_eq_any_beq, List.any_eq_false]
    intro x hx he
    have e : c = x := by simpa using he
    subst e
    simp only [List.mem_cons, List.not_mem_nil, or_false] at hx
    rcases hx with rfl | rfl | rfl | rfl | rfl | rfl | rfl | rfl | rfl | rfl | rfl | rfl | rfl | rfl | rfl | rfl <;> exact absurd h (by decide)
theorem index_hex (c : UInt8) : Lib.indexByte digS.data.toList c = digI c := by
  cases h : hexV c with
  | some n =>
    obtain ⟨h1, h2⟩ := hexD_V h
    rw [digI_some h, ← h2]
    have : ∀ k : Fin 16, Lib.indexByte digS.data.toList (hexD k.val) = (k.val : Int) := by decide
    exact this ⟨n, h1⟩
  | none =>
    rw [digI_none h]
    have hc := contains_hex c
    rw [h] at hc
    have key : ∀ l : Bs, l.contains c = false → Lib.indexByte l c = -1 := by
      intro l
      induction l with
      | nil => intro _; rfl
      | cons b l ih =>
        intro hl
        rw [List.contains_cons, Bool.or_eq_false_iff] at hl
        rw [Lib.indexByte, ih hl.2]
        have : (b == c) = false := by rw [beq_eq_false_iff_ne]; intro e; have := hl.1; rw [e] at this; simp at this
        rw [this]; rfl
    exact key _ hc
theorem take_all (p : UInt8 → Bool) : ∀ (l : Bs) (c : UInt8), c ∈ l.takeWhile p → p c = true
  | [], _, h => by simp at h
  | a :: l, c, h => by
    rw [List.takeWhile_cons] at h
    cases ha : p a with
    | false => simp [ha] at h
    | true =>
      rw [ha] at h
      rcases List.mem_cons.1 h with rfl | h
      · exact ha
      · exact take_all p l c h
theorem drop_all (p : UInt8 → Bool) : ∀ l : Bs, l.dropWhile p = [] ↔ ∀ c ∈ l, p c = true
  | [] => by simp
  | a :: l => by
    rw [List.dropWhile_cons]
    cases ha : p a with
    | true =>
      rw [if_pos rfl, drop_all p l]
      exact ⟨fun h c hc => by rcases List.mem_cons.1 hc with rfl | hc; exact ha; exact h c hc, fun h c hc => h c (by simp [hc])⟩
    | false =>
      rw [if_neg (by decide)]
      exact ⟨fun h => by simp at h, fun h => by have := h a (by simp); rw [ha] at this; cases this⟩
theorem trim_free (p : UInt8 → Bool) (l : Bs) : (l.reverse.dropWhile p).reverse.dropWhile p = [] ↔ ∀ c ∈ l, p c = true := by
  rw [drop_all]
  constructor
  · intro h c hc
    have e := List.takeWhile_append_dropWhile (p := p) (l := l.reverse)
    have hr : c ∈ l.reverse := by simpa using hc
    rw [← e, List.mem_append] at hr
    rcases hr with hr | hr
    · exact take_all p _ _ hr
    · exact h c (by simpa using hr)
  · intro h c hc
    have h1 : c ∈ l.reverse.dropWhile p := by simpa using hc
    have h2 := (List.dropWhile_suffix p).subset h1
    exact h c (by simpa using h2)
/-- what is trimmed off whole -/
theorem trim_all (l : Bs) : Lib.trimS l digS.data.toList = [] ↔ ∀ c ∈ l, (hexV c).isSome = true := by
  have e : (digS.data.toList.contains ·) = fun c => (hexV c).isSome := by funext c; exact contains_hex c
  unfold Lib.trimS Lib.trimLeftS Lib.trimRightS
  rw [e]
  exact trim_free _ l
theorem hexP_all : ∀ {l : Bs}, l.length % 2 = 0 → (∀ c ∈ l, (hexV c).isSome = true) → ∃ r, hexP l = some r
  | [], _, _ => ⟨[], rfl⟩
  | [_], h, _ => by simp at h
  | a :: b :: l, h, hc => by
    obtain ⟨r, hr⟩ := hexP_all (l := l) (by simp at h; omega) fun c h => hc c (by simp [h])
    have ha := hc a (by simp)
    have hb := hc b (by simp)
    rw [hexP, hr]
    cases hx : hexV a with
    | none => rw [hx] at ha; cases ha
    | some x =>
      cases hy : hexV b with
      | none => rw [hy] at hb; cases hb
      | some y => exact ⟨_, rfl⟩
theorem hexP_digits : ∀ {l r : Bs}, hexP l = some r → ∀ c ∈ l, (hexV c).isSome = true
  | [], _, _ => by simp
  | [_], _, h => by simp [hexP] at h
  | a :: b :: l, r, h => by
    rw [hexP] at h
    cases hx : hexV a with
    | none => simp [hx] at h
    | some x =>
      cases hy : hexV b with
      | none => simp [hx, hy] at h
      | some y =>
        cases hl : hexP l with
        | none => simp [hx, hy, hl] at h
        | some q =>
          intro c hc
          rcases List.mem_cons.1 hc with rfl | hc
          · rw [hx]; rfl
          · rcases List.mem_cons.1 hc with rfl | hc
            · rw [hy]; rfl
            · exact hexP_digits hl c hc
/-- a byte of what was read -/
theorem hexP_at : ∀ {l r : Bs} {i : Nat}, hexP l = some r → i < r.length → ∃ x y, hexV (l.getD (2 * i) 0) = some x ∧ hexV (l.getD (2 * i + 1) 0) = some y ∧ r.getD i 0 = UInt8.ofNat (16 * x + y)
  | [], r, i, h, hi => by simp [hexP] at h; subst h; simp at hi
  | [_], r, i, h, _ => by simp [hexP] at h
  | a :: b :: l, r, i, h, hi => by
    rw [hexP] at h
    cases hx : hexV a with
    | none => simp [hx] at h
    | some x =>
      cases hy : hexV b with
      | none => simp [hx, hy] at h
      | some y =>
        cases hl : hexP l with
        | none => simp [hx, hy, hl] at h
        | some q =>
          simp only [hx, hy, hl, Option.some.injEq] at h
          subst h
          cases i with
          | zero => exact ⟨x, y, hx, hy, rfl⟩
          | succ i =>
            obtain ⟨x', y', h1, h2, h3⟩ := hexP_at (i := i) hl (by simpa using hi)
            refine ⟨x', y', ?_, ?_, ?_⟩
            · rw [show 2 * (i + 1) = 2 * i + 1 + 1 by omega]; simpa using h1
            · rw [show 2 * (i + 1) + 1 = 2 * i + 1 + 1 + 1 by omega]; simpa using h2
            · simpa using h3
end Go.Proofs.YtiffmigihhcgcaaGreatDoor.ConP
namespace Go.Proofs.YtiffmigihhcgcaaGreatDoor.ConW
set_option maxRecDepth 100000
open Go.RowKit ConP
open PathW (Strs strV strinfo ext_mid ext_drop str_list list_size)
theorem idx_even (s : ByteArray) (k : Nat) (h : 2 * k < s.size) (w : World) : (Instr.index 9 (.string s) (.int .i64 (2 * (k : Int)))).run Tryz.prog w = .ok (.int .u8 (s[2 * k].toNat : Int)) w := by
  rw [run_index_string w 9 s .i64 _ Tryz.underlying9, dif_pos ⟨by omega, by omega⟩]
  have e : (2 * (k : Int)).toNat = 2 * k := by omega
  simp only [e]
theorem idx_odd (s : ByteArray) (k : Nat) (h : 2 * k + 1 < s.size) (w : World) : (Instr.index 9 (.string s) (.int .i64 (2 * (k : Int) + 1))).run Tryz.prog w = .ok (.int .u8 (s[2 * k + 1].toNat : Int)) w := by
  rw [run_index_string w 9 s .i64 _ Tryz.underlying9, dif_pos ⟨by omega, by omega⟩]
  have e : (2 * (k : Int) + 1).toNat = 2 * k + 1 := by omega
  simp only [e]
theorem or_fin : ∀ x y : Fin 16, IntKind.u8.wrap (bits .or .i64 (IntKind.i64.wrap ((x.val : Int) * 16)) (y.val : Int)) = ((UInt8.ofNat (16 * x.val + y.val)).toNat : Int) := by decide +kernel
theorem or_is {x y : Nat} (hx : x < 16) (hy : y < 16) : IntKind.u8.wrap (bits .or .i64 (IntKind.i64.wrap ((x : Int) * 16)) (y : Int)) = ((UInt8.ofNat (16 * x + y)).toNat : Int) := or_fin ⟨x, hx⟩ ⟨y, hy⟩
theorem trim_any (s : ByteArray) (hs : s.size ≤ 1000000) (w : World) : Calls Tryz.prog 58 #[.string s, .string ⟨#[48, 49, 50, 51, 52, 53, 54, 55, 56, 57, 97, 98, 99, 100, 101, 102]⟩] w fun e w' => e = .returned (.string ⟨(Lib.trimS s.data.toList digS.data.toList).toArray⟩) ∧ Below w.heap.size w w' :=
  Any.strings_Trim_laid Tryz.trimL (by kernel_rfl) s digS w (by omega) (by decide) (ascii_of_all (by decide))
theorem index_is2 (c : UInt8) (v : Int) (h : digI c = v) (w : World) : Calls Tryz.prog 59 #[.string ⟨#[48, 49, 50, 51, 52, 53, 54, 55, 56, 57, 97, 98, 99, 100, 101, 102]⟩, .int .u8 (c.toNat : Int)] w fun e w' => e = .returned (.int .i64 v) ∧ w = w' := by
  have q := Tryz.strings_IndexByte digS (c.toNat : Int) w
  have e : ((c.toNat : Int).toNat.toUInt8) = c := by simp
  rw [e, index_hex, h] at q
  exact q.mono fun _ _ ⟨h1, h2⟩ => ⟨h1, h2.symm⟩
set_option maxHeartbeats 1600000 in
theorem unhex_any (s : ByteArray) (hs : s.size ≤ 1000000) (w : World) :
    Calls Tryz.prog 49 #[.string s] w fun e w' => e = .returned (e32 s) ∧ Below w.heap.size w w' := by
  have hlen := list_size s
  have HLEN := Lib.hid hlen
  have GET := Lib.hid (PathW.getD_at s)
  clear hlen
  by_cases h45 : s.data.toList = [45]
  · obtain rfl : s = ⟨#[45]⟩ := by apply ByteArray.ext; apply Array.toList_inj.1; exact h45
    go_enter Tryz.func49, Tryz.ntmps49
    go_wp2_with fail
    go_ret2
    exact ⟨rfl, Below.refl _ _⟩
  have hne : (s.toList == [45]) = false := by rw [Lib.toList_data, beq_eq_false_iff_ne]; exact h45
  by_cases h0 : s.size = 0
  · have HW : Hid (e32 s = .tuple #[.string ⟨#[]⟩, .bool false]) := Lib.hid (by
      have e : s.data.toList = [] := List.eq_nil_of_length_eq_zero (by rw [HLEN.out, h0])
      unfold e32; rw [e]; rfl)
    obtain ⟨n1, n2, n3⟩ := no_bytes h0
    clear h0 h45
    go_enter Tryz.func49, Tryz.ntmps49
    go_wp2_with fail
    go_ret2
    exact ⟨congrArg Ending.returned HW.out.symm, Below.refl _ _⟩
  · obtain ⟨n1, n2⟩ := some_bytes (s := s) (by omega)
    by_cases h1 : s.size % 2 = 1
    · have HW : Hid (e32 s = .tuple #[.string ⟨#[]⟩, .bool false]) := Lib.hid (by
        unfold e32; rw [hexW_odd h45 (by rw [HLEN.out]; exact h1)]; rfl)
      have h2 : ((s.size : Int) % 2 != 0) = true := by rw [bne_iff_ne]; omega
      clear h0 h1 h45
      go_enter Tryz.func49, Tryz.ntmps49
      go_wp2_with fail
      go_ret2
      exact ⟨congrArg Ending.returned HW.out.symm, Below.refl _ _⟩
    · have h2 : ((s.size : Int) % 2 != 0) = false := by rw [bne_eq_false_iff_eq]; omega
      obtain ⟨n, hn⟩ : ∃ n, s.size = 2 * n := ⟨s.size / 2, by omega⟩
      by_cases ht : Lib.trimS s.data.toList digS.data.toList = []
      · obtain ⟨r, hr⟩ := hexP_all (l := s.data.toList) (by rw [HLEN.out]; omega) ((trim_all _).1 ht)
        have HHP := Lib.hid hr
        have HRL : Hid (r.length = n) := Lib.hid (by have := hexP_len hr; rw [HLEN.out] at this; omega)
        have HW : Hid (e32 s = .tuple #[.string (bs r), .bool true]) := Lib.hid (by
          unfold e32 hexW
          rw [if_neg h45, if_neg (by intro e; have := HLEN.out; rw [e] at this; simp at this; omega), hr]; rfl)
        have HN2 := Lib.hid hn
        have HT := Lib.hid ht
        have hdv : (s.size : Int) / 2 = (n : Int) := by omega
        have hn6 : n ≤ 1000000 := by omega
        clear h0 h1 h45 hr ht hn
        go_enter Tryz.func49, Tryz.ntmps49
        go_wp2_with (go_at_call 58; refine (trim_any s hs _).mono ?_; rintro e w1 ⟨rfl, hb1⟩; rw [HT.out]; have HB1 := Lib.hid hb1; clear hb1; obtain ⟨w2, hmk, hrow2, hbel2, hsz2⟩ := make_bytes (P := Tryz.prog) w1 79 5 Tryz.underlying79 (by kernel_rfl) n (by omega); have HROW2 := Lib.hid hrow2; have HB2 := Lib.hid (bstep HB1.out hbel2); clear hrow2 hbel2 hsz2)
        clear hmk hdv hne n1 n2 h2
        obtain ⟨g, hg⟩ : ∃ g, g = w1.heap.size := ⟨_, rfl⟩
        have HG : Hid (w.heap.size ≤ g) := Lib.hid (by rw [hg]; exact HB1.out.size)
        rw [← hg] at HROW2
        rw [← hg]
        clear hg HB1
        go_loopw [5, 27] (fun i c wr => ∃ (k : Nat) (f : Nat → UInt8), k ≤ n ∧ c = .int .i64 (k : Int) ∧ BytesAt wr g n f ∧ (∀ j, j < k → f j = r.getD j 0) ∧ Below w.heap.size w wr) (fun _ c _ => ((n : Int) - intOf c).toNat)
        case atStart => exact ⟨0, _, by omega, rfl, HROW2.out, fun j hj => by omega, HB2.out⟩
        case round =>
          clear HROW2 HB2
          obtain ⟨k, f, hk, rfl, hrow, hf, hbel⟩ := hrel
          have HROW := Lib.hid hrow
          have HF := Lib.hid hf
          have HB := Lib.hid hbel
          clear hrow hf hbel
          by_cases hlt : k < n
          · have hk1 : (k : Int) < (n : Int) := by omega
            have hk0 : (0 : Int) ≤ (k : Int) := by omega
            have hs2 := HN2.out
            have hrl := HRL.out
            have b0 : 2 * k < s.size := by omega
            have b1 : 2 * k + 1 < s.size := by omega
            obtain ⟨x, y, hx, hy, hxy⟩ := hexP_at HHP.out (i := k) (by omega)
            rw [GET.out _ b0] at hx
            rw [GET.out _ b1] at hy
            obtain ⟨g0, g1⟩ := HROW.out k hlt
            have HX := Lib.hid (digI_some hx)
            have HY := Lib.hid (digI_some hy)
            have hx16 := (hexD_V hx).1
            have hy16 := (hexD_V hy).1
            have hi1 := idx_even s k b0
            have hi2 := idx_odd s k b1
            have e1 : IntKind.i64.wrap (2 * (k : Int)) = 2 * (k : Int) := IntWalk.i64_in _ (by omega)
            have e2 : IntKind.i64.wrap (2 * (k : Int) + 1) = 2 * (k : Int) + 1 := IntWalk.i64_in _ (by omega)
            have HXY := Lib.hid hxy
            clear hs2 hrl hx hy hxy
            go_wp2_with fail
            go_still_tail 17, (by kernel_rfl)
            still_call (still_of (index_is2 _ _ HX.out _))
            repeat still_step
            still_call (still_of (index_is2 _ _ HY.out _))
            repeat still_step
            refine wpStill_nil ?_
            change wpList _ _ _ _ _ (World.drew _)
            rw [or_is hx16 hy16]
            obtain ⟨v, hv⟩ : ∃ v, v = UInt8.ofNat (16 * x + y) := ⟨_, rfl⟩
            rw [← hv]
            rw [← hv] at HXY
            obtain ⟨g2, g3⟩ := HROW.out.drew k hlt
            have HROW3 := Lib.hid (HROW.out.drew.set k hlt v)
            have HB3 : Hid (Below w.heap.size w (wr.drew.setCell ⟨g, k, none⟩ (.int .u8 (v.toNat : Int)))) := Lib.hid (HB.out.drew.setCell (p := ⟨g, k, none⟩) HG.out _)
            have HF3 : Hid (∀ j, j < k + 1 → (if j = k then v else f j) = r.getD j 0) := Lib.hid fun j hj => by
              by_cases h : j = k
              · rw [if_pos h, h, HXY.out]
              · rw [if_neg h]; exact HF.out j (by omega)
            clear hv g0 g1 hi1 hi2 e1 e2
            go_wp2_with fail
            exact ⟨⟨k + 1, _, by omega, by simp, HROW3.out, HF3.out, HB3.out⟩, by simp [intOf]; omega⟩
          · obtain rfl : k = n := by omega
            have hk1 : decide ((k : Int) < (k : Int)) = false := decide_eq_false (by omega)
            have hrl := HRL.out
            have hcv := conv_of_bytes (P := Tryz.prog) wr 79 9 5 g k k f Tryz.underlying79 Tryz.underlying5 Tryz.underlying9 HROW.out
            have he : bytesStr k f = bs r := by
              rw [← bytesStr_list r, hrl]
              unfold bytesStr
              congr 2
              exact List.map_congr_left fun j hj => HF.out j (by simpa using hj)
            rw [he] at hcv
            obtain ⟨q, hq⟩ : ∃ q, q = bs r := ⟨_, rfl⟩
            have HW2 : Hid (e32 s = .tuple #[.string q, .bool true]) := Lib.hid (by rw [hq]; exact HW.out)
            rw [← hq] at hcv
            clear hlt hk hrl he hq
            go_wp2_with fail
            go_ret2
            exact ⟨congrArg Ending.returned HW2.out.symm, HB.out⟩
      · have HW : Hid (e32 s = .tuple #[.string ⟨#[]⟩, .bool false]) := Lib.hid (by
          unfold e32 hexW
          rw [if_neg h45]
          split
          · rfl
          · cases hp : hexP s.data.toList with
            | none => rfl
            | some r => exact absurd ((trim_all _).2 (hexP_digits hp)) ht)
        obtain ⟨q, hq⟩ : ∃ q : ByteArray, q = ⟨(Lib.trimS s.data.toList digS.data.toList).toArray⟩ := ⟨_, rfl⟩
        have hqs : 0 < q.size := by
          rw [hq]
          show 0 < (Lib.trimS s.data.toList digS.data.toList).toArray.size
          simpa using List.length_pos_iff.2 ht
        obtain ⟨m1, m2⟩ := some_bytes hqs
        have HQ := Lib.hid hq
        clear h0 h1 h45 ht hn hq hqs
        go_enter Tryz.func49, Tryz.ntmps49
        go_wp2_with (go_at_call 58; refine (trim_any s hs _).mono ?_; rintro e w1 ⟨rfl, hb1⟩; rw [← HQ.out]; have HB1 := Lib.hid hb1; clear hb1)
        go_ret2
        exact ⟨congrArg Ending.returned HW.out.symm, HB1.out⟩
end Go.Proofs.YtiffmigihhcgcaaGreatDoor.ConW
