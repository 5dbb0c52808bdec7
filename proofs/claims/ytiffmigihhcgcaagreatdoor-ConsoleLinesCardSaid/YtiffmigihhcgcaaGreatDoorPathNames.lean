/- path.names. -/
import Derived.Test.YtiffmigihhcgcaaGreatDoorPathPlain
import Derived.Test.YtiffmigihhcgcaaGreatDoorAppend
import Derived.WalkMore
import Derived.Deep.LoopGhost
namespace Go.Proofs.YtiffmigihhcgcaaGreatDoor.PathW
open Go.RowKit
set_option maxRecDepth 100000
theorem strinfo : (Tryz.prog.info? 9).map (fun i => (i.zero, i.size, i.bytes)) = some (some (.string ⟨#[]⟩), 1, 16) := by kernel_rfl
def strV (l : List UInt8) : Value := .string ⟨l.toArray⟩
/-- a slice of strings of the call's own -/
def Strs (B : Nat) (w : World) (v : Value) (l : List (List UInt8)) : Prop := w.ownsRow B 9 1 v l.length (l.map strV)
set_option maxHeartbeats 400000 in
theorem names_root (w : World) : Calls Tryz.prog 57 #[.string ⟨#[47]⟩] w fun e w' => e = .returned (.tuple #[.slice none 0 0, .bool true]) ∧ w = w' := by
  go_enter Tryz.func57, Tryz.ntmps57
  go_wp2
  go_step3
  go_wp2
  rw [Exit.noGoto_ret]
  go_ret2
  exact ⟨rfl, rfl⟩
theorem endI_full (l : List UInt8) (h : ¬ endI l < l.length) : endI l = l.length := by have := endI_le l; omega
theorem index_is (s : ByteArray) (w : World) :
    Calls Tryz.prog 59 #[.string s, .int .u8 47] w fun e w' => e = .returned (.int .i64 (if endI s.data.toList < s.data.toList.length then (endI s.data.toList : Int) else -1)) ∧ w = w' := by
  have h := Tryz.strings_IndexByte s 47 w
  rw [show ((47 : Int).toNat.toUInt8) = 47 from rfl, index_end] at h
  exact h.mono fun e w' ⟨h1, h2⟩ => ⟨h1, h2.symm⟩
theorem index_yes (s : ByteArray) (k : Nat) (hk : endI s.data.toList = k) (h : k < s.size) (w : World) :
    Calls Tryz.prog 59 #[.string s, .int .u8 47] w fun e w' => e = .returned (.int .i64 (k : Int)) ∧ w = w' := by
  have h0 := index_is s w
  rwa [if_pos (by simp; omega), hk] at h0
theorem index_no (s : ByteArray) (k : Nat) (hk : endI s.data.toList = k) (h : k = s.size) (w : World) :
    Calls Tryz.prog 59 #[.string s, .int .u8 47] w fun e w' => e = .returned (.int .i64 (-1)) ∧ w = w' := by
  have h0 := index_is s w
  rwa [if_neg (by simp; omega)] at h0
theorem name_is (s : ByteArray) (b : Bool) (hb : nameB s.data.toList = b) (hs : s.size ≤ 9223372036854775807) (w : World) :
    Calls Tryz.prog 72 #[.string s] w fun e w' => e = .returned (.bool b) ∧ w = w' := by
  rw [← hb]; exact name_any s hs w
/-- the length of a slot's text -/
def sizeS : Value → Nat
  | .string s => s.size
  | _ => 0
theorem ext_tail (q : ByteArray) : (q.extract 1 q.size).data.toList = q.data.toList.drop 1 := by
  rw [ByteArray.data_extract, Array.toList_extract, List.extract_eq_take_drop, List.take_of_length_le (by simp)]
theorem ext_drop (q : ByteArray) (k : Nat) : (q.extract k q.size).data.toList = q.data.toList.drop k := by
  rw [ByteArray.data_extract, Array.toList_extract, List.extract_eq_take_drop, List.take_of_length_le (by simp)]
theorem ext_take (q : ByteArray) (k : Nat) : (q.extract 0 k).data.toList = q.data.toList.take k := by
  rw [ByteArray.data_extract, Array.toList_extract, List.extract_eq_take_drop]; simp
theorem str_list (s : ByteArray) : Value.string s = strV s.data.toList := rfl
theorem list_size (q : ByteArray) : q.data.toList.length = q.size := by simp
theorem head_list (q : ByteArray) (h : 0 < q.size) : q.data.toList = q[0] :: (q.extract 1 q.size).data.toList := by
  rw [ext_tail]
  have hl := list_size q
  have h0 : q.data.toList[0]'(by omega) = q[0] := rfl
  rw [← h0]
  conv => lhs; rw [← List.drop_zero (l := q.data.toList), List.drop_eq_getElem_cons (by omega)]
theorem Strs.form {B : Nat} {w : World} {v : Value} {l : List (List UInt8)} (h : Strs B w v l) : ∃ oa cap, v = .slice oa l.length cap := by
  rcases h.2 with ⟨rfl, h0⟩ | ⟨g, cap, cur, rfl, _⟩
  · exact ⟨none, 0, by rw [h0]⟩
  · exact ⟨_, _, rfl⟩
theorem Strs.snoc {B : Nat} {w : World} {oa : Option Addr} {cap : Nat} {l : List (List UInt8)} {s : ByteArray} {x : List UInt8} (hx : Value.string s = strV x)
    (h : w.ownsRow B 9 1 (.slice oa (l.length + 1) cap) (l.length + 1) (l.map strV ++ (#[Value.string s] : Array Value).toList)) : Strs B w (.slice oa (l.length + 1) cap) (l ++ [x]) := by
  unfold Strs
  rw [List.length_append, List.map_append]
  rw [hx] at h
  exact h
set_option maxHeartbeats 1600000 in
theorem names_other (p : ByteArray) (hp : p.data.toList ≠ [47]) (hs : p.size ≤ 140737488355328) (w : World) :
    Calls Tryz.prog 57 #[.string p] w fun e w' => ∃ v, e = .returned (.tuple #[v, .bool (namesR p.data.toList).isSome]) ∧ Strs w.heap.size w' v ((namesR p.data.toList).getD []) ∧ Below w.heap.size w w' := by
  obtain ⟨i0, hi, hz0, hz1, hz2⟩ := info_parts strinfo
  have hne : (p.toList == [47]) = false := by rw [Lib.toList_data, beq_eq_false_iff_ne]; exact hp
  have HC0 := Lib.hid (cont_start p.data.toList hp)
  have NONE : Hid (∀ W : World, Below w.heap.size w W → namesR p.data.toList = none → ∃ v, (Ending.returned (.tuple #[.slice none 0 0, .bool false])) = .returned (.tuple #[v, .bool (namesR p.data.toList).isSome]) ∧ Strs w.heap.size W v ((namesR p.data.toList).getD []) ∧ Below w.heap.size w W) := Lib.hid fun W hW hn => by
    rw [hn]; exact ⟨_, rfl, ⟨rfl, .inl ⟨rfl, rfl⟩⟩, hW⟩
  generalize hN : namesR p.data.toList = N at *
  have HN := Lib.hid hN
  clear hp hN
  go_enter Tryz.func57, Tryz.ntmps57
  go_wp2
  go_step3
  go_wp2
  go_step3
  go_wp2
  clear hne
  go_loopw [0, 4] (fun x l wr => ∃ (q : ByteArray) (acc : List (List UInt8)), x = .string q ∧ Strs w.heap.size wr l acc ∧ acc.length ≤ 8 ∧ q.size ≤ 140737488355328 ∧ cont acc q.data.toList = N ∧ Below w.heap.size w wr) (fun x _ _ => sizeS x)
  case atStart => exact ⟨p, [], rfl, ⟨rfl, .inl ⟨rfl, rfl⟩⟩, by simp, hs, HC0.out, Below.refl _ _⟩
  case round =>
    obtain ⟨q, acc, rfl, hstr, hacc, hqs, hcont, hbel⟩ := hrel
    obtain ⟨oa, cap, rfl⟩ := hstr.form
    have HOWN : Hid (wr.ownsRow w.heap.size 9 1 (.slice oa acc.length cap) acc.length (acc.map strV)) := Lib.hid hstr
    have HC := Lib.hid hcont
    have HB := Lib.hid hbel
    clear hstr hcont hbel
    by_cases h0 : q.size = 0
    · obtain ⟨n1, n2, n3⟩ := no_bytes h0
      have hq0 : Hid (q.data.toList = []) := Lib.hid (List.eq_nil_of_length_eq_zero (by simpa using h0))
      clear h0
      go_wp2
      rw [Exit.noGoto_ret]
      go_ret2
      exact NONE.out _ HB.out (by rw [← HC.out, hq0.out]; rfl)
    · have hpos : 0 < q.size := by omega
      obtain ⟨n1, n2⟩ := some_bytes hpos
      have hhead := head_list q hpos
      clear h0
      by_cases hc : q[0] = 47
      · have hb : ((q[0].toNat : Int) != 47) = false := by rw [hc]; rfl
        rw [hc] at hhead
        clear hc
        by_cases hfull : acc.length = 8
        · have hb8 : ((acc.length : Int) == 8) = true := by rw [hfull]; rfl
          have HX : Hid (N = none) := Lib.hid (by rw [← HC.out, hhead]; exact cont_full _ _ (by omega))
          clear hfull hhead
          go_wp2
          rw [Exit.noGoto_ret]
          go_ret2
          exact NONE.out _ HB.out HX.out
        · have hb8 : ((acc.length : Int) == 8) = false := by rw [beq_eq_false_iff_ne]; omega
          have hacc7 : acc.length ≤ 7 := by omega
          clear hfull hacc
          have hTs : (q.extract 1 q.size).size = q.size - 1 := by simp
          generalize hT : q.extract 1 q.size = T at *
          have HT := Lib.hid hT
          have hcont : cont acc (47 :: T.data.toList) = N := by rw [← hhead]; exact HC.out
          clear hT HC
          have hTL := list_size T
          have hTZ : T.size ≤ 140737488355328 := by omega
          obtain ⟨e, he⟩ : ∃ e, endI T.data.toList = e := ⟨_, rfl⟩
          have hle : e ≤ T.size := by have := endI_le T.data.toList; omega
          have HE := Lib.hid he
          have HX1 : Hid ((T.extract 0 e).data.toList = T.data.toList.take e) := Lib.hid (ext_take T e)
          have HX2 : Hid ((T.extract e T.size).data.toList = T.data.toList.drop e) := Lib.hid (ext_drop T e)
          have hTs2 : T.size < q.size := by omega
          clear hTs hTL
          cases hn : nameB (T.data.toList.take e) with
          | false =>
            have HX : Hid (N = none) := Lib.hid (by rw [← hcont]; exact cont_noname _ _ (by rw [he]; exact hn))
            have HN1 : Hid (nameB (T.extract 0 e).data.toList = false) := Lib.hid (by rw [HX1.out]; exact hn)
            clear hhead hcont hn he
            rcases Nat.lt_or_ge e T.size with hlt | hge
            · go_wp2_with (first
                | (go_at_call 59; rw [HT.out]; refine (index_yes T e HE.out hlt _).mono ?_; rintro e1 w1 ⟨rfl, rfl⟩)
                | (go_at_call 72; refine (name_is _ false HN1.out (by simp; omega) _).mono ?_; rintro e2 w2 ⟨rfl, rfl⟩))
              rw [Exit.noGoto_ret]
              go_ret2
              exact NONE.out _ HB.out HX.out
            · obtain rfl : e = T.size := by omega
              have HNT : Hid (nameB T.data.toList = false) := Lib.hid (by rw [← HN1.out, HX1.out, List.take_of_length_le (by simp)])
              go_wp2_with (first
                | (go_at_call 59; rw [HT.out]; refine (index_no T _ HE.out rfl _).mono ?_; rintro e1 w1 ⟨rfl, rfl⟩)
                | (go_at_call 72; refine (name_is _ false HNT.out (by omega) _).mono ?_; rintro e2 w2 ⟨rfl, rfl⟩))
              rw [Exit.noGoto_ret]
              go_ret2
              exact NONE.out _ HB.out HX.out
          | true =>
            have HN1 : Hid (nameB (T.extract 0 e).data.toList = true) := Lib.hid (by rw [HX1.out]; exact hn)
            have HSV : Hid (Value.string (T.extract 0 e) = strV (T.data.toList.take e)) := Lib.hid (by rw [str_list, HX1.out])
            have HN2 := Lib.hid hn
            have HC1 := Lib.hid hcont
            clear hhead hcont hn he
            rcases Nat.lt_or_ge e T.size with hlt | hge
            · have hne : (T.extract e T.size).size ≠ 0 := by simp; omega
              obtain ⟨m1, m2⟩ := some_bytes (s := T.extract e T.size) (by omega)
              have m3 : (T.extract e T.size).toList ≠ [] := by
                intro h; rw [h] at m1; cases m1
              have HC2 : Hid (cont (acc ++ [T.data.toList.take e]) (T.extract e T.size).data.toList = N) := Lib.hid (by
                rw [HX2.out, ← HC1.out]
                have := cont_more acc T.data.toList (by rw [HE.out]; exact HN2.out) (by rw [HE.out, ← HX2.out, ← Lib.toList_data]; exact m3)
                rw [this, HE.out])
              clear hne m3
              go_wp2_with (first
                | (go_at_call 59; rw [HT.out]; refine (index_yes T e HE.out hlt _).mono ?_; rintro e1 w1 ⟨rfl, rfl⟩)
                | (go_at_call 72; refine (name_is _ true HN1.out (by simp; omega) _).mono ?_; rintro e2 w2 ⟨rfl, rfl⟩)
                | (at_builtin; refine wpList_append_new rfl _ _ 44 rfl w.heap.size 9 i0 (.string ⟨#[]⟩) 1 16 Tryz.underlying44 hi hz0 hz1 hz2 rfl (by decide) _ _ _ (by rfl) HOWN.out 1 1 (by rfl) rfl (by simp; rfl) (by unfold maxLen; omega) (by omega) HB.out.size ?_; intro oa2 cap2 w5 hown5 hbel5 _; have HS5 := Lib.hid hown5; have HB5 := Lib.hid (HB.out.trans hbel5); clear hown5 hbel5))
              refine ⟨⟨_, acc ++ [T.data.toList.take e], rfl, Strs.snoc HSV.out HS5.out, by simp; omega, by simp; omega, HC2.out, HB5.out⟩, ?_⟩
              simp [sizeS]; omega
            · obtain rfl : e = T.size := by omega
              have HTK : Hid (T.data.toList.take T.size = T.data.toList) := Lib.hid (List.take_of_length_le (by simp))
              have HNT : Hid (nameB T.data.toList = true) := Lib.hid (by rw [← HN2.out, HTK.out])
              have HX : Hid (N = some (acc ++ [T.data.toList])) := Lib.hid (by
                rw [← HC1.out]
                have := cont_last acc T.data.toList (by omega) (by rw [HE.out]; exact HN2.out) (by rw [HE.out]; exact List.drop_eq_nil_of_le (by simp))
                rw [this, HE.out, HTK.out])
              go_wp2_with (first
                | (go_at_call 59; rw [HT.out]; refine (index_no T _ HE.out rfl _).mono ?_; rintro e1 w1 ⟨rfl, rfl⟩)
                | (go_at_call 72; refine (name_is _ true HNT.out (by omega) _).mono ?_; rintro e2 w2 ⟨rfl, rfl⟩)
                | (at_builtin; refine wpList_append_new rfl _ _ 44 rfl w.heap.size 9 i0 (.string ⟨#[]⟩) 1 16 Tryz.underlying44 hi hz0 hz1 hz2 rfl (by decide) _ _ _ (by rfl) HOWN.out 1 1 (by rfl) rfl (by simp; rfl) (by unfold maxLen; omega) (by omega) HB.out.size ?_; intro oa2 cap2 w5 hown5 hbel5 _; have HS5 := Lib.hid hown5; have HB5 := Lib.hid (HB.out.trans hbel5); clear hown5 hbel5))
              go_ret2
              exact ⟨.slice oa2 (acc.length + 1) cap2, by rw [HX.out]; rfl, by rw [HX.out]; exact Strs.snoc (str_list T) HS5.out, HB5.out⟩
      · have hb : ((q[0].toNat : Int) != 47) = true := by
          rw [bne_iff_ne]
          intro h
          exact hc (UInt8.toNat_inj.1 (by have : (47 : UInt8).toNat = 47 := rfl; omega))
        have HX : Hid (N = none) := Lib.hid (by rw [← HC.out, hhead]; exact cont_noslash _ _ _ hc)
        clear hc hhead
        go_wp2
        rw [Exit.noGoto_ret]
        go_ret2
        exact NONE.out _ HB.out HX.out
theorem names_any (p : ByteArray) (hs : p.size ≤ 140737488355328) (w : World) :
    Calls Tryz.prog 57 #[.string p] w fun e w' => ∃ v, e = .returned (.tuple #[v, .bool (namesR p.data.toList).isSome]) ∧ Strs w.heap.size w' v ((namesR p.data.toList).getD []) ∧ Below w.heap.size w w' := by
  by_cases hp : p.data.toList = [47]
  · obtain rfl : p = ⟨#[47]⟩ := by apply ByteArray.ext; apply Array.toList_inj.1; exact hp
    refine (names_root w).mono ?_
    rintro e w' ⟨rfl, rfl⟩
    exact ⟨.slice none 0 0, rfl, ⟨rfl, .inl ⟨rfl, rfl⟩⟩, Below.refl _ _⟩
  · exact names_other p hp hs w
end Go.Proofs.YtiffmigihhcgcaaGreatDoor.PathW
