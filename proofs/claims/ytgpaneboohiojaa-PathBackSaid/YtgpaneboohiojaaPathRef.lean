/- The reference's Join, Split, and escheatkeep.Texts. -/
import Derived.Test.YtgpaneboohiojaaPathInside
namespace Go.Proofs.Ytgpaneboohiojaa.PathW
open Go.RowKit
set_option maxHeartbeats 800000 in
theorem texts_any (oa ob : Option Addr) (ca cb : Nat) (a b : List (List UInt8)) (ha : a.length ≤ 140737488355328) (hb : b.length ≤ 140737488355328) (w : World) (h1 : Rds w.heap.size w oa a) (h2 : Rds w.heap.size w ob b) :
    Calls Try.prog 10 #[.slice oa a.length ca, .slice ob b.length cb] w fun e w' => e = .returned (.bool (a == b)) ∧ Below w.heap.size w w' := by
  by_cases hl : a.length = b.length
  · have H1 := Lib.hid h1
    have H2 := Lib.hid h2
    have HL := Lib.hid hl
    have hbn : ((a.length : Int) != (b.length : Int)) = false := by rw [bne_eq_false_iff_eq]; omega
    clear h1 h2 hl
    go_enter Try.func10, Try.ntmps10
    go_wp2_with fail
    clear hbn
    go_loopw [5] (fun i wr => ∃ k : Nat, k ≤ a.length ∧ i = .int .i64 k ∧ a.take k = b.take k ∧ Below w.heap.size w wr) (fun i _ => a.length - (intOf i).toNat)
    case atStart => exact ⟨0, Nat.zero_le _, rfl, rfl, Below.refl _ _⟩
    case round =>
      obtain ⟨k, hk, rfl, htk, hbel⟩ := hrel
      have HT := Lib.hid htk
      have HB := Lib.hid hbel
      clear htk hbel
      by_cases hlt : k < a.length
      · obtain ⟨x, rfl, _, hx⟩ := (H1.out.below HB.out) k hlt
        have hlt2 : k < b.length := by have := HL.out; omega
        obtain ⟨y, rfl, _, hy⟩ := (H2.out.below HB.out) k hlt2
        have HTA : Hid (a.take (k + 1) = a.take k ++ [a[k]]) := Lib.hid (List.take_succ_eq_append_getElem hlt)
        have HTB : Hid (b.take (k + 1) = b.take k ++ [b[k]]) := Lib.hid (List.take_succ_eq_append_getElem hlt2)
        have hk0 : (0 : Int) ≤ (k : Int) := by omega
        have hk1 : (k : Int) < (a.length : Int) := by omega
        have hk2 : (k : Int) < (b.length : Int) := by omega
        unfold strV at hx hy
        by_cases he : a[k] = b[k]
        · have hq : (a[k] == b[k]) = true := by rw [he]; simp
          have HE := Lib.hid he
          clear he
          go_wp2
          go_quiet (fail)
          go_wp2
          exact ⟨⟨k + 1, by omega, by go_num, by rw [HTA.out, HTB.out, HT.out, HE.out], below_drewN HB.out _⟩, by simp [intOf]; omega⟩
        · have hq : (a[k] == b[k]) = false := by rw [beq_eq_false_iff_ne]; exact he
          have HE := Lib.hid he
          clear he
          go_wp2
          go_quiet (fail)
          go_wp2
          go_ret
          refine ⟨ret_bool ?_, below_drewN HB.out _⟩
          symm
          rw [beq_eq_false_iff_ne]
          rintro rfl
          exact HE.out rfl
      · go_wp2
        go_ret
        refine ⟨ret_bool ?_, HB.out⟩
        have h1 := HT.out
        rw [List.take_of_length_le (by omega), List.take_of_length_le (by have := HL.out; omega)] at h1
        rw [h1]; simp
  · have hbn : ((a.length : Int) != (b.length : Int)) = true := by rw [bne_iff_ne]; omega
    have HL := Lib.hid hl
    clear hl h1 h2
    go_enter Try.func10, Try.ntmps10
    go_wp2
    go_ret
    refine ⟨ret_bool ?_, Below.refl _ _⟩
    symm
    rw [beq_eq_false_iff_ne]
    rintro rfl
    exact HL.out rfl
theorem texts_is (oa ob : Option Addr) (na nb ca cb : Nat) (a b : List (List UInt8)) (hna : na = a.length) (hnb : nb = b.length) (ha : a.length ≤ 140737488355328) (hb : b.length ≤ 140737488355328) (w : World) (h1 : Rds w.heap.size w oa a) (h2 : Rds w.heap.size w ob b) :
    Calls Try.prog 10 #[.slice oa na ca, .slice ob nb cb] w fun e w' => e = .returned (.bool (a == b)) ∧ Below w.heap.size w w' := by
  subst hna; subst hnb
  exact texts_any oa ob ca cb a b ha hb w h1 h2
theorem joinT_take (l : List (List UInt8)) (k : Nat) (h : k < l.length) : joinT (l.take (k + 1)) = joinT (l.take k) ++ 47 :: l[k] := by
  rw [List.take_succ_eq_append_getElem h, joinT, List.map_append, List.flatten_append]; simp [joinT]
theorem nameB_len (x : List UInt8) (h : nameB x = true) : x.length ≤ 8 := by
  unfold nameB at h; simp only [Bool.and_eq_true, decide_eq_true_eq] at h; exact h.1.2
theorem joinT_len (l : List (List UInt8)) (h : l.all nameB = true) : (joinT l).length ≤ l.length * 9 := by
  induction l with
  | nil => simp [joinT]
  | cons x r ih =>
    simp only [List.all_cons, Bool.and_eq_true] at h
    have h1 := ih h.2
    have h2 := nameB_len x h.1
    have : joinT (x :: r) = 47 :: x ++ joinT r := rfl
    rw [this]; simp only [List.length_append, List.length_cons]; omega
theorem rname_is (s : ByteArray) (b : Bool) (hb : nameB s.data.toList = b) (hs : s.size ≤ 9223372036854775807) (w : World) :
    Calls Try.prog 19 #[.string s] w fun e w' => e = .returned (.bool b) ∧ w = w' := by
  rw [← hb]; exact rname_any s hs w
set_option maxHeartbeats 800000 in
theorem rjoin_any (oa : Option Addr) (cap : Nat) (l : List (List UInt8)) (hl : l.length ≤ 140737488355328) (hz : ∀ x ∈ l, x.length ≤ 9223372036854775807) (w : World) (h : Rds w.heap.size w oa l) :
    Calls Try.prog 9 #[.slice oa l.length cap] w fun e w' => e = .returned (.tuple #[.string (joinS l), .int .i64 (joinE l)]) ∧ w = w' := by
  by_cases h8 : l.length ≤ 8
  · have d : decide (8 < (l.length : Int)) = false := decide_eq_false (by omega)
    have HR := Lib.hid h
    have HZ := Lib.hid hz
    clear h hz
    go_enter Try.func9, Try.ntmps9
    go_wp2_with fail
    clear d
    go_loop [4, 5] (fun s i => ∃ (k : Nat) (t : ByteArray), k ≤ l.length ∧ i = .int .i64 k ∧ s = .string t ∧ t.data.toList = joinT (l.take k) ∧ (l.take k).all nameB = true) (fun _ i => l.length - (intOf i).toNat)
    case atStart => exact ⟨0, ⟨#[]⟩, Nat.zero_le _, rfl, rfl, rfl, rfl⟩
    case round =>
      obtain ⟨k, t, hk, rfl, rfl, ht, hall⟩ := hrel
      have htl := joinT_len _ hall
      have hts : t.size ≤ 72 := by
        have := congrArg List.length ht
        rw [list_size] at this
        rw [List.length_take] at htl; omega
      have HA := Lib.hid hall
      have HT := Lib.hid ht
      clear hall ht htl
      by_cases hlt : k < l.length
      · have HTA := Lib.hid (all_take l k hlt)
        have HTJ := Lib.hid (joinT_take l k hlt)
        obtain ⟨a, rfl, _, hc⟩ := HR.out k hlt
        have HS : Hid ((⟨l[k].toArray⟩ : ByteArray).size ≤ 9223372036854775807) := Lib.hid (by rw [strV_size]; have := HZ.out l[k] (List.getElem_mem _); omega)
        have hsz2 : nameB l[k] = true → (⟨l[k].toArray⟩ : ByteArray).size ≤ 8 := fun h => by rw [strV_size]; exact nameB_len _ h
        unfold strV at hc
        have hxd : (⟨l[k].toArray⟩ : ByteArray).data.toList = l[k] := rfl
        generalize (⟨l[k].toArray⟩ : ByteArray) = X at *
        have HXD := Lib.hid hxd
        have HTN : Hid ((t ++ ((⟨#[47]⟩ : ByteArray) ++ X)).data.toList = joinT (l.take (k + 1))) := Lib.hid (by
          rw [ByteArray.data_append, Array.toList_append, ByteArray.data_append, Array.toList_append, HTJ.out, HT.out, hxd]; rfl)
        clear hxd
        cases hn : nameB l[k] with
        | true =>
          have hsz8 : X.size ≤ 8 := hsz2 hn
          have HN := Lib.hid hn
          clear hn hsz2
          go_wp2_with (go_at_call 19; refine (rname_is _ true (by rw [HXD.out]; exact HN.out) HS.out _).mono ?_; rintro e w1 ⟨rfl, rfl⟩)
          exact ⟨⟨k + 1, _, by omega, by go_num, rfl, HTN.out, by rw [HTA.out, HA.out, HN.out]; rfl⟩, by simp [intOf]; omega⟩
        | false =>
          have HN := Lib.hid hn
          have HX : Hid (joinS l = ⟨#[]⟩ ∧ joinE l = 11) := Lib.hid (by
            have : l.all nameB = false := by
              rw [List.all_eq_false]
              exact ⟨l[k], List.getElem_mem _, by rw [hn]; simp⟩
            rw [joinS, joinE, joinR, if_neg (by rw [this]; simp)]; exact ⟨rfl, rfl⟩)
          clear hn hsz2
          go_wp2_with (go_at_call 19; refine (rname_is _ false (by rw [HXD.out]; exact HN.out) HS.out _).mono ?_; rintro e w1 ⟨rfl, rfl⟩)
          go_ret2
          exact ⟨by rw [HX.out.1, HX.out.2]; rfl, rfl⟩
      · have HK : Hid (l.take k = l) := Lib.hid (List.take_of_length_le (by omega))
        have HX : Hid (joinS l = ⟨(joinP l).toArray⟩ ∧ joinE l = 0) := Lib.hid (by
          have := HA.out; rw [HK.out] at this
          rw [joinS, joinE, joinR, if_pos ⟨h8, this⟩]; exact ⟨rfl, rfl⟩)
        by_cases h0 : l = []
        · have ht0 : t = ⟨#[]⟩ := by
            apply ByteArray.ext; apply Array.toList_inj.1
            rw [HT.out, HK.out, h0]; rfl
          subst ht0
          have HP : Hid (joinP l = [47]) := Lib.hid (by rw [joinP, if_pos h0])
          clear h0
          go_wp2
          go_ret2
          exact ⟨by rw [HX.out.1, HX.out.2, HP.out]; rfl, rfl⟩
        · have hpos : 0 < t.size := by
            have h1 := congrArg List.length HT.out
            rw [list_size, HK.out] at h1
            cases hq : l with
            | nil => exact absurd hq h0
            | cons x r =>
              rw [hq] at h1
              have : joinT (x :: r) = 47 :: x ++ joinT r := rfl
              rw [this] at h1; simp at h1; omega
          obtain ⟨n1, n2⟩ := some_bytes hpos
          have HP : Hid ((⟨(joinP l).toArray⟩ : ByteArray) = t) := Lib.hid (by
            apply ByteArray.ext; apply Array.toList_inj.1
            rw [HT.out, HK.out, joinP, if_neg h0])
          clear h0 hpos
          go_wp2
          go_ret2
          exact ⟨by rw [HX.out.1, HX.out.2, HP.out]; rfl, rfl⟩
  · have d : decide (8 < (l.length : Int)) = true := decide_eq_true (by omega)
    have HR : Hid (joinS l = ⟨#[]⟩ ∧ joinE l = 11) := Lib.hid (by rw [joinS, joinE, joinR, if_neg (by omega)]; exact ⟨rfl, rfl⟩)
    clear h hz h8
    go_enter Try.func9, Try.ntmps9
    go_wp2
    go_ret2
    exact ⟨by rw [HR.out.1, HR.out.2]; rfl, rfl⟩
end Go.Proofs.Ytgpaneboohiojaa.PathW
