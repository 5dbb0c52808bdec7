/- The walk of DirMost. -/
import Derived.Test.YtffigodlfmnbpaaDirLast
import Derived.Test.YtffigodlfmnbpaaBytes
namespace Go.Proofs.Ytffigodlfmnbpaa.DirW
open Go.RowKit DirP
/-- the name number i -/
def nm (i : Nat) : ByteArray := ⟨#[UInt8.ofNat (97 + i / 26), UInt8.ofNat (97 + i % 26)]⟩
def more : ByteArray := ⟨#[109, 111, 114, 101]⟩
theorem nm_ok : ∀ i : Fin 64, PathW.nameB (nm i.val).data.toList = true ∧ nm i.val ≠ more ∧ ∀ j : Fin 64, nm i.val = nm j.val → i = j := by decide +kernel
theorem more_ok : PathW.nameB more.data.toList = true := by decide +kernel
theorem nm_inj {i j : Nat} (hi : i < 64) (hj : j < 64) (h : nm i = nm j) : i = j := by
  have := (nm_ok ⟨i, hi⟩).2.2 ⟨j, hj⟩ h
  exact congrArg Fin.val this
/-- a directory's first n names -/
structure Mo (L : List En) (k : Int) (n : Nat) : Prop where
  len : L.length = n
  mem : ∀ a ∈ L, a.d = k ∧ a.i = 5 ∧ ∃ j, j < n ∧ a.s = nm j
  one : 0 < n → lk L (k, nm 0) = some 5
theorem mo_nil (k : Int) : Mo [] k 0 := ⟨rfl, by simp, fun h => absurd h (by omega)⟩
theorem cnt_all {L : List En} {k : Int} (h : ∀ a ∈ L, a.d = k) : cnt L k = L.length := by
  unfold cnt
  exact List.countP_eq_length.2 fun a ha => decide_eq_true (h a ha)
theorem cnt_no {L : List En} {k : Int} (h : ∀ a ∈ L, a.d ≠ k) : cnt L k = 0 := by
  unfold cnt
  exact List.countP_eq_zero.2 fun a ha => by simpa using h a ha
theorem addE_ok {L : List En} {d i : Int} {s : ByteArray} (h1 : PathW.nameB s.data.toList = true) (h2 : rngB d i = true) (h3 : lk L (d, s) = none) (h4 : cnt L d < 64) : addE L d s i = 0 := by
  unfold addE
  rw [if_pos h1, if_pos h2, h3, if_neg (by simp), if_neg (by omega)]
theorem addE_many {L : List En} {d i : Int} {s : ByteArray} (h1 : PathW.nameB s.data.toList = true) (h2 : rngB d i = true) (h3 : lk L (d, s) = none) (h4 : 64 ≤ cnt L d) : addE L d s i = 67 := by
  unfold addE
  rw [if_pos h1, if_pos h2, h3, if_neg (by simp), if_pos h4]
theorem addL_ok {L : List En} {d i : Int} {s : ByteArray} (h : addE L d s i = 0) : addL L d s i = ins L ⟨d, s, i⟩ := by unfold addL; rw [if_pos h]
theorem rng5 {k : Int} (h : 1 ≤ k ∧ k ≤ 65537) : rngB k 5 = true := by unfold rngB; simp; omega
theorem Mo.step {L : List En} {k : Int} {n : Nat} (h : Mo L k n) (g : DGood L) (hk : 1 ≤ k ∧ k ≤ 65537) (hn : n < 64) : addE L k (nm n) 5 = 0 ∧ Mo (addL L k (nm n) 5) k (n + 1) := by
  have hl : lk L (k, nm n) = none := by
    rw [lk_none]
    intro a ha e
    obtain ⟨_, _, j, hj, hs⟩ := h.mem a ha
    have : a.s = nm n := congrArg Prod.snd e
    have := nm_inj hn (by omega) (this.symm.trans hs)
    omega
  have h0 : addE L k (nm n) 5 = 0 := addE_ok (nm_ok ⟨n, hn⟩).1 (rng5 hk) hl (by rw [cnt_all fun a ha => (h.mem a ha).1, h.len]; exact hn)
  refine ⟨h0, ?_⟩
  rw [addL_ok h0]
  refine ⟨by rw [ins_len, h.len], fun a ha => ?_, fun _ => ?_⟩
  · rcases (Sl.mem_ins (key := En.key) (kl := kl) L _ a).1 ha with rfl | ha
    · exact ⟨rfl, rfl, n, by omega, rfl⟩
    · obtain ⟨h1, h2, j, hj, h3⟩ := h.mem a ha
      exact ⟨h1, h2, j, by omega, h3⟩
  · rw [lk_ins g.rises (a := ⟨k, nm n, 5⟩) hl]
    show (if (k, nm 0) = (k, nm n) then some 5 else lk L (k, nm 0)) = _
    by_cases e : (k, nm 0) = (k, nm n)
    · rw [if_pos e]
    · rw [if_neg e]
      exact h.one (Nat.pos_of_ne_zero fun hz => e (by rw [hz]))
theorem del_len1 {L : List En} (hL : Rises L) {x : Int × ByteArray} {i : Int} (h : lk L x = some i) : (del L x).length + 1 = L.length := by
  have hm := (lk_iff hL x i).1 h
  obtain ⟨k, hk, hx⟩ := List.getElem_of_mem hm
  have h1 : del L (⟨x.1, x.2, i⟩ : En).key = L.take k ++ L.drop (k + 1) := del_at hL (by rw [List.getElem?_eq_getElem hk, hx])
  rw [show (⟨x.1, x.2, i⟩ : En).key = x from rfl] at h1
  rw [h1]; simp; omega
theorem Mo.last {L : List En} {k : Int} (h : Mo L k 64) (g : DGood L) (hk : 1 ≤ k ∧ k ≤ 65536) :
    addE L k more 5 = 67 ∧ addL L k more 5 = L ∧ addE L (k + 1) more 5 = 0 ∧ dropE (addL L (k + 1) more 5) k (nm 0) = 0 ∧
      addE (del (addL L (k + 1) more 5) (k, nm 0)) k more 5 = 0 ∧ cnt (addL (del (addL L (k + 1) more 5) (k, nm 0)) k more 5) k = 64 ∧
      (addL (del (addL L (k + 1) more 5) (k, nm 0)) k more 5).length = 65 ∧ ((addL (del (addL L (k + 1) more 5) (k, nm 0)) k more 5).filter fun a => decide (a.i = 5)).length = 65 := by
  have hl : ∀ d, lk L (d, more) = none := fun d => by
    rw [lk_none]
    intro a ha e
    obtain ⟨_, _, j, hj, hs⟩ := h.mem a ha
    exact (nm_ok ⟨j, hj⟩).2.1 (hs.symm.trans (congrArg Prod.snd e))
  have c0 : cnt L k = 64 := by rw [cnt_all fun a ha => (h.mem a ha).1, h.len]
  have e1 : addE L k more 5 = 67 := addE_many more_ok (rng5 (by omega)) (hl k) (by omega)
  have l1 : addL L k more 5 = L := by unfold addL; rw [e1]; rfl
  have c1 : cnt L (k + 1) = 0 := cnt_no fun a ha => by have := (h.mem a ha).1; omega
  have e2 : addE L (k + 1) more 5 = 0 := addE_ok more_ok (rng5 (by omega)) (hl _) (by omega)
  have l2 := addL_ok e2
  have g2 : DGood (ins L ⟨k + 1, more, 5⟩) := g.ins more_ok (rng5 (by omega)) (hl _) (by omega)
  have k2 := lk_ins g.rises (a := ⟨k + 1, more, 5⟩) (hl _)
  have hk0 : ∀ x : ByteArray, (k, x) ≠ ((⟨k + 1, more, 5⟩ : En).key) := fun x e => by have := congrArg Prod.fst e; simp only [En.key] at this; omega
  have n2 : lk (ins L ⟨k + 1, more, 5⟩) (k, nm 0) = some 5 := by
    rw [k2]
    show (if (k, nm 0) = (⟨k + 1, more, 5⟩ : En).key then _ else _) = _
    rw [if_neg (hk0 _), h.one (by omega)]
  have e3 : dropE (ins L ⟨k + 1, more, 5⟩) k (nm 0) = 0 := by unfold dropE; rw [n2]; rfl
  have c2 : cnt (ins L ⟨k + 1, more, 5⟩) k = 64 := by
    rw [cnt_ins, c0]
    show 64 + (if k + 1 = k then 1 else 0) = 64
    rw [if_neg (by omega)]
  have c3 : cnt (del (ins L ⟨k + 1, more, 5⟩) (k, nm 0)) k = 63 := by
    have := cnt_del g2.rises n2 k
    rw [if_pos rfl, c2] at this; omega
  have n3 : lk (del (ins L ⟨k + 1, more, 5⟩) (k, nm 0)) (k, more) = none := by
    rw [lk_del g2.rises]
    show (if (k, more) = (k, nm 0) then none else lk (ins L ⟨k + 1, more, 5⟩) (k, more)) = _
    rw [k2]
    show (if (k, more) = (k, nm 0) then none else if (k, more) = (⟨k + 1, more, 5⟩ : En).key then _ else lk L (k, more)) = _
    rw [if_neg (hk0 _), hl]
    split <;> rfl
  have e4 : addE (del (ins L ⟨k + 1, more, 5⟩) (k, nm 0)) k more 5 = 0 := addE_ok more_ok (rng5 (by omega)) n3 (by omega)
  have l4 := addL_ok e4
  have len2 : (ins L ⟨k + 1, more, 5⟩).length = 65 := by rw [ins_len, h.len]
  have len3 := del_len1 g2.rises n2
  have all4 : ∀ a ∈ ins (del (ins L ⟨k + 1, more, 5⟩) (k, nm 0)) ⟨k, more, 5⟩, a.i = 5 := fun a ha => by
    rcases (Sl.mem_ins (key := En.key) (kl := kl) _ _ a).1 ha with rfl | ha
    · rfl
    · have ha' := (List.mem_filter.1 ha).1
      rcases (Sl.mem_ins (key := En.key) (kl := kl) _ _ a).1 ha' with rfl | ha'
      · rfl
      · exact (h.mem a ha').2.1
  rw [l2, l4]
  refine ⟨e1, l1, e2, e3, e4, by rw [cnt_ins, c3]; simp, by rw [ins_len]; omega, ?_⟩
  rw [List.filter_eq_self.2 fun a ha => decide_eq_true (all4 a ha), ins_len]; omega
theorem okD {d : Int} {s : ByteArray} (h : 1 ≤ d ∧ d ≤ 65537) (hs : s.size ≤ 1000) : deOk (d, s) := ⟨by simp [Lit.wf, IntKind.min, IntKind.max, IntKind.signed, IntKind.bits]; omega, by show s.size ≤ maxLen; unfold maxLen; omega⟩
theorem nm_made (wr : World) (n : Nat) (hn : n < 64) : (convert 36 9 (.slice (some ⟨wr.heap.size, 0, none⟩) 2 2)).run Try.prog (wr.alloc (.cells #[.int .u8 (97 + (n : Int) / 26), .int .u8 (97 + (n : Int) % 26)] 5)) = .ok (.string (nm n)) (wr.alloc (.cells #[.int .u8 (97 + (n : Int) / 26), .int .u8 (97 + (n : Int) % 26)] 5)) := by
  have e1 : ((UInt8.ofNat (97 + n / 26)).toNat : Int) = 97 + (n : Int) / 26 := by
    rw [UInt8.toNat_ofNat']
    omega
  have e2 : ((UInt8.ofNat (97 + n % 26)).toNat : Int) = 97 + (n : Int) % 26 := by
    rw [UInt8.toNat_ofNat']
    omega
  have hb := heap_alloc_new wr (.cells #[.int .u8 (97 + (n : Int) / 26), .int .u8 (97 + (n : Int) % 26)] 5)
  have h := conv_of_bytes (P := Try.prog) (wr.alloc (.cells #[.int .u8 (97 + (n : Int) / 26), .int .u8 (97 + (n : Int) % 26)] 5)) 36 9 5 wr.heap.size 2 2 (fun j => if j = 0 then UInt8.ofNat (97 + n / 26) else UInt8.ofNat (97 + n % 26)) Try.underlying36 Try.underlying5 Try.underlying9 (fun j hj => by
    have hc := new_cells hb j (by simpa using hj)
    refine ⟨hc.1.trans ?_, hc.2⟩
    match j, hj with
    | 0, _ => exact congrArg (fun z => some (Value.int .u8 z)) e1.symm
    | 1, _ => exact congrArg (fun z => some (Value.int .u8 z)) e2.symm)
  rw [h]
  rfl
set_option maxRecDepth 100000 in
set_option maxHeartbeats 8000000 in
theorem most_walk (dd : Int) (w0 : (Lit.int .u16 dd).wf = true) (W : World) : Calls Try.prog 4 #[.int .u16 dd] W fun e w' => e = .returned (.bool true) ∧ Below W.heap.size W w' := by
  obtain ⟨d1, d2⟩ := u16_bd w0
  clear w0
  go_enter Try.func4, Try.ntmps4
  go_wp2_with (go_at_call 7; refine (new_any _).mono ?_; rintro e w1 ⟨rfl, h1, hb1⟩; have H1 := Lib.hid h1; have HB1 := Lib.hid hb1; clear h1 hb1)
  have HL : Hid (LdL W w1 (W.heap.size + 2) W.heap.size (W.heap.size + 1) []) := Lib.hid ⟨H1.out, HB1.out, by omega, by omega, by omega⟩
  generalize W.heap.size + 2 = nb at *
  generalize W.heap.size + 1 = c at *
  obtain ⟨b, hbb⟩ : ∃ b, b = W.heap.size := ⟨_, rfl⟩
  have HL1 : Hid (LdL W w1 nb b c []) := Lib.hid (by rw [hbb]; exact HL.out)
  clear HL H1 HB1 hbb
  obtain ⟨k, hk⟩ : ∃ k, k = 1 + dd := ⟨_, rfl⟩
  rw [← hk]
  have hkb : 1 ≤ k ∧ k ≤ 65536 := by omega
  clear hk d1 d2
  go_loopw [5] (fun i wr => ∃ (n : Nat) (L : List En), n ≤ 64 ∧ i = .int .i64 (n : Int) ∧ LdL W wr nb b c L ∧ Mo L k n) (fun i _ => (64 - intOf i).toNat)
  case atStart => exact ⟨0, [], by omega, rfl, HL1.out, mo_nil k⟩
  case round =>
    obtain ⟨n, L, hn, rfl, hd, hmo⟩ := hrel
    have HD := Lib.hid hd
    have HM := Lib.hid hmo
    clear hd hmo HL1
    by_cases hlt : n < 64
    · have hi1 : (n : Int) < 64 := by omega
      have hcv := nm_made wr n hlt
      have HST := Lib.hid (HM.out.step HD.out.h.good (by omega) hlt)
      have HDB := Lib.hid (HD.out.grow (below_alloc wr (.cells #[.int .u8 (97 + (n : Int) / 26), .int .u8 (97 + (n : Int) % 26)] 5)))
      have hs2 : (nm n).size = 2 := rfl
      have HOK : Hid (deOk (k, nm n)) := Lib.hid (okD (by omega) (by omega))
      have hn1 : n + 1 ≤ 64 := hlt
      clear hlt hn
      go_wp2_with (go_at_call 10; refine (add_any _ _ _ _ k (nm n) 5 (by omega) HOK.out _ HDB.out.h).mono ?_; rintro e w2 ⟨rfl, h2, ho2, _⟩; rw [HST.out.1]; have H2 := Lib.hid (HDB.out.onB h2 ho2); clear h2 ho2)
      exact ⟨⟨n + 1, _, hn1, by simp, H2.out, HST.out.2⟩, by simp [intOf]; omega⟩
    · have hi1 : ¬ ((n : Int) < 64) := by omega
      obtain rfl : n = 64 := by omega
      have HLA := Lib.hid (HM.out.last HD.out.h.good hkb)
      have HK1 : Hid (deOk (k, more)) := Lib.hid (okD (by omega) (by decide))
      have HK2 : Hid (deOk (k + 1, more)) := Lib.hid (okD (by omega) (by decide))
      have HK3 : Hid (deOk (k, nm 0)) := Lib.hid (okD (by omega) (by decide))
      have HLM := Lib.hid HM.out.len
      clear hlt hn
      go_wp2_with (first
        | (have hz := H4.out; clear hz; go_at_call 10; refine (add_any _ _ _ _ k more 5 (by decide) HK1.out _ H4.out.h).mono ?_; rintro e w5 ⟨rfl, h5, ho5, _⟩; rw [HLA.out.2.2.2.2.1]; have H5 := Lib.hid (H4.out.onB h5 ho5); clear h5 ho5)
        | (have hz := H2.out; clear hz; go_at_call 10; refine (add_any _ _ _ _ (k + 1) more 5 (by decide) HK2.out _ H2.out.h).mono ?_; rintro e w3 ⟨rfl, h3, ho3, _⟩; rw [HLA.out.2.2.1]; have H3 := Lib.hid (H2.out.onB h3 ho3); clear h3 ho3)
        | (go_at_call 10; refine (add_any _ _ _ _ k more 5 (by decide) HK1.out _ HD.out.h).mono ?_; rintro e w2 ⟨rfl, h2, ho2, _⟩; rw [HLA.out.1]; rw [HLA.out.2.1] at h2; have H2 := Lib.hid (HD.out.onB h2 ho2); clear h2 ho2)
        | (go_at_call 11; refine (drop_any _ _ _ _ k (nm 0) HK3.out _ H3.out.h).mono ?_; rintro e w4 ⟨rfl, h4, ho4, _⟩; rw [HLA.out.2.2.2.1]; have H4 := Lib.hid (H3.out.onB h4 ho4); clear h4 ho4)
        | (go_at_call 13; refine (count_any _ _ _ _ k (okD (s := more) (by omega) (by decide)).1 _ H5.out.h).mono ?_; rintro e w6 ⟨rfl, rfl⟩; rw [HLA.out.2.2.2.2.2.1])
        | (go_at_call 14; refine (of_any _ _ _ _ (by rw [HLA.out.2.2.2.2.2.2.1]; decide) 5 _ H5.out.h).mono ?_; rintro e w7 ⟨v7, rfl, hr7, hb7⟩; obtain ⟨oa7, cap7, rfl, _⟩ := hr7.form; rw [HLA.out.2.2.2.2.2.2.2]; have HB7 := Lib.hid (bstep H5.out.below hb7); clear hb7 hr7)
        | (go_at_call 9; refine (wakes_any _).mono ?_; rintro e w8 ⟨rfl, hb8⟩; have HB8 := Lib.hid (bstep HB7.out hb8); clear hb8))
      go_ret
      exact ⟨rfl, HB8.out⟩
end Go.Proofs.Ytffigodlfmnbpaa.DirW
