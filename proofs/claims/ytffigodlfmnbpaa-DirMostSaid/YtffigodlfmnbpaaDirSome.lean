/- Names.some; List, Of, All. -/
import Derived.Test.YtffigodlfmnbpaaDirAdd
import Derived.Test.YtffigodlfmnbpaaDirCmp
import Derived.Test.YtffigodlfmnbpaaGot
import Derived.Test.YtffigodlfmnbpaaAppDraw
namespace Go.Proofs.Ytffigodlfmnbpaa.DirW
open Go.RowKit DirP
theorem en_info : (Try.prog.info? 64).map (fun i => (i.zero, i.size, i.bytes)) = some (some (.agg #[.int .i64 0, .string ByteArray.empty, .int .i64 0]), 3, 32) := by kernel_rfl
theorem en_at {B : Nat} {oa : Option Addr} {l : List En} {w : World} (h : KAt encE 3 B oa l w) {i : Nat} {x : En} (hx : l[i]? = some x) :
    ∃ a, oa = some a ∧ a.block < B ∧ w.cell? (a.add (i * 3)) = some (.int .i64 x.d) ∧ w.cell? ⟨(a.add (i * 3)).block, (a.add (i * 3)).off + 1, none⟩ = some (.string x.s) ∧ w.cell? ⟨(a.add (i * 3)).block, (a.add (i * 3)).off + 2, none⟩ = some (.int .i64 x.i) := by
  obtain ⟨a, h1, h2, h3⟩ := h i x hx
  exact ⟨a, h1, h2, h3 0 _ rfl, h3 1 _ rfl, h3 2 _ rfl⟩
/-- a function of an entry, that tells whether it is such -/
def Such (g : Nat) (cb : Array Value) (p : En → Bool) (w0 : World) : Prop :=
  ∀ (x : En) (W : World), Below w0.heap.size w0 W → Calls Try.prog g (#[.agg #[.int .i64 x.d, .string x.s, .int .i64 x.i]] ++ cb) W fun e w' => e = .returned (.bool (p x)) ∧ Below W.heap.size W w'
def DeRange (w : World) (b r n : Nat) (g : Int × ByteArray → Option Int) (seen : Int × ByteArray → Bool) (cnt : Nat) : Prop := RangeIs deV deOk inV w b r n g seen cnt
theorem got_some {L J : List En} {p : En → Bool} {seen : Int × ByteArray → Bool} (h : Sl.Got En.key (L.filter p) seen J) (hL : Rises L) {d : Int} {s : ByteArray} {i : Int} (hx : lk L (d, s) = some i) (hs : seen (d, s) = false) :
    (p ⟨d, s, i⟩ = true → Sl.Got En.key (L.filter p) (fun z => seen z || decide (z = (d, s))) (J ++ [⟨d, s, i⟩])) ∧ (p ⟨d, s, i⟩ = false → Sl.Got En.key (L.filter p) (fun z => seen z || decide (z = (d, s))) J) := by
  have hm := (lk_iff hL (d, s) i).1 hx
  refine ⟨fun hp => h.snoc dLin (Sl.rises_filter hL p) (a := ⟨d, s, i⟩) (List.mem_filter.2 ⟨hm, hp⟩) hs, fun hp => h.skip fun a ha e => ?_⟩
  obtain ⟨h1, h2⟩ := List.mem_filter.1 ha
  have : a = ⟨d, s, i⟩ := Sl.key_inj dLin hL h1 hm e
  rw [this, hp] at h2; cases h2
theorem got_end {L J : List En} {p : En → Bool} {seen : Int × ByteArray → Bool} (h : Sl.Got En.key (L.filter p) seen J) (hL : Rises L) (hd : ∀ x, lk L x ≠ none → seen x = true) : ∀ a, a ∈ J ↔ a ∈ L.filter p :=
  h.all fun a ha => hd _ (by rw [(lk_iff hL a.key a.i).2 (List.mem_filter.1 ha).1]; simp)
set_option maxHeartbeats 1600000 in
theorem some_any (nb b c : Nat) (L : List En) (hlen : L.length ≤ 100000) (g : Nat) (cb : Array Value) (p : En → Bool) (w : World) (heg : ∀ args w, (callFunc g args).run Try.prog w = .ok (.enter g args) w) (hs : Such g cb p w) (h : DIs w nb b c L) :
    Calls Try.prog 26 #[.pointer (some ⟨nb, 0, none⟩), .func (.func g) #[] cb] w fun e w' => ∃ v, e = .returned v ∧ RowK 64 encE 3 w.heap.size w' v (L.filter p) ∧ Below w.heap.size w w' := by
  obtain ⟨i0, hi, hz0, hz1, hz2⟩ := info_parts en_info
  have HL := Lib.hid h.good.rises
  have HLEN := Lib.hid hlen
  have HSU := Lib.hid hs
  have HEG := Lib.hid heg
  obtain ⟨N, hm⟩ := h.map
  have HM := Lib.hid hm
  obtain ⟨h0, _⟩ := h.m0
  have hbl := MapIs.lt hm
  clear h hm hs heg hlen
  go_enter Try.func26, Try.ntmps26
  go_wp2_with (at_range; go_loud (refine wpList_map_range _ rfl _ 55 3 rfl Try.underlying55 b N _ HM.out (by rfl) ?_; intro w4 cnt4 hr4 hc4 hb4 hs4; have HR4 : Hid (DeRange w4 b w.heap.size N (lk L) (fun _ => false) cnt4) := Lib.hid hr4; have HB4 := Lib.hid hb4; have HS4 := Lib.hid hs4; clear hr4 hb4 hc4 hs4))
  go_frame
  obtain ⟨r, hr⟩ : ∃ r, r = w.heap.size := ⟨_, rfl⟩
  rw [← hr] at HR4 HS4 ⊢
  have HRR := Lib.hid hr
  clear hr hbl h0
  go_loopw [5] (fun v wr => ∃ (seen : Int × ByteArray → Bool) (cnt : Nat) (J : List En), DeRange wr b r N (lk L) seen cnt ∧ RowK 64 encE 3 (r + 1) wr v J ∧ r < wr.heap.size ∧ Sl.Got En.key (L.filter p) seen J ∧ Below w.heap.size w wr) (fun _ wr => rangeLeft wr b r)
  case atStart => exact ⟨_, _, [], HR4.out, RowK.nil _ _, by have := HS4.out; omega, Sl.Got.nil _, HB4.out⟩
  case round =>
    obtain ⟨seen, cnt, J, hrg, hrow, hrlt, hgot, hbel⟩ := hrel
    have HRLT := Lib.hid hrlt
    have HG := Lib.hid hrg
    have HGOT := Lib.hid hgot
    have HB := Lib.hid hbel
    have HLEFT := Lib.hid (RangeIs.left hrg)
    have hjl := hgot.len
    have hjl2 := List.length_filter_le p L
    have hlen := HLEN.out
    clear hgot hrg hrlt
    go_wp2_with (at_next; go_loud (refine wpList_map_next _ rfl _ rfl deMK b r N cnt _ seen (by rfl) HG.out ?_ ?_))
    · intro hdone
      have HALL := Lib.hid (got_end HGOT.out HL.out (fun x hx => hdone x.1 x.2 hx))
      have HROW := Lib.hid hrow
      have HJ : Hid (J.length < 4611686018427387904) := Lib.hid (by omega)
      clear hdone hrow hbel hjl hlen hjl2
      go_wp2_with (go_at_call 33; refine (ensort_any (Sl.rises_filter HL.out p) HGOT.out.nodup HALL.out (r + 1) _ _ (by have := HRLT.out; omega) HROW.out HJ.out).mono ?_; rintro e w7 ⟨rfl, hr7, hb7⟩; have HR7 := Lib.hid hr7; have HB7 := Lib.hid hb7; clear hr7 hb7)
      go_ret
      exact ⟨_, rfl, by rw [← HRR.out]; exact HR7.out.mono (by omega), HB.out.trans (HB7.out.mono (by have := HRR.out; omega))⟩
    · intro d s i w5 cnt5 hokx hgx hsx hr5 hc5 ho5 hs5 hen
      have hen' : (Instr.entry (.pointer (some ⟨r, 0, none⟩))).run Try.prog w5 = .ok (.tuple #[.agg #[.int .i64 d, .string s], .int .i64 i]) w5 := hen
      have HR5 : Hid (DeRange w5 b r N (lk L) (fun z => seen z || decide (z = (d, s))) cnt5) := Lib.hid hr5
      have HG5 := Lib.hid (got_some HGOT.out HL.out hgx hsx)
      have HC5 := Lib.hid hc5
      have HB5 := Lib.hid (HB.out.trans (ho5.below (by have := HRR.out; omega) HB.out.size))
      obtain ⟨oa2, cap2, rfl, hc2, _, _⟩ := hrow.form
      have HOWN : Hid (RowK 64 encE 3 (r + 1) w5 (.slice oa2 J.length cap2) J) := Lib.hid (ho5.keepRow hrow (fun e => by
        have := (World.ownsRow.lt hrow) _ e; omega))
      have hrs : r < w5.heap.size := RangeIs.lt hr5
      clear hen hokx hgx hsx hr5 hc5 ho5 hs5 hrow hbel
      have heg := HEG.out
      obtain ⟨wz, hwz⟩ : ∃ wz, wz = (w5.alloc (.cells #[.int .i64 d, .string s] 61)).alloc (.cells #[.int .i64 d, .string s, .int .i64 i] 64) := ⟨_, rfl⟩
      have HZ : Hid (Below w5.heap.size w5 wz ∧ wz.heap[w5.heap.size + 1]? = some (.cells #[.int .i64 d, .string s, .int .i64 i] 64 (0, 0))) := Lib.hid (by
        rw [hwz]
        refine ⟨bstep (below_alloc w5 _) (below_alloc _ _), ?_⟩
        have := heap_alloc_new (w5.alloc (.cells #[.int .i64 d, .string s] 61)) (.cells #[.int .i64 d, .string s, .int .i64 i] 64)
        rw [show (w5.alloc (.cells #[.int .i64 d, .string s] 61)).heap.size = w5.heap.size + 1 by simp] at this
        exact this)
      cases hp : p ⟨d, s, i⟩ with
      | true =>
        have HPX := Lib.hid hp
        clear hp
        go_wp2_with fail
        rw [← hwz]
        clear hwz heg
        refine (HSU.out ⟨d, s, i⟩ _ (bstep HB5.out HZ.out.1)).mono ?_
        rintro e w6 ⟨rfl, hb6⟩
        rw [HPX.out]
        have HB6 := Lib.hid (bstep HZ.out.1 hb6)
        obtain ⟨y0, y1, y2, _, _, _⟩ := new_cells3 ((hb6.block _ (lt_of_block HZ.out.2)).trans HZ.out.2)
        have HOWN6 : Hid (w6.ownsRow (r + 1) 64 3 (.slice oa2 J.length cap2) J.length (J.flatMap encE)) := Lib.hid (RowK.grow HOWN.out HB6.out)
        have hrs6 : r + 1 ≤ w6.heap.size := by have := HB6.out.size; omega
        clear hb6
        go_wp2_with (at_builtin; go_loud (refine wpList_append_newB rfl _ _ 38 rfl (r + 1) 64 i0 (.agg #[.int .i64 0, .string ByteArray.empty, .int .i64 0]) 3 32 Try.underlying38 hi hz0 hz1 hz2 rfl (by decide) _ _ _ (by rfl) HOWN6.out _ 1 1 (by rfl) rfl (en_one ⟨d, s, i⟩) (by unfold maxLen; omega) (by omega) hrs6 (by simp) ?_; intro oa7 cap7 w7 hown7 hbel7 _; have HS7 := Lib.hid hown7; have HB7 := Lib.hid hbel7; clear hown7 hbel7))
        have hr7 : DeRange w7 b r N (lk L) (fun z => seen z || decide (z = (d, s))) cnt5 := RangeIs.of_blocks (RangeIs.keep HR5.out HB6.out) (HB7.out.block b (by have := HB.out.size; have := HRR.out; have := MapIs.lt HM.out; omega)) (HB7.out.block r (by omega))
        exact ⟨⟨_, cnt5, _, hr7, RowK.snoc (enc := encE) (l := J) (⟨d, s, i⟩ : En) rfl rfl HS7.out, by have := HB7.out.size; omega, HG5.out.1 HPX.out, (bstep HB5.out HB6.out).trans (HB7.out.mono (by have := HRR.out; omega))⟩, by rw [RangeIs.left hr7, HLEFT.out]; exact HC5.out⟩
      | false =>
        have HPX := Lib.hid hp
        clear hp
        go_wp2_with fail
        rw [← hwz]
        clear hwz heg
        refine (HSU.out ⟨d, s, i⟩ _ (bstep HB5.out HZ.out.1)).mono ?_
        rintro e w6 ⟨rfl, hb6⟩
        rw [HPX.out]
        have HB6 := Lib.hid (bstep HZ.out.1 hb6)
        have hrs6 : r < w6.heap.size := by have := HB6.out.size; omega
        clear hb6
        go_wp2_with fail
        have hr7 : DeRange w6 b r N (lk L) (fun z => seen z || decide (z = (d, s))) cnt5 := RangeIs.keep HR5.out HB6.out
        exact ⟨⟨_, cnt5, J, hr7, RowK.grow HOWN.out HB6.out, hrs6, HG5.out.2 HPX.out, bstep HB5.out HB6.out⟩, by rw [RangeIs.left hr7, HLEFT.out]; exact HC5.out⟩
theorem such_dir (bx : Nat) (d : Int) (w0 : World) (hb : w0.cell? ⟨bx, 0, none⟩ = some (.int .i64 d)) : Such 31 #[.pointer (some ⟨bx, 0, none⟩)] (fun a => decide (a.d = d)) w0 := by
  intro x W hbel
  have c0 := cell_step hbel hb
  have HB := Lib.hid (below_alloc W (.cells #[.int .i64 x.d, .string x.s, .int .i64 x.i] 64))
  have hlt := World.block_lt_of_cell? _ _ c0
  by_cases h : x.d = d
  · have h1 : (x.d == d) = true := by rw [beq_iff_eq]; exact h
    have HE : Hid (decide (x.d = d) = true) := Lib.hid (decide_eq_true h)
    clear h hbel hb
    go_enter Try.func31, Try.ntmps31
    go_wp2
    go_ret
    exact ⟨by rw [HE.out]; rfl, HB.out⟩
  · have h1 : (x.d == d) = false := by simpa using h
    have HE : Hid (decide (x.d = d) = false) := Lib.hid (decide_eq_false h)
    clear h hbel hb
    go_enter Try.func31, Try.ntmps31
    go_wp2
    go_ret
    exact ⟨by rw [HE.out]; rfl, HB.out⟩
theorem such_ino (bx : Nat) (d : Int) (w0 : World) (hb : w0.cell? ⟨bx, 0, none⟩ = some (.int .i64 d)) : Such 27 #[.pointer (some ⟨bx, 0, none⟩)] (fun a => decide (a.i = d)) w0 := by
  intro x W hbel
  have c0 := cell_step hbel hb
  have HB := Lib.hid (below_alloc W (.cells #[.int .i64 x.d, .string x.s, .int .i64 x.i] 64))
  have hlt := World.block_lt_of_cell? _ _ c0
  by_cases h : x.i = d
  · have h1 : (x.i == d) = true := by rw [beq_iff_eq]; exact h
    have HE : Hid (decide (x.i = d) = true) := Lib.hid (decide_eq_true h)
    clear h hbel hb
    go_enter Try.func27, Try.ntmps27
    go_wp2
    go_ret
    exact ⟨by rw [HE.out]; rfl, HB.out⟩
  · have h1 : (x.i == d) = false := by simpa using h
    have HE : Hid (decide (x.i = d) = false) := Lib.hid (decide_eq_false h)
    clear h hbel hb
    go_enter Try.func27, Try.ntmps27
    go_wp2
    go_ret
    exact ⟨by rw [HE.out]; rfl, HB.out⟩
theorem such_all (w0 : World) : Such 32 #[] (fun _ => true) w0 := by
  intro x W hbel
  have HB := Lib.hid (below_alloc W (.cells #[.int .i64 x.d, .string x.s, .int .i64 x.i] 64))
  clear hbel
  go_enter Try.func32, Try.ntmps32
  go_wp2
  go_ret
  exact ⟨rfl, HB.out⟩
theorem enter1 : ∀ args w, (callFunc 31 args).run Try.prog w = .ok (.enter 31 args) w := enters_of Try.func31 (by kernel_rfl) rfl
theorem enter2 : ∀ args w, (callFunc 27 args).run Try.prog w = .ok (.enter 27 args) w := enters_of Try.func27 (by kernel_rfl) rfl
theorem enter3 : ∀ args w, (callFunc 32 args).run Try.prog w = .ok (.enter 32 args) w := enters_of Try.func32 (by kernel_rfl) rfl
set_option maxHeartbeats 400000 in
theorem all_any (nb b c : Nat) (L : List En) (hlen : L.length ≤ 100000) (w : World) (h : DIs w nb b c L) :
    Calls Try.prog 24 #[.pointer (some ⟨nb, 0, none⟩)] w fun e w' => ∃ v, e = .returned v ∧ RowK 64 encE 3 w.heap.size w' v L ∧ Below w.heap.size w w' := by
  have HS := fun W hW => some_any nb b c L hlen _ #[] (fun _ => true) W enter3 (such_all W) hW
  have HH := Lib.hid h
  have HS2 := Lib.hid (HS w h)
  clear h HS
  go_enter Try.func24, Try.ntmps24
  go_wp2_with (go_at_call 26; refine HS2.out.mono ?_; rintro e w1 ⟨v, rfl, hr, hb1⟩; have HR := Lib.hid hr; have HB1 := Lib.hid hb1; clear hr hb1)
  go_ret
  have e : (L.filter fun _ => true) = L := List.filter_eq_self.2 (fun _ _ => rfl)
  exact ⟨v, rfl, by have := HR.out; rwa [e] at this, HB1.out⟩
set_option maxHeartbeats 400000 in
theorem of_any (nb b c : Nat) (L : List En) (hlen : L.length ≤ 100000) (i : Int) (w : World) (h : DIs w nb b c L) :
    Calls Try.prog 14 #[.pointer (some ⟨nb, 0, none⟩), .int .i64 i] w fun e w' => ∃ v, e = .returned v ∧ RowK 64 encE 3 w.heap.size w' v (L.filter fun a => decide (a.i = i)) ∧ Below w.heap.size w w' := by
  have HS2 := Lib.hid (some_any nb b c L hlen _ #[.pointer (some ⟨w.heap.size, 0, none⟩)] (fun a => decide (a.i = i)) (w.alloc (.cells #[.int .i64 i] 3)) enter2 (such_ino _ i _ (alloc_cell w _ _ 0 _ rfl)) (h.grow (below_alloc _ _)))
  clear h
  go_enter Try.func14, Try.ntmps14
  go_wp2_with (go_at_call 26; refine HS2.out.mono ?_; rintro e w1 ⟨v, rfl, hr, hb1⟩; have HR := Lib.hid hr; have HB1 := Lib.hid hb1; clear hr hb1)
  go_ret
  exact ⟨v, rfl, HR.out.mono (by simp), bstep (below_alloc w _) HB1.out⟩
end Go.Proofs.Ytffigodlfmnbpaa.DirW
