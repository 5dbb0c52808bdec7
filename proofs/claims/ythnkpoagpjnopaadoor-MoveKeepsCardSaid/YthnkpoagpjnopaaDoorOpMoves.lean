/- The moves of a record: the closure that looks at each, and the loop over them. -/
import Derived.Test.YthnkpoagpjnopaaDoorOpForms
namespace Go.Proofs.YthnkpoagpjnopaaDoor.OpW
set_option maxRecDepth 100000
open Go.RowKit OpP
set_option maxHeartbeats 800000 in
theorem mv_bad (m : Mv) (d : ByteArray) (hd : d.size ≤ 1000000) (b : Nat) (w : World) (hc : w.cell? ⟨b, 8, none⟩ = some (.string d)) :
    Calls Tryd.prog 72 #[.agg #[.int .i64 m.a, .int .i64 m.f, .int .i64 m.n, .int .i64 m.t], .pointer (some ⟨b, 0, none⟩)] w fun e w' => e = .returned (.bool (!(mvB d.size m))) ∧ Below w.heap.size w w' := by
  have HF : Hid (mvB d.size m = decide (0 ≤ m.a ∧ m.a ≤ 16383 ∧ 0 ≤ m.f ∧ m.f ≤ 1024 ∧ 1 ≤ m.n ∧ m.n ≤ 1024 ∧ 0 ≤ m.t ∧ m.t ≤ (d.size : Int) - m.n)) := Lib.hid rfl
  have H0 := Lib.hid (below_alloc w (.cells #[.int .i64 m.a, .int .i64 m.f, .int .i64 m.n, .int .i64 m.t] 69))
  have hlt := World.block_lt_of_cell? _ _ hc
  go_enter Tryd.func72, Tryd.ntmps72
  go_wp2_with (go_at_call 43; refine (within_any _ _ _ _).mono ?_; rintro e w2 ⟨rfl, rfl⟩)
  all_goals go_ret
  all_goals refine ⟨ret_bool ?_, H0.out⟩
  all_goals rw [HF.out, Bool.eq_iff_iff]
  all_goals simp
  all_goals omega
theorem mv_bad_is (m : Mv) (d : ByteArray) (x : Bool) (hx : mvB d.size m = x) (hd : d.size ≤ 1000000) (b : Nat) (w : World) (hc : w.cell? ⟨b, 8, none⟩ = some (.string d)) :
    Calls Tryd.prog 72 #[.agg #[.int .i64 m.a, .int .i64 m.f, .int .i64 m.n, .int .i64 m.t], .pointer (some ⟨b, 0, none⟩)] w fun e w' => e = .returned (.bool (!x)) ∧ Below w.heap.size w w' := by
  rw [← hx]; exact mv_bad m d hd b w hc
def Found (P : Bool) (e : Ending) : Prop := ∃ i : Int, e = .returned (.int .i64 i) ∧ decide (0 ≤ i) = P
set_option maxHeartbeats 1600000 in
theorem index_func (oa : Option Addr) (n cap : Nat) (l : List Mv) (hn : n = l.length) (hl : l.length ≤ 1000000) (d : ByteArray) (hd : d.size ≤ 1000000) (b : Nat) (w : World) (h : MvAt w oa l) (hc : w.cell? ⟨b, 8, none⟩ = some (.string d)) :
    Calls Tryd.prog 88 #[.slice oa n cap, .func (.func 72) #[] #[.pointer (some ⟨b, 0, none⟩)]] w fun e w' => Found (!(l.all (mvB d.size))) e ∧ Below w.heap.size w w' := by
  subst hn
  have HM := Lib.hid h
  have HC := Lib.hid hc
  clear h hc
  go_enter Tryd.func88, Tryd.ntmps88
  go_wp2_with fail
  go_loopw [8] (fun i wr => ∃ k : Nat, k ≤ l.length ∧ i = .int .i64 (k : Int) ∧ (l.take k).all (mvB d.size) = true ∧ Below w.heap.size w wr) (fun i _ => ((l.length : Int) - intOf i).toNat)
  case atStart => exact ⟨0, by omega, rfl, rfl, Below.refl _ _⟩
  case round =>
    obtain ⟨k, hk, rfl, hall, hbel⟩ := hrel
    have HB := Lib.hid hbel
    have HA := Lib.hid hall
    clear hbel hall
    by_cases hlt : k < l.length
    · obtain ⟨x, hx⟩ : ∃ x, l[k]? = some x := ⟨_, List.getElem?_eq_getElem hlt⟩
      obtain ⟨a, rfl, hab, c0, c1, c2, c3⟩ := mv_cells (HM.out.grow HB.out) hx
      have HCC := Lib.hid (cell_step HB.out HC.out)
      have hk0 : (0 : Int) ≤ (k : Int) := by omega
      have hkl : (k : Int) < (l.length : Int) := by omega
      have HX := Lib.hid hx
      clear hx
      cases hm : mvB d.size x with
      | true =>
        have HT : Hid ((l.take (k + 1)).all (mvB d.size) = true) := Lib.hid (by rw [List.take_add_one, HX.out, List.all_append, HA.out]; simp [hm])
        have HMB := Lib.hid hm
        clear hm
        go_wp2_with (go_at_call 72; refine (mv_bad_is x d true HMB.out hd b _ HCC.out).mono ?_; rintro e w1 ⟨rfl, hb1⟩; have HB1 := Lib.hid hb1; clear hb1)
        exact ⟨⟨k + 1, by omega, by simp, HT.out, HB.out.trans (HB1.out.mono HB.out.size)⟩, by simp [intOf]; omega⟩
      | false =>
        have HT : Hid (l.all (mvB d.size) = false) := Lib.hid (by
          rw [List.all_eq_false]
          exact ⟨x, List.mem_of_getElem? HX.out, by rw [hm]; simp⟩)
        have HMB := Lib.hid hm
        clear hm
        go_wp2_with (go_at_call 72; refine (mv_bad_is x d false HMB.out hd b _ HCC.out).mono ?_; rintro e w1 ⟨rfl, hb1⟩; have HB1 := Lib.hid hb1; clear hb1)
        go_ret
        exact ⟨⟨_, rfl, by rw [HT.out]; exact decide_eq_true (by omega)⟩, HB.out.trans (HB1.out.mono HB.out.size)⟩
    · have hk1 : ¬ ((k : Int) < (l.length : Int)) := by omega
      have HE : Hid (l.all (mvB d.size) = true) := Lib.hid (by have := HA.out; rwa [List.take_of_length_le (by omega)] at this)
      go_wp2_with fail
      go_ret
      exact ⟨⟨_, rfl, by rw [HE.out]; rfl⟩, HB.out⟩
theorem contains_func (oa : Option Addr) (n cap : Nat) (l : List Mv) (hn : n = l.length) (hl : l.length ≤ 1000000) (d : ByteArray) (hd : d.size ≤ 1000000) (b : Nat) (w : World) (h : MvAt w oa l) (hc : w.cell? ⟨b, 8, none⟩ = some (.string d)) :
    Calls Tryd.prog 71 #[.slice oa n cap, .func (.func 72) #[] #[.pointer (some ⟨b, 0, none⟩)]] w fun e w' => e = .returned (.bool (!(l.all (mvB d.size)))) ∧ Below w.heap.size w w' := by
  have HI := Lib.hid (index_func oa n cap l hn hl d hd b w h hc)
  clear h hc hn
  go_enter Tryd.func71, Tryd.ntmps71
  go_wp2_with (go_at_call 88; refine HI.out.mono ?_; rintro e w1 ⟨⟨r, rfl, hd⟩, hb1⟩; have HD := Lib.hid hd; have HB1 := Lib.hid hb1; clear hd hb1)
  go_ret
  exact ⟨ret_bool HD.out, HB1.out⟩
theorem contains_is (oa : Option Addr) (n cap : Nat) (l : List Mv) (x : Bool) (d : ByteArray) (hx : l.all (mvB d.size) = x) (hn : n = l.length) (hl : l.length ≤ 1000000) (hd : d.size ≤ 1000000) (b : Nat) (w : World) (h : MvAt w oa l) (hc : w.cell? ⟨b, 8, none⟩ = some (.string d)) :
    Calls Tryd.prog 71 #[.slice oa n cap, .func (.func 72) #[] #[.pointer (some ⟨b, 0, none⟩)]] w fun e w' => e = .returned (.bool (!x)) ∧ Below w.heap.size w w' := by
  rw [← hx]; exact contains_func oa n cap l hn hl d hd b w h hc
set_option maxHeartbeats 800000 in
theorem move_k (r : Rec) (h : r.k = 13) (hr : Fit r) (oa : Option Addr) (n c : Nat) (hn : n = r.m.length) (w : World) (hm : MvAt w oa r.m) : Calls Tryd.prog 70 #[.agg #[.int .i64 r.cl, .int .i64 r.sq, .int .i64 r.k, .string r.p, .string r.t, .int .i64 r.sz, .int .i64 r.h, .int .i64 r.o, .string r.d, .int .i64 r.tk, .int .i64 r.i, .slice oa n c]] w (FormPost r w) := by
  have HF := Lib.hid (form_move h)
  have H0 := Lib.hid (below_alloc w (.cells #[.int .i64 r.cl, .int .i64 r.sq, .int .i64 r.k, .string r.p, .string r.t, .int .i64 r.sz, .int .i64 r.h, .int .i64 r.o, .string r.d, .int .i64 r.tk, .int .i64 r.i, .slice oa n c] 34))
  have h3 := hr.2.2.1
  have h4 := hr.2.2.2
  have HM := Lib.hid (hm.grow H0.out)
  have HC : Hid ((w.alloc (.cells #[.int .i64 r.cl, .int .i64 r.sq, .int .i64 r.k, .string r.p, .string r.t, .int .i64 r.sz, .int .i64 r.h, .int .i64 r.o, .string r.d, .int .i64 r.tk, .int .i64 r.i, .slice oa n c] 34)).cell? ⟨w.heap.size, 8, none⟩ = some (.string r.d)) := Lib.hid (by rw [Lib.cell_of_heap (heap_alloc_new w _)]; rfl)
  have HN := Lib.hid hn
  have hnn : n ≤ 1000000 := by omega
  have hmf : ∀ (fn : Fn) (first cap : Array Value) (w : World), (Instr.makeFunc fn first cap).run Tryd.prog w = .ok (.func fn first cap) w := fun _ _ _ _ => rfl
  clear h hm hn
  go_enter Tryd.func70, Tryd.ntmps70
  go_wp2_with (first
    | (go_at_call 43; refine (within_any _ _ _ _).mono ?_; rintro e w2 ⟨rfl, rfl⟩)
    | (go_at_call 71; refine (contains_func oa n c r.m HN.out h4 r.d h3 w.heap.size _ HM.out HC.out).mono ?_; rintro e w3 ⟨rfl, hb3⟩; have HB3 := Lib.hid hb3; clear hb3))
  all_goals go_ret
  all_goals first
    | (refine ⟨ret_bool ?_, H0.out⟩
       rw [HF.out]
       symm
       rw [Bool.and_eq_false_iff]
       left
       exact decide_eq_false (by have := HN.out; omega))
    | (refine ⟨ret_bool ?_, bstep H0.out HB3.out⟩
       rw [HF.out]
       have hN := HN.out
       have hD : decide (1 ≤ r.i ∧ r.i ≤ 2147483647 ∧ 1 ≤ r.m.length ∧ r.m.length ≤ 16 ∧ r.d.size ≤ 1024) = true := decide_eq_true (by omega)
       rw [hD]
       simp)
end Go.Proofs.YthnkpoagpjnopaaDoor.OpW
