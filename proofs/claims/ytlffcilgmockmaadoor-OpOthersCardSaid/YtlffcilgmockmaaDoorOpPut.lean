/- op.put: one field of a record, packed. -/
import Derived.Test.YtlffcilgmockmaaDoorOpEncP
namespace Go.Proofs.YtlffcilgmockmaaDoor.OpW
set_option maxRecDepth 100000
open Go.RowKit OpP PackW
def PutPost (B b : Nat) (l : List UInt8) (sp : Bool) (w : World) (e : Ending) (w' : World) : Prop := e = .returned (.tuple #[]) ∧ PkAt B b l sp w' ∧ Fr B b w w'
theorem fdsF_112 (r : Rec) : fdsF 112 r = [fdT r.p] := by unfold fdsF; rw [if_pos rfl]
theorem fdsF_116 (r : Rec) : fdsF 116 r = [fdT r.t] := by unfold fdsF; rw [if_neg (by decide), if_pos rfl]
theorem fdsF_115 (r : Rec) : fdsF 115 r = [fdN r.sz 4] := by unfold fdsF; rw [if_neg (by decide), if_neg (by decide), if_pos rfl]
theorem fdsF_104 (r : Rec) : fdsF 104 r = [fdN r.h 4] := by unfold fdsF; rw [if_neg (by decide), if_neg (by decide), if_neg (by decide), if_pos rfl]
theorem fdsF_111 (r : Rec) : fdsF 111 r = [fdN r.o 4] := by unfold fdsF; rw [if_neg (by decide), if_neg (by decide), if_neg (by decide), if_neg (by decide), if_pos rfl]
theorem fdsF_100 (r : Rec) : fdsF 100 r = [fdT r.d] := by unfold fdsF; rw [if_neg (by decide), if_neg (by decide), if_neg (by decide), if_neg (by decide), if_neg (by decide), if_pos rfl]
theorem fdsF_107 (r : Rec) : fdsF 107 r = [fdN r.tk 8] := by unfold fdsF; rw [if_neg (by decide), if_neg (by decide), if_neg (by decide), if_neg (by decide), if_neg (by decide), if_neg (by decide), if_pos rfl]
theorem fdsF_105 (r : Rec) : fdsF 105 r = [fdN r.i 4] := by unfold fdsF; rw [if_neg (by decide), if_neg (by decide), if_neg (by decide), if_neg (by decide), if_neg (by decide), if_neg (by decide), if_neg (by decide), if_pos rfl]
theorem fdsF_109 (r : Rec) : fdsF 109 r = fdN r.m.length 1 :: r.m.flatMap mvF := by unfold fdsF; rw [if_neg (by decide), if_neg (by decide), if_neg (by decide), if_neg (by decide), if_neg (by decide), if_neg (by decide), if_neg (by decide), if_neg (by decide), if_pos rfl]
set_option maxHeartbeats 800000 in
theorem put_112 (B b : Nat) (l : List UInt8) (sp : Bool) (r : Rec) (hr : Fit r) (hw : Wf r) (oa : Option Addr) (n c : Nat) (w : World) (hp : PkAt B b l sp w) (hl : l.length ≤ 100000000) (hBw : B ≤ w.heap.size) :
    Calls Tryd.prog 22 #[.pointer (some ⟨b, 0, none⟩), .int .u8 112, .agg #[.int .i64 r.cl, .int .i64 r.sq, .int .i64 r.k, .string r.p, .string r.t, .int .i64 r.sz, .int .i64 r.h, .int .i64 r.o, .string r.d, .int .i64 r.tk, .int .i64 r.i, .slice oa n c]] w (PutPost B b (pkl l (fdsF 112 r)) (pkb sp (fdsF 112 r)) w) := by
  rw [fdsF_112, pkl_text, pkb_text]
  have HR := Lib.hid hr
  have HW := Lib.hid hw
  have HP := Lib.hid (hp.keep (below_alloc w (.cells #[.int .i64 r.cl, .int .i64 r.sq, .int .i64 r.k, .string r.p, .string r.t, .int .i64 r.sz, .int .i64 r.h, .int .i64 r.o, .string r.d, .int .i64 r.tk, .int .i64 r.i, .slice oa n c] 24)))
  have HF := Lib.hid ((Fr.refl B b w).alloc hBw (.cells #[.int .i64 r.cl, .int .i64 r.sq, .int .i64 r.k, .string r.p, .string r.t, .int .i64 r.sz, .int .i64 r.h, .int .i64 r.o, .string r.d, .int .i64 r.tk, .int .i64 r.i, .slice oa n c] 24))
  have hB2 : B ≤ (w.alloc (.cells #[.int .i64 r.cl, .int .i64 r.sq, .int .i64 r.k, .string r.p, .string r.t, .int .i64 r.sz, .int .i64 r.h, .int .i64 r.o, .string r.d, .int .i64 r.tk, .int .i64 r.i, .slice oa n c] 24)).heap.size := by rw [alloc_size]; omega
  have HB2 := Lib.hid hB2
  clear hp hr hw hB2
  go_enter Tryd.func22, Tryd.ntmps22
  go_wp2_with (go_at_call 44; refine (text_any B b l sp r.p _ HP.out (by have := HR.out.1; omega) HB2.out).mono ?_; rintro e w2 ⟨rfl, hp2, hf2⟩; have HP2 := Lib.hid hp2; have HF2 := Lib.hid (HF.out.trans hf2); clear hp2 hf2)
  go_end0
  exact ⟨rfl, HP2.out, HF2.out⟩
set_option maxHeartbeats 800000 in
theorem put_116 (B b : Nat) (l : List UInt8) (sp : Bool) (r : Rec) (hr : Fit r) (hw : Wf r) (oa : Option Addr) (n c : Nat) (w : World) (hp : PkAt B b l sp w) (hl : l.length ≤ 100000000) (hBw : B ≤ w.heap.size) :
    Calls Tryd.prog 22 #[.pointer (some ⟨b, 0, none⟩), .int .u8 116, .agg #[.int .i64 r.cl, .int .i64 r.sq, .int .i64 r.k, .string r.p, .string r.t, .int .i64 r.sz, .int .i64 r.h, .int .i64 r.o, .string r.d, .int .i64 r.tk, .int .i64 r.i, .slice oa n c]] w (PutPost B b (pkl l (fdsF 116 r)) (pkb sp (fdsF 116 r)) w) := by
  rw [fdsF_116, pkl_text, pkb_text]
  have HR := Lib.hid hr
  have HW := Lib.hid hw
  have HP := Lib.hid (hp.keep (below_alloc w (.cells #[.int .i64 r.cl, .int .i64 r.sq, .int .i64 r.k, .string r.p, .string r.t, .int .i64 r.sz, .int .i64 r.h, .int .i64 r.o, .string r.d, .int .i64 r.tk, .int .i64 r.i, .slice oa n c] 24)))
  have HF := Lib.hid ((Fr.refl B b w).alloc hBw (.cells #[.int .i64 r.cl, .int .i64 r.sq, .int .i64 r.k, .string r.p, .string r.t, .int .i64 r.sz, .int .i64 r.h, .int .i64 r.o, .string r.d, .int .i64 r.tk, .int .i64 r.i, .slice oa n c] 24))
  have hB2 : B ≤ (w.alloc (.cells #[.int .i64 r.cl, .int .i64 r.sq, .int .i64 r.k, .string r.p, .string r.t, .int .i64 r.sz, .int .i64 r.h, .int .i64 r.o, .string r.d, .int .i64 r.tk, .int .i64 r.i, .slice oa n c] 24)).heap.size := by rw [alloc_size]; omega
  have HB2 := Lib.hid hB2
  clear hp hr hw hB2
  go_enter Tryd.func22, Tryd.ntmps22
  go_wp2_with (go_at_call 44; refine (text_any B b l sp r.t _ HP.out (by have := HR.out.2.1; omega) HB2.out).mono ?_; rintro e w2 ⟨rfl, hp2, hf2⟩; have HP2 := Lib.hid hp2; have HF2 := Lib.hid (HF.out.trans hf2); clear hp2 hf2)
  go_end0
  exact ⟨rfl, HP2.out, HF2.out⟩
set_option maxHeartbeats 800000 in
theorem put_100 (B b : Nat) (l : List UInt8) (sp : Bool) (r : Rec) (hr : Fit r) (hw : Wf r) (oa : Option Addr) (n c : Nat) (w : World) (hp : PkAt B b l sp w) (hl : l.length ≤ 100000000) (hBw : B ≤ w.heap.size) :
    Calls Tryd.prog 22 #[.pointer (some ⟨b, 0, none⟩), .int .u8 100, .agg #[.int .i64 r.cl, .int .i64 r.sq, .int .i64 r.k, .string r.p, .string r.t, .int .i64 r.sz, .int .i64 r.h, .int .i64 r.o, .string r.d, .int .i64 r.tk, .int .i64 r.i, .slice oa n c]] w (PutPost B b (pkl l (fdsF 100 r)) (pkb sp (fdsF 100 r)) w) := by
  rw [fdsF_100, pkl_text, pkb_text]
  have HR := Lib.hid hr
  have HW := Lib.hid hw
  have HP := Lib.hid (hp.keep (below_alloc w (.cells #[.int .i64 r.cl, .int .i64 r.sq, .int .i64 r.k, .string r.p, .string r.t, .int .i64 r.sz, .int .i64 r.h, .int .i64 r.o, .string r.d, .int .i64 r.tk, .int .i64 r.i, .slice oa n c] 24)))
  have HF := Lib.hid ((Fr.refl B b w).alloc hBw (.cells #[.int .i64 r.cl, .int .i64 r.sq, .int .i64 r.k, .string r.p, .string r.t, .int .i64 r.sz, .int .i64 r.h, .int .i64 r.o, .string r.d, .int .i64 r.tk, .int .i64 r.i, .slice oa n c] 24))
  have hB2 : B ≤ (w.alloc (.cells #[.int .i64 r.cl, .int .i64 r.sq, .int .i64 r.k, .string r.p, .string r.t, .int .i64 r.sz, .int .i64 r.h, .int .i64 r.o, .string r.d, .int .i64 r.tk, .int .i64 r.i, .slice oa n c] 24)).heap.size := by rw [alloc_size]; omega
  have HB2 := Lib.hid hB2
  clear hp hr hw hB2
  go_enter Tryd.func22, Tryd.ntmps22
  go_wp2_with (go_at_call 44; refine (text_any B b l sp r.d _ HP.out (by have := HR.out.2.2.1; omega) HB2.out).mono ?_; rintro e w2 ⟨rfl, hp2, hf2⟩; have HP2 := Lib.hid hp2; have HF2 := Lib.hid (HF.out.trans hf2); clear hp2 hf2)
  go_end0
  exact ⟨rfl, HP2.out, HF2.out⟩
set_option maxHeartbeats 800000 in
theorem put_107 (B b : Nat) (l : List UInt8) (sp : Bool) (r : Rec) (hr : Fit r) (hw : Wf r) (oa : Option Addr) (n c : Nat) (w : World) (hp : PkAt B b l sp w) (hl : l.length ≤ 100000000) (hBw : B ≤ w.heap.size) :
    Calls Tryd.prog 22 #[.pointer (some ⟨b, 0, none⟩), .int .u8 107, .agg #[.int .i64 r.cl, .int .i64 r.sq, .int .i64 r.k, .string r.p, .string r.t, .int .i64 r.sz, .int .i64 r.h, .int .i64 r.o, .string r.d, .int .i64 r.tk, .int .i64 r.i, .slice oa n c]] w (PutPost B b (pkl l (fdsF 107 r)) (pkb sp (fdsF 107 r)) w) := by
  rw [fdsF_107, pkl_num _ _ _ (by decide), pkb_num _ _ _ (by decide)]
  have HR := Lib.hid hr
  have HW := Lib.hid hw
  have HP := Lib.hid (hp.keep (below_alloc w (.cells #[.int .i64 r.cl, .int .i64 r.sq, .int .i64 r.k, .string r.p, .string r.t, .int .i64 r.sz, .int .i64 r.h, .int .i64 r.o, .string r.d, .int .i64 r.tk, .int .i64 r.i, .slice oa n c] 24)))
  have HF := Lib.hid ((Fr.refl B b w).alloc hBw (.cells #[.int .i64 r.cl, .int .i64 r.sq, .int .i64 r.k, .string r.p, .string r.t, .int .i64 r.sz, .int .i64 r.h, .int .i64 r.o, .string r.d, .int .i64 r.tk, .int .i64 r.i, .slice oa n c] 24))
  have hB2 : B ≤ (w.alloc (.cells #[.int .i64 r.cl, .int .i64 r.sq, .int .i64 r.k, .string r.p, .string r.t, .int .i64 r.sz, .int .i64 r.h, .int .i64 r.o, .string r.d, .int .i64 r.tk, .int .i64 r.i, .slice oa n c] 24)).heap.size := by rw [alloc_size]; omega
  have HB2 := Lib.hid hB2
  clear hp hr hw hB2
  go_enter Tryd.func22, Tryd.ntmps22
  go_wp2_with (go_at_call 21; refine (num_any B b l sp r.tk 8 HW.out.tk _ HP.out (by omega) HB2.out).mono ?_; rintro e w2 ⟨rfl, hp2, hf2⟩; have HP2 := Lib.hid hp2; have HF2 := Lib.hid (HF.out.trans hf2); clear hp2 hf2)
  go_end0
  exact ⟨rfl, HP2.out, HF2.out⟩
set_option maxHeartbeats 800000 in
theorem put_115 (B b : Nat) (l : List UInt8) (sp : Bool) (r : Rec) (hr : Fit r) (hw : Wf r) (oa : Option Addr) (n c : Nat) (w : World) (hp : PkAt B b l sp w) (hl : l.length ≤ 100000000) (hBw : B ≤ w.heap.size) :
    Calls Tryd.prog 22 #[.pointer (some ⟨b, 0, none⟩), .int .u8 115, .agg #[.int .i64 r.cl, .int .i64 r.sq, .int .i64 r.k, .string r.p, .string r.t, .int .i64 r.sz, .int .i64 r.h, .int .i64 r.o, .string r.d, .int .i64 r.tk, .int .i64 r.i, .slice oa n c]] w (PutPost B b (pkl l (fdsF 115 r)) (pkb sp (fdsF 115 r)) w) := by
  rw [fdsF_115, pkl_num _ _ _ (by decide), pkb_num _ _ _ (by decide)]
  have HR := Lib.hid hr
  have HW := Lib.hid hw
  have HP := Lib.hid (hp.keep (below_alloc w (.cells #[.int .i64 r.cl, .int .i64 r.sq, .int .i64 r.k, .string r.p, .string r.t, .int .i64 r.sz, .int .i64 r.h, .int .i64 r.o, .string r.d, .int .i64 r.tk, .int .i64 r.i, .slice oa n c] 24)))
  have HF := Lib.hid ((Fr.refl B b w).alloc hBw (.cells #[.int .i64 r.cl, .int .i64 r.sq, .int .i64 r.k, .string r.p, .string r.t, .int .i64 r.sz, .int .i64 r.h, .int .i64 r.o, .string r.d, .int .i64 r.tk, .int .i64 r.i, .slice oa n c] 24))
  have hB2 : B ≤ (w.alloc (.cells #[.int .i64 r.cl, .int .i64 r.sq, .int .i64 r.k, .string r.p, .string r.t, .int .i64 r.sz, .int .i64 r.h, .int .i64 r.o, .string r.d, .int .i64 r.tk, .int .i64 r.i, .slice oa n c] 24)).heap.size := by rw [alloc_size]; omega
  have HB2 := Lib.hid hB2
  clear hp hr hw hB2
  go_enter Tryd.func22, Tryd.ntmps22
  go_wp2_with (go_at_call 21; refine (num_any B b l sp r.sz 4 HW.out.sz _ HP.out (by omega) HB2.out).mono ?_; rintro e w2 ⟨rfl, hp2, hf2⟩; have HP2 := Lib.hid hp2; have HF2 := Lib.hid (HF.out.trans hf2); clear hp2 hf2)
  go_end0
  exact ⟨rfl, HP2.out, HF2.out⟩
set_option maxHeartbeats 800000 in
theorem put_104 (B b : Nat) (l : List UInt8) (sp : Bool) (r : Rec) (hr : Fit r) (hw : Wf r) (oa : Option Addr) (n c : Nat) (w : World) (hp : PkAt B b l sp w) (hl : l.length ≤ 100000000) (hBw : B ≤ w.heap.size) :
    Calls Tryd.prog 22 #[.pointer (some ⟨b, 0, none⟩), .int .u8 104, .agg #[.int .i64 r.cl, .int .i64 r.sq, .int .i64 r.k, .string r.p, .string r.t, .int .i64 r.sz, .int .i64 r.h, .int .i64 r.o, .string r.d, .int .i64 r.tk, .int .i64 r.i, .slice oa n c]] w (PutPost B b (pkl l (fdsF 104 r)) (pkb sp (fdsF 104 r)) w) := by
  rw [fdsF_104, pkl_num _ _ _ (by decide), pkb_num _ _ _ (by decide)]
  have HR := Lib.hid hr
  have HW := Lib.hid hw
  have HP := Lib.hid (hp.keep (below_alloc w (.cells #[.int .i64 r.cl, .int .i64 r.sq, .int .i64 r.k, .string r.p, .string r.t, .int .i64 r.sz, .int .i64 r.h, .int .i64 r.o, .string r.d, .int .i64 r.tk, .int .i64 r.i, .slice oa n c] 24)))
  have HF := Lib.hid ((Fr.refl B b w).alloc hBw (.cells #[.int .i64 r.cl, .int .i64 r.sq, .int .i64 r.k, .string r.p, .string r.t, .int .i64 r.sz, .int .i64 r.h, .int .i64 r.o, .string r.d, .int .i64 r.tk, .int .i64 r.i, .slice oa n c] 24))
  have hB2 : B ≤ (w.alloc (.cells #[.int .i64 r.cl, .int .i64 r.sq, .int .i64 r.k, .string r.p, .string r.t, .int .i64 r.sz, .int .i64 r.h, .int .i64 r.o, .string r.d, .int .i64 r.tk, .int .i64 r.i, .slice oa n c] 24)).heap.size := by rw [alloc_size]; omega
  have HB2 := Lib.hid hB2
  clear hp hr hw hB2
  go_enter Tryd.func22, Tryd.ntmps22
  go_wp2_with (go_at_call 21; refine (num_any B b l sp r.h 4 HW.out.h _ HP.out (by omega) HB2.out).mono ?_; rintro e w2 ⟨rfl, hp2, hf2⟩; have HP2 := Lib.hid hp2; have HF2 := Lib.hid (HF.out.trans hf2); clear hp2 hf2)
  go_end0
  exact ⟨rfl, HP2.out, HF2.out⟩
set_option maxHeartbeats 800000 in
theorem put_111 (B b : Nat) (l : List UInt8) (sp : Bool) (r : Rec) (hr : Fit r) (hw : Wf r) (oa : Option Addr) (n c : Nat) (w : World) (hp : PkAt B b l sp w) (hl : l.length ≤ 100000000) (hBw : B ≤ w.heap.size) :
    Calls Tryd.prog 22 #[.pointer (some ⟨b, 0, none⟩), .int .u8 111, .agg #[.int .i64 r.cl, .int .i64 r.sq, .int .i64 r.k, .string r.p, .string r.t, .int .i64 r.sz, .int .i64 r.h, .int .i64 r.o, .string r.d, .int .i64 r.tk, .int .i64 r.i, .slice oa n c]] w (PutPost B b (pkl l (fdsF 111 r)) (pkb sp (fdsF 111 r)) w) := by
  rw [fdsF_111, pkl_num _ _ _ (by decide), pkb_num _ _ _ (by decide)]
  have HR := Lib.hid hr
  have HW := Lib.hid hw
  have HP := Lib.hid (hp.keep (below_alloc w (.cells #[.int .i64 r.cl, .int .i64 r.sq, .int .i64 r.k, .string r.p, .string r.t, .int .i64 r.sz, .int .i64 r.h, .int .i64 r.o, .string r.d, .int .i64 r.tk, .int .i64 r.i, .slice oa n c] 24)))
  have HF := Lib.hid ((Fr.refl B b w).alloc hBw (.cells #[.int .i64 r.cl, .int .i64 r.sq, .int .i64 r.k, .string r.p, .string r.t, .int .i64 r.sz, .int .i64 r.h, .int .i64 r.o, .string r.d, .int .i64 r.tk, .int .i64 r.i, .slice oa n c] 24))
  have hB2 : B ≤ (w.alloc (.cells #[.int .i64 r.cl, .int .i64 r.sq, .int .i64 r.k, .string r.p, .string r.t, .int .i64 r.sz, .int .i64 r.h, .int .i64 r.o, .string r.d, .int .i64 r.tk, .int .i64 r.i, .slice oa n c] 24)).heap.size := by rw [alloc_size]; omega
  have HB2 := Lib.hid hB2
  clear hp hr hw hB2
  go_enter Tryd.func22, Tryd.ntmps22
  go_wp2_with (go_at_call 21; refine (num_any B b l sp r.o 4 HW.out.o _ HP.out (by omega) HB2.out).mono ?_; rintro e w2 ⟨rfl, hp2, hf2⟩; have HP2 := Lib.hid hp2; have HF2 := Lib.hid (HF.out.trans hf2); clear hp2 hf2)
  go_end0
  exact ⟨rfl, HP2.out, HF2.out⟩
set_option maxHeartbeats 800000 in
theorem put_105 (B b : Nat) (l : List UInt8) (sp : Bool) (r : Rec) (hr : Fit r) (hw : Wf r) (oa : Option Addr) (n c : Nat) (w : World) (hp : PkAt B b l sp w) (hl : l.length ≤ 100000000) (hBw : B ≤ w.heap.size) :
    Calls Tryd.prog 22 #[.pointer (some ⟨b, 0, none⟩), .int .u8 105, .agg #[.int .i64 r.cl, .int .i64 r.sq, .int .i64 r.k, .string r.p, .string r.t, .int .i64 r.sz, .int .i64 r.h, .int .i64 r.o, .string r.d, .int .i64 r.tk, .int .i64 r.i, .slice oa n c]] w (PutPost B b (pkl l (fdsF 105 r)) (pkb sp (fdsF 105 r)) w) := by
  rw [fdsF_105, pkl_num _ _ _ (by decide), pkb_num _ _ _ (by decide)]
  have HR := Lib.hid hr
  have HW := Lib.hid hw
  have HP := Lib.hid (hp.keep (below_alloc w (.cells #[.int .i64 r.cl, .int .i64 r.sq, .int .i64 r.k, .string r.p, .string r.t, .int .i64 r.sz, .int .i64 r.h, .int .i64 r.o, .string r.d, .int .i64 r.tk, .int .i64 r.i, .slice oa n c] 24)))
  have HF := Lib.hid ((Fr.refl B b w).alloc hBw (.cells #[.int .i64 r.cl, .int .i64 r.sq, .int .i64 r.k, .string r.p, .string r.t, .int .i64 r.sz, .int .i64 r.h, .int .i64 r.o, .string r.d, .int .i64 r.tk, .int .i64 r.i, .slice oa n c] 24))
  have hB2 : B ≤ (w.alloc (.cells #[.int .i64 r.cl, .int .i64 r.sq, .int .i64 r.k, .string r.p, .string r.t, .int .i64 r.sz, .int .i64 r.h, .int .i64 r.o, .string r.d, .int .i64 r.tk, .int .i64 r.i, .slice oa n c] 24)).heap.size := by rw [alloc_size]; omega
  have HB2 := Lib.hid hB2
  clear hp hr hw hB2
  go_enter Tryd.func22, Tryd.ntmps22
  go_wp2_with (go_at_call 21; refine (num_any B b l sp r.i 4 HW.out.i _ HP.out (by omega) HB2.out).mono ?_; rintro e w2 ⟨rfl, hp2, hf2⟩; have HP2 := Lib.hid hp2; have HF2 := Lib.hid (HF.out.trans hf2); clear hp2 hf2)
  go_end0
  exact ⟨rfl, HP2.out, HF2.out⟩
theorem flat_snoc {l : List Mv} {k : Nat} {x : Mv} (h : l[k]? = some x) : (l.take (k + 1)).flatMap mvF = (l.take k).flatMap mvF ++ mvF x := by
  rw [List.take_add_one, h, List.flatMap_append]; simp
theorem pkl_cons (l : List UInt8) (v n : Int) (hn : n ≠ 0) (xs : List PackW.Fd) : pkl l (fdN v n :: xs) = pkl (numL l v n) xs := by
  rw [pkl, fdN]; exact congrArg (fun z => pkl z xs) (if_neg hn)
theorem pkb_cons (b : Bool) (v n : Int) (hn : n ≠ 0) (xs : List PackW.Fd) : pkb b (fdN v n :: xs) = pkb (numB b v n) xs := by
  rw [pkb, fdN]; exact congrArg (fun z => pkb z xs) (if_neg hn)
/-- the moves' loop -/
structure MvL (B b : Nat) (l : List UInt8) (sp : Bool) (m : List Mv) (w : World) (k : Nat) (wr : World) : Prop where
  pk : PkAt B b (pkl l ((m.take k).flatMap mvF)) (pkb sp ((m.take k).flatMap mvF)) wr
  fr : Fr B b w wr
  len : (pkl l ((m.take k).flatMap mvF)).length ≤ 100000100 + 40 * k
/-- the four numbers' loop -/
structure MvJ (B b : Nat) (l : List UInt8) (sp : Bool) (x : Mv) (w : World) (j : Nat) (wr : World) : Prop where
  pk : PkAt B b (pkl l ((mvF x).take j)) (pkb sp ((mvF x).take j)) wr
  fr : Fr B b w wr
  len : (pkl l ((mvF x).take j)).length ≤ l.length + 8 * j
theorem MvJ.step {B b : Nat} {l : List UInt8} {sp : Bool} {x : Mv} {w wr w' : World} {j : Nat} {v : Int} (h : MvJ B b l sp x w j wr) (hx : (mvF x).take (j + 1) = (mvF x).take j ++ [fdN v 2]) (hp : PkAt B b (numL (pkl l ((mvF x).take j)) v 2) (numB (pkb sp ((mvF x).take j)) v 2) w') (hf : Fr B b wr w') : MvJ B b l sp x w (j + 1) w' := by
  refine ⟨?_, h.fr.trans hf, ?_⟩
  · rw [hx, pkl_app, pkb_app, pkl_num _ _ _ (by decide), pkb_num _ _ _ (by decide)]; exact hp
  · rw [hx, pkl_app, pkl_num _ _ _ (by decide)]
    have h1 := num_len' (pkl l ((mvF x).take j)) v 2
    have h2 := h.len
    omega
set_option maxHeartbeats 3200000 in
theorem put_109 (B b : Nat) (l : List UInt8) (sp : Bool) (r : Rec) (hr : Fit r) (hw : Wf r) (oa : Option Addr) (n c : Nat) (hn : n = r.m.length) (w : World) (hp : PkAt B b l sp w) (hl : l.length ≤ 100000000) (hBw : B ≤ w.heap.size) (hm : KAt encM 4 B oa r.m w) :
    Calls Tryd.prog 22 #[.pointer (some ⟨b, 0, none⟩), .int .u8 109, .agg #[.int .i64 r.cl, .int .i64 r.sq, .int .i64 r.k, .string r.p, .string r.t, .int .i64 r.sz, .int .i64 r.h, .int .i64 r.o, .string r.d, .int .i64 r.tk, .int .i64 r.i, .slice oa n c]] w (PutPost B b (pkl l (fdsF 109 r)) (pkb sp (fdsF 109 r)) w) := by
  rw [fdsF_109, pkl_cons _ _ _ (by decide), pkb_cons _ _ _ (by decide), ← hn]
  have HN := Lib.hid hn
  have hnn : n ≤ 1000000 := by have := hr.2.2.2; omega
  have HW := Lib.hid hw.m
  have HP := Lib.hid (hp.keep (below_alloc w (.cells #[.int .i64 r.cl, .int .i64 r.sq, .int .i64 r.k, .string r.p, .string r.t, .int .i64 r.sz, .int .i64 r.h, .int .i64 r.o, .string r.d, .int .i64 r.tk, .int .i64 r.i, .slice oa n c] 24)))
  have HF := Lib.hid ((Fr.refl B b w).alloc hBw (.cells #[.int .i64 r.cl, .int .i64 r.sq, .int .i64 r.k, .string r.p, .string r.t, .int .i64 r.sz, .int .i64 r.h, .int .i64 r.o, .string r.d, .int .i64 r.tk, .int .i64 r.i, .slice oa n c] 24))
  have HM := Lib.hid (hm.below HF.out.below)
  have hB2 : B ≤ (w.alloc (.cells #[.int .i64 r.cl, .int .i64 r.sq, .int .i64 r.k, .string r.p, .string r.t, .int .i64 r.sz, .int .i64 r.h, .int .i64 r.o, .string r.d, .int .i64 r.tk, .int .i64 r.i, .slice oa n c] 24)).heap.size := by rw [alloc_size]; omega
  have HB2 := Lib.hid hB2
  have HBX : Hid (OBox (w.alloc (.cells #[.int .i64 r.cl, .int .i64 r.sq, .int .i64 r.k, .string r.p, .string r.t, .int .i64 r.sz, .int .i64 r.h, .int .i64 r.o, .string r.d, .int .i64 r.tk, .int .i64 r.i, .slice oa n c] 24)) w.heap.size r (.slice oa n c)) := Lib.hid (heap_alloc_new w _)
  have HNE : Hid (w.heap.size ≠ b) := Lib.hid (by have := hp.lt; omega)
  have hl1 : (numL l (n : Int) 1).length ≤ 100000100 := by have := num_len' l (n : Int) 1; omega
  clear hp hr hw hB2 hm hn
  go_enter Tryd.func22, Tryd.ntmps22
  go_wp2_with (go_at_call 21; refine (num_any B b l sp n 1 (by omega) _ HP.out (by omega) HB2.out).mono ?_; rintro e w2 ⟨rfl, hp2, hf2⟩; have HP2 := Lib.hid hp2; have HF2 := Lib.hid (HF.out.trans hf2); have hx2 : OBox w2 w.heap.size r (.slice oa n c) := hf2.far _ _ _ _ HNE.out (by decide) HBX.out; have HMM := Lib.hid (HM.out.below hf2.below); obtain ⟨d0, d1, d2, d3, d4, d5, d6, d7, d8, d9, d10, d11⟩ := hx2.cells; clear hp2 hf2 hx2 d0 d1 d2 d3 d4 d5 d6 d7 d8 d9 d10)
  clear d11
  generalize hgl : numL l (n : Int) 1 = l1 at *
  generalize hgs : numB sp (n : Int) 1 = s1 at *
  clear hgl hgs
  go_loopw [45] (fun i wr => ∃ k : Nat, k ≤ n ∧ i = .int .i64 (k : Int) ∧ MvL B b l1 s1 r.m w2 k wr) (fun i _ => ((n : Int) - intOf i).toNat)
  case atStart => exact ⟨0, by omega, rfl, ⟨HP2.out, Fr.refl _ _ _, hl1⟩⟩
  case round =>
    obtain ⟨k, hk, rfl, hmv⟩ := hrel
    have HL := Lib.hid hmv
    have hlen := hmv.len
    clear hmv
    by_cases hlt : k < n
    · obtain ⟨x, hx⟩ : ∃ x, r.m[k]? = some x := ⟨_, List.getElem?_eq_getElem (by have := HN.out; omega)⟩
      obtain ⟨a, rfl, hab, hc⟩ := (HMM.out.below HL.out.fr.below) k x hx
      have c0 := hc 0 _ rfl
      have c1 := hc 1 _ rfl
      have c2 := hc 2 _ rfl
      have c3 := hc 3 _ rfl
      simp only [fieldOf] at c0 c1 c2 c3
      have hk0 : (0 : Int) ≤ (k : Int) := by omega
      have hkl : (k : Int) < (n : Int) := by omega
      have hbB : B ≤ wr.heap.size := by have h1 := HL.out.pk.lt; have h2 := HL.out.pk.base; omega
      have z0 : (a.add (k * 4)).block < wr.heap.size := by rw [add_block]; omega
      have HXM := Lib.hid hx
      have HWX := Lib.hid (HW.out x (List.mem_of_getElem? hx))
      clear hx hc
      go_wp2_with fail
      generalize hgl : pkl l1 ((r.m.take k).flatMap mvF) = l2 at *
      generalize hgs : pkb s1 ((r.m.take k).flatMap mvF) = s2 at *
      have HGL := Lib.hid hgl
      have HGS := Lib.hid hgs
      have HP3 : Hid (PkAt B b l2 s2 (wr.alloc (.cells #[.int .i64 x.a, .int .i64 x.f, .int .i64 x.n, .int .i64 x.t] 51))) := Lib.hid (by rw [← hgl, ← hgs]; exact HL.out.pk.keep (below_alloc wr _))
      have HF3 : Hid (Fr B b w2 (wr.alloc (.cells #[.int .i64 x.a, .int .i64 x.f, .int .i64 x.n, .int .i64 x.t] 51))) := Lib.hid (HL.out.fr.alloc hbB _)
      clear hgl hgs c0 c1 c2 c3
      go_loopw [58] (fun i wq => ∃ j : Nat, j ≤ 4 ∧ i = .int .i64 (j : Int) ∧ MvJ B b l2 s2 x w2 j wq) (fun i _ => ((4 : Int) - intOf i).toNat)
      case atStart => exact ⟨0, by omega, rfl, ⟨HP3.out, HF3.out, by simp [pkl]⟩⟩
      case round =>
        obtain ⟨j, hj, rfl, hmj⟩ := hrel
        have HJ := Lib.hid hmj
        have hlen2 := hmj.len
        clear hmj
        by_cases hj4 : j < 4
        · have HJB : Hid (B ≤ wr.heap.size) := Lib.hid (by have h1 := HJ.out.pk.lt; have h2 := HJ.out.pk.base; omega)
          rcases (show j = 0 ∨ j = 1 ∨ j = 2 ∨ j = 3 by omega) with rfl | rfl | rfl | rfl
          · have i0 : ∀ w : World, (Instr.index 75 (.agg #[.int .i64 x.a, .int .i64 x.f, .int .i64 x.n, .int .i64 x.t]) (.int .i64 0)).run Tryd.prog w = .ok (.int .i64 x.a) w := fun _ => by kernel_rfl
            go_wp2_with (go_at_call 21; refine (num_any B b (pkl l2 ((mvF x).take 0)) (pkb s2 ((mvF x).take 0)) x.a 2 HWX.out.1 _ HJ.out.pk (by omega) HJB.out).mono ?_; rintro e w5 ⟨rfl, hp5, hf5⟩; have HP5 := Lib.hid hp5; have HF5 := Lib.hid hf5; clear hp5 hf5)
            go_round
            case rel => exact ⟨1, by omega, by simp, MvJ.step HJ.out rfl HP5.out HF5.out⟩
            case measure => simp [intOf]
          · have i0 : ∀ w : World, (Instr.index 75 (.agg #[.int .i64 x.a, .int .i64 x.f, .int .i64 x.n, .int .i64 x.t]) (.int .i64 1)).run Tryd.prog w = .ok (.int .i64 x.f) w := fun _ => by kernel_rfl
            go_wp2_with (go_at_call 21; refine (num_any B b (pkl l2 ((mvF x).take 1)) (pkb s2 ((mvF x).take 1)) x.f 2 HWX.out.2.1 _ HJ.out.pk (by omega) HJB.out).mono ?_; rintro e w5 ⟨rfl, hp5, hf5⟩; have HP5 := Lib.hid hp5; have HF5 := Lib.hid hf5; clear hp5 hf5)
            go_round
            case rel => exact ⟨2, by omega, by simp, MvJ.step HJ.out rfl HP5.out HF5.out⟩
            case measure => simp [intOf]
          · have i0 : ∀ w : World, (Instr.index 75 (.agg #[.int .i64 x.a, .int .i64 x.f, .int .i64 x.n, .int .i64 x.t]) (.int .i64 2)).run Tryd.prog w = .ok (.int .i64 x.n) w := fun _ => by kernel_rfl
            go_wp2_with (go_at_call 21; refine (num_any B b (pkl l2 ((mvF x).take 2)) (pkb s2 ((mvF x).take 2)) x.n 2 HWX.out.2.2.1 _ HJ.out.pk (by omega) HJB.out).mono ?_; rintro e w5 ⟨rfl, hp5, hf5⟩; have HP5 := Lib.hid hp5; have HF5 := Lib.hid hf5; clear hp5 hf5)
            go_round
            case rel => exact ⟨3, by omega, by simp, MvJ.step HJ.out rfl HP5.out HF5.out⟩
            case measure => simp [intOf]
          · have i0 : ∀ w : World, (Instr.index 75 (.agg #[.int .i64 x.a, .int .i64 x.f, .int .i64 x.n, .int .i64 x.t]) (.int .i64 3)).run Tryd.prog w = .ok (.int .i64 x.t) w := fun _ => by kernel_rfl
            go_wp2_with (go_at_call 21; refine (num_any B b (pkl l2 ((mvF x).take 3)) (pkb s2 ((mvF x).take 3)) x.t 2 HWX.out.2.2.2 _ HJ.out.pk (by omega) HJB.out).mono ?_; rintro e w5 ⟨rfl, hp5, hf5⟩; have HP5 := Lib.hid hp5; have HF5 := Lib.hid hf5; clear hp5 hf5)
            go_round
            case rel => exact ⟨4, by omega, by simp, MvJ.step HJ.out rfl HP5.out HF5.out⟩
            case measure => simp [intOf]
        · obtain rfl : j = 4 := by omega
          have HFIN : Hid (MvL B b l1 s1 r.m w2 (k + 1) wr) := Lib.hid (by
            have h4 : (mvF x).take 4 = mvF x := rfl
            have hj := HJ.out
            refine ⟨?_, hj.fr, ?_⟩
            · rw [flat_snoc HXM.out, pkl_app, pkb_app, HGL.out, HGS.out]
              have := hj.pk
              rwa [h4] at this
            · rw [flat_snoc HXM.out, pkl_app, HGL.out]
              have := hj.len
              rw [h4] at this
              omega)
          go_wp2_with fail
          exact ⟨⟨k + 1, by omega, by simp, HFIN.out⟩, by simp [intOf]; omega⟩
    · have hk1 : ¬ ((k : Int) < (n : Int)) := by omega
      have HE : Hid (r.m.take k = r.m) := Lib.hid (List.take_of_length_le (by have := HN.out; omega))
      have HPK := Lib.hid HL.out.pk
      rw [HE.out] at HPK
      go_wp2_with fail
      go_end0
      exact ⟨rfl, HPK.out, HF2.out.trans HL.out.fr⟩
end Go.Proofs.YtlffcilgmockmaaDoor.OpW
