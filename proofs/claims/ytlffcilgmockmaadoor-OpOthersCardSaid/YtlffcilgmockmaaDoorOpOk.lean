/- A record that has a form: each of its fields can be packed, and together they are short. -/
import Derived.Test.YtlffcilgmockmaaDoorOpPut
namespace Go.Proofs.YtlffcilgmockmaaDoor.OpW
set_option maxRecDepth 100000
set_option linter.unusedSimpArgs false
open Go.RowKit OpP PackW
/-- a field that can be packed -/
def FdOk (x : PackW.Fd) : Prop := (x.size = 0 ∧ x.s.size < 65536) ∨ (x.size ≠ 0 ∧ May x.v x.size)
def fdB (x : PackW.Fd) : List UInt8 := if x.size = 0 then ShiftP.putN x.s.size 2 ++ x.s.data.toList else ShiftP.putN x.v.toNat x.size.toNat
theorem pk_ok (xs : List PackW.Fd) (h : ∀ x ∈ xs, FdOk x) : ∀ (l : List UInt8), pkl l xs = l ++ xs.flatMap fdB ∧ pkb false xs = false := by
  induction xs with
  | nil => intro l; simp [pkl, pkb]
  | cons x xs ih =>
    intro l
    have h1 := ih (fun y hy => h y (List.mem_cons_of_mem _ hy))
    have hsz : x.s.data.toList.length = x.s.size := by simp
    rcases h x (List.mem_cons_self ..) with ⟨h0, h2⟩ | ⟨h0, h2⟩
    · rw [pkl, pkb, if_pos h0, if_pos h0, textL, textB, hsz, if_pos h2, if_pos h2, (h1 _).1, (h1 []).2]
      refine ⟨?_, rfl⟩
      rw [List.flatMap_cons, fdB, if_pos h0]
      simp only [List.append_assoc]
    · rw [pkl, pkb, if_neg h0, if_neg h0, numL, numB, if_pos h2, if_pos h2, (h1 _).1, (h1 []).2]
      refine ⟨?_, rfl⟩
      rw [List.flatMap_cons, fdB, if_neg h0]
      simp only [List.append_assoc]
theorem fdN_ok {v : Int} {n : Int} (hn : Sized n) (h0 : 0 ≤ v) (h : v < 2 ^ (8 * n.toNat)) : FdOk (fdN v n) := .inr ⟨by unfold fdN; unfold Sized at hn; show n ≠ 0; omega, hn, h0, h⟩
theorem fdT_ok {s : ByteArray} (h : s.size < 65536) : FdOk (fdT s) := .inl ⟨rfl, h⟩
theorem n1_ok {v : Int} (h0 : 0 ≤ v) (h : v < 256) : FdOk (fdN v 1) := fdN_ok (by simp [Sized]) h0 (by simpa using h)
theorem n2_ok {v : Int} (h0 : 0 ≤ v) (h : v < 65536) : FdOk (fdN v 2) := fdN_ok (by simp [Sized]) h0 (by simpa using h)
theorem n4_ok {v : Int} (h0 : 0 ≤ v) (h : v < 4294967296) : FdOk (fdN v 4) := fdN_ok (by simp [Sized]) h0 (by simpa using h)
theorem n8_ok {v : Int} (h0 : 0 ≤ v) (h : v < 18446744073709551616) : FdOk (fdN v 8) := fdN_ok (by simp [Sized]) h0 (by simpa using h)
theorem path_size {s : ByteArray} (h : pathB s = true) : s.size ≤ 73 := by
  unfold pathB at h
  obtain ⟨l, hl⟩ := Option.isSome_iff_exists.1 h
  obtain ⟨h1, h2, h3⟩ := PathW.join_names _ _ hl
  have h4 : s.size = (PathW.joinP l).length := by rw [h1]; simp
  rw [h4]
  unfold PathW.joinP
  split
  · simp
  · have := PathW.joinT_len l h3; omega
theorem fds_k1 {r : Rec} (e : r.k = 1) : fds r = heads r ++ ([fdT r.p]) := by
  unfold fds
  rw [e, show (fieldsOf 1).data.toList = [112] from by decide]
  simp only [List.flatMap_cons, List.flatMap_nil, fdsF_112, List.append_nil, List.append_assoc]
theorem fds_k2 {r : Rec} (e : r.k = 2) : fds r = heads r ++ ([fdT r.p]) := by
  unfold fds
  rw [e, show (fieldsOf 2).data.toList = [112] from by decide]
  simp only [List.flatMap_cons, List.flatMap_nil, fdsF_112, List.append_nil, List.append_assoc]
theorem fds_k3 {r : Rec} (e : r.k = 3) : fds r = heads r ++ ([fdT r.p]) := by
  unfold fds
  rw [e, show (fieldsOf 3).data.toList = [112] from by decide]
  simp only [List.flatMap_cons, List.flatMap_nil, fdsF_112, List.append_nil, List.append_assoc]
theorem fds_k4 {r : Rec} (e : r.k = 4) : fds r = heads r ++ ([fdT r.p] ++ [fdT r.t]) := by
  unfold fds
  rw [e, show (fieldsOf 4).data.toList = [112, 116] from by decide]
  simp only [List.flatMap_cons, List.flatMap_nil, fdsF_112, fdsF_116, List.append_nil, List.append_assoc]
theorem fds_k5 {r : Rec} (e : r.k = 5) : fds r = heads r ++ ([fdT r.p]) := by
  unfold fds
  rw [e, show (fieldsOf 5).data.toList = [112] from by decide]
  simp only [List.flatMap_cons, List.flatMap_nil, fdsF_112, List.append_nil, List.append_assoc]
theorem fds_k6 {r : Rec} (e : r.k = 6) : fds r = heads r ++ ([fdT r.p] ++ [fdT r.t]) := by
  unfold fds
  rw [e, show (fieldsOf 6).data.toList = [112, 116] from by decide]
  simp only [List.flatMap_cons, List.flatMap_nil, fdsF_112, fdsF_116, List.append_nil, List.append_assoc]
theorem fds_k7 {r : Rec} (e : r.k = 7) : fds r = heads r ++ ([fdT r.p] ++ [fdN r.sz 4]) := by
  unfold fds
  rw [e, show (fieldsOf 7).data.toList = [112, 115] from by decide]
  simp only [List.flatMap_cons, List.flatMap_nil, fdsF_112, fdsF_115, List.append_nil, List.append_assoc]
theorem fds_k8 {r : Rec} (e : r.k = 8) : fds r = heads r ++ ([fdT r.p]) := by
  unfold fds
  rw [e, show (fieldsOf 8).data.toList = [112] from by decide]
  simp only [List.flatMap_cons, List.flatMap_nil, fdsF_112, List.append_nil, List.append_assoc]
theorem fds_k9 {r : Rec} (e : r.k = 9) : fds r = heads r ++ ([fdN r.h 4]) := by
  unfold fds
  rw [e, show (fieldsOf 9).data.toList = [104] from by decide]
  simp only [List.flatMap_cons, List.flatMap_nil, fdsF_104, List.append_nil, List.append_assoc]
theorem fds_k10 {r : Rec} (e : r.k = 10) : fds r = heads r ++ ([fdN r.h 4] ++ [fdN r.o 4] ++ [fdT r.d]) := by
  unfold fds
  rw [e, show (fieldsOf 10).data.toList = [104, 111, 100] from by decide]
  simp only [List.flatMap_cons, List.flatMap_nil, fdsF_104, fdsF_111, fdsF_100, List.append_nil, List.append_assoc]
theorem fds_k11 {r : Rec} (e : r.k = 11) : fds r = heads r ++ ([fdN r.tk 8]) := by
  unfold fds
  rw [e, show (fieldsOf 11).data.toList = [107] from by decide]
  simp only [List.flatMap_cons, List.flatMap_nil, fdsF_107, List.append_nil, List.append_assoc]
theorem fds_k12 {r : Rec} (e : r.k = 12) : fds r = heads r ++ ([fdN r.tk 8]) := by
  unfold fds
  rw [e, show (fieldsOf 12).data.toList = [107] from by decide]
  simp only [List.flatMap_cons, List.flatMap_nil, fdsF_107, List.append_nil, List.append_assoc]
theorem fds_k13 {r : Rec} (e : r.k = 13) : fds r = heads r ++ ([fdN r.i 4] ++ (fdN r.m.length 1 :: r.m.flatMap mvF) ++ [fdT r.d]) := by
  unfold fds
  rw [e, show (fieldsOf 13).data.toList = [105, 109, 100] from by decide]
  simp only [List.flatMap_cons, List.flatMap_nil, fdsF_105, fdsF_109, fdsF_100, List.append_nil, List.append_assoc]
theorem fds_k14 {r : Rec} (e : r.k = 14) : fds r = heads r ++ ([fdT r.d] ++ [fdN r.sz 4] ++ [fdN r.o 4]) := by
  unfold fds
  rw [e, show (fieldsOf 14).data.toList = [100, 115, 111] from by decide]
  simp only [List.flatMap_cons, List.flatMap_nil, fdsF_100, fdsF_115, fdsF_111, List.append_nil, List.append_assoc]
theorem good_ok_fds {r : Rec} (h : goodB r = true) : ∀ x ∈ fds r, FdOk x := by
  obtain ⟨h1, h2, h3⟩ := good_parts h
  have hk := formB_kind h2
  have hh : 0 ≤ r.cl ∧ r.cl ≤ 7 ∧ 1 ≤ r.sq ∧ r.sq ≤ 2147483647 := by simpa [headB] using h1
  have hds : ∀ x ∈ heads r, FdOk x := by
    intro x hx
    simp only [heads, List.mem_cons, List.not_mem_nil, or_false] at hx
    rcases hx with rfl | rfl | rfl
    · exact n1_ok (by omega) (by omega)
    · exact n1_ok (by omega) (by omega)
    · exact n4_ok (by omega) (by omega)
  clear h1 h3 h
  have app : ∀ (ys : List PackW.Fd), (∀ x ∈ ys, FdOk x) → ∀ x ∈ heads r ++ ys, FdOk x := by
    intro ys hy x hx
    rcases List.mem_append.1 hx with hx | hx
    · exact hds x hx
    · exact hy x hx
  rcases kinds r.k hk with e | e | e | e | e | e | e | e | e | e | e | e | e | e
  · rw [form_one (r := r) (by simp [e])] at h2
    (try simp only [Bool.and_eq_true, decide_eq_true_eq] at h2)
    rw [fds_k1 e]
    refine app _ fun x hx => ?_
    simp only [List.mem_append, List.mem_cons, List.not_mem_nil, or_false, List.cons_append, List.nil_append] at hx
    subst hx
    exact fdT_ok (by have := path_size h2; omega)
  · rw [form_one (r := r) (by simp [e])] at h2
    (try simp only [Bool.and_eq_true, decide_eq_true_eq] at h2)
    rw [fds_k2 e]
    refine app _ fun x hx => ?_
    simp only [List.mem_append, List.mem_cons, List.not_mem_nil, or_false, List.cons_append, List.nil_append] at hx
    subst hx
    exact fdT_ok (by have := path_size h2; omega)
  · rw [form_one (r := r) (by simp [e])] at h2
    (try simp only [Bool.and_eq_true, decide_eq_true_eq] at h2)
    rw [fds_k3 e]
    refine app _ fun x hx => ?_
    simp only [List.mem_append, List.mem_cons, List.not_mem_nil, or_false, List.cons_append, List.nil_append] at hx
    subst hx
    exact fdT_ok (by have := path_size h2; omega)
  · rw [form_both (r := r) (by simp [e])] at h2
    (try simp only [Bool.and_eq_true, decide_eq_true_eq] at h2)
    rw [fds_k4 e]
    refine app _ fun x hx => ?_
    simp only [List.mem_append, List.mem_cons, List.not_mem_nil, or_false, List.cons_append, List.nil_append] at hx
    rcases hx with rfl | rfl
    · exact fdT_ok (by have := path_size h2.1; omega)
    · exact fdT_ok (by have := path_size h2.2; omega)
  · rw [form_one (r := r) (by simp [e])] at h2
    (try simp only [Bool.and_eq_true, decide_eq_true_eq] at h2)
    rw [fds_k5 e]
    refine app _ fun x hx => ?_
    simp only [List.mem_append, List.mem_cons, List.not_mem_nil, or_false, List.cons_append, List.nil_append] at hx
    subst hx
    exact fdT_ok (by have := path_size h2; omega)
  · rw [form_both (r := r) (by simp [e])] at h2
    (try simp only [Bool.and_eq_true, decide_eq_true_eq] at h2)
    rw [fds_k6 e]
    refine app _ fun x hx => ?_
    simp only [List.mem_append, List.mem_cons, List.not_mem_nil, or_false, List.cons_append, List.nil_append] at hx
    rcases hx with rfl | rfl
    · exact fdT_ok (by have := path_size h2.1; omega)
    · exact fdT_ok (by have := path_size h2.2; omega)
  · rw [form_cut e] at h2
    (try simp only [Bool.and_eq_true, decide_eq_true_eq] at h2)
    rw [fds_k7 e]
    refine app _ fun x hx => ?_
    simp only [List.mem_append, List.mem_cons, List.not_mem_nil, or_false, List.cons_append, List.nil_append] at hx
    rcases hx with rfl | rfl
    · exact fdT_ok (by have := path_size h2.1; omega)
    · exact n4_ok (by omega) (by omega)
  · rw [form_one (r := r) (by simp [e])] at h2
    (try simp only [Bool.and_eq_true, decide_eq_true_eq] at h2)
    rw [fds_k8 e]
    refine app _ fun x hx => ?_
    simp only [List.mem_append, List.mem_cons, List.not_mem_nil, or_false, List.cons_append, List.nil_append] at hx
    subst hx
    exact fdT_ok (by have := path_size h2; omega)
  · rw [form_close e] at h2
    (try simp only [Bool.and_eq_true, decide_eq_true_eq] at h2)
    rw [fds_k9 e]
    refine app _ fun x hx => ?_
    simp only [List.mem_append, List.mem_cons, List.not_mem_nil, or_false, List.cons_append, List.nil_append] at hx
    subst hx
    exact n4_ok (by omega) (by omega)
  · rw [form_write e] at h2
    (try simp only [Bool.and_eq_true, decide_eq_true_eq] at h2)
    rw [fds_k10 e]
    refine app _ fun x hx => ?_
    simp only [List.mem_append, List.mem_cons, List.not_mem_nil, or_false, List.cons_append, List.nil_append] at hx
    rcases hx with rfl | rfl | rfl
    · exact n4_ok (by omega) (by omega)
    · exact n4_ok (by omega) (by omega)
    · exact fdT_ok (by omega)
  · rw [form_tick (r := r) (by simp [e])] at h2
    (try simp only [Bool.and_eq_true, decide_eq_true_eq] at h2)
    rw [fds_k11 e]
    refine app _ fun x hx => ?_
    simp only [List.mem_append, List.mem_cons, List.not_mem_nil, or_false, List.cons_append, List.nil_append] at hx
    subst hx
    exact n8_ok (by omega) (by omega)
  · rw [form_tick (r := r) (by simp [e])] at h2
    (try simp only [Bool.and_eq_true, decide_eq_true_eq] at h2)
    rw [fds_k12 e]
    refine app _ fun x hx => ?_
    simp only [List.mem_append, List.mem_cons, List.not_mem_nil, or_false, List.cons_append, List.nil_append] at hx
    subst hx
    exact n8_ok (by omega) (by omega)
  · rw [form_move e] at h2
    (try simp only [Bool.and_eq_true, decide_eq_true_eq] at h2)
    rw [fds_k13 e]
    refine app _ fun x hx => ?_
    simp only [List.mem_append, List.mem_cons, List.not_mem_nil, or_false, List.cons_append, List.nil_append] at hx
    rcases hx with rfl | rfl | hx | rfl
    · exact n4_ok (by omega) (by omega)
    · exact n1_ok (by omega) (by omega)
    · obtain ⟨y, hy, hx⟩ := List.mem_flatMap.1 hx
      have hb := List.all_eq_true.1 h2.2 y hy
      have hm : 0 ≤ y.a ∧ y.a ≤ 16383 ∧ 0 ≤ y.f ∧ y.f ≤ 1024 ∧ 1 ≤ y.n ∧ y.n ≤ 1024 ∧ 0 ≤ y.t ∧ y.t ≤ (r.d.size : Int) - y.n := by simpa [mvB] using hb
      simp only [mvF, List.mem_cons, List.not_mem_nil, or_false] at hx
      rcases hx with rfl | rfl | rfl | rfl
      all_goals exact n2_ok (by omega) (by omega)
    · exact fdT_ok (by omega)
  · rw [form_image e] at h2
    (try simp only [Bool.and_eq_true, decide_eq_true_eq] at h2)
    rw [fds_k14 e]
    refine app _ fun x hx => ?_
    simp only [List.mem_append, List.mem_cons, List.not_mem_nil, or_false, List.cons_append, List.nil_append] at hx
    rcases hx with rfl | rfl | rfl
    · exact fdT_ok (by omega)
    · exact n4_ok (by omega) (by omega)
    · exact n4_ok (by omega) (by omega)
theorem fdSz_flat (l : List Mv) : fdSz (l.flatMap mvF) = 32 * l.length := by
  induction l with
  | nil => rfl
  | cons x l ih => rw [List.flatMap_cons, fdSz_app, ih, List.length_cons]; show 32 + _ = _; omega
theorem good_short {r : Rec} (h : goodB r = true) : fdSz (fds r) ≤ 3000 := by
  obtain ⟨h1, h2, h3⟩ := good_parts h
  have hk := formB_kind h2
  have hhd : fdSz (heads r) = 24 := rfl
  have hN : ∀ v n : Int, fdSz [fdN v n] = 8 := fun v n => rfl
  have hT : ∀ s : ByteArray, fdSz [fdT s] = s.size + 8 := fun s => by simp [fdSz, fdT]
  clear h1 h3 h
  rcases kinds r.k hk with e | e | e | e | e | e | e | e | e | e | e | e | e | e
  · rw [form_one (r := r) (by simp [e])] at h2
    (try simp only [Bool.and_eq_true, decide_eq_true_eq] at h2)
    rw [fds_k1 e, fdSz_app, hhd]
    simp only [fdSz_app, hN, hT]
    have := path_size h2
    omega
  · rw [form_one (r := r) (by simp [e])] at h2
    (try simp only [Bool.and_eq_true, decide_eq_true_eq] at h2)
    rw [fds_k2 e, fdSz_app, hhd]
    simp only [fdSz_app, hN, hT]
    have := path_size h2
    omega
  · rw [form_one (r := r) (by simp [e])] at h2
    (try simp only [Bool.and_eq_true, decide_eq_true_eq] at h2)
    rw [fds_k3 e, fdSz_app, hhd]
    simp only [fdSz_app, hN, hT]
    have := path_size h2
    omega
  · rw [form_both (r := r) (by simp [e])] at h2
    (try simp only [Bool.and_eq_true, decide_eq_true_eq] at h2)
    rw [fds_k4 e, fdSz_app, hhd]
    simp only [fdSz_app, hN, hT]
    have := path_size h2.1
    have := path_size h2.2
    omega
  · rw [form_one (r := r) (by simp [e])] at h2
    (try simp only [Bool.and_eq_true, decide_eq_true_eq] at h2)
    rw [fds_k5 e, fdSz_app, hhd]
    simp only [fdSz_app, hN, hT]
    have := path_size h2
    omega
  · rw [form_both (r := r) (by simp [e])] at h2
    (try simp only [Bool.and_eq_true, decide_eq_true_eq] at h2)
    rw [fds_k6 e, fdSz_app, hhd]
    simp only [fdSz_app, hN, hT]
    have := path_size h2.1
    have := path_size h2.2
    omega
  · rw [form_cut e] at h2
    (try simp only [Bool.and_eq_true, decide_eq_true_eq] at h2)
    rw [fds_k7 e, fdSz_app, hhd]
    simp only [fdSz_app, hN, hT]
    have := path_size h2.1
    omega
  · rw [form_one (r := r) (by simp [e])] at h2
    (try simp only [Bool.and_eq_true, decide_eq_true_eq] at h2)
    rw [fds_k8 e, fdSz_app, hhd]
    simp only [fdSz_app, hN, hT]
    have := path_size h2
    omega
  · rw [form_close e] at h2
    (try simp only [Bool.and_eq_true, decide_eq_true_eq] at h2)
    rw [fds_k9 e, fdSz_app, hhd]
    simp only [fdSz_app, hN, hT]
    omega
  · rw [form_write e] at h2
    (try simp only [Bool.and_eq_true, decide_eq_true_eq] at h2)
    rw [fds_k10 e, fdSz_app, hhd]
    simp only [fdSz_app, hN, hT]
    omega
  · rw [form_tick (r := r) (by simp [e])] at h2
    (try simp only [Bool.and_eq_true, decide_eq_true_eq] at h2)
    rw [fds_k11 e, fdSz_app, hhd]
    simp only [fdSz_app, hN, hT]
    omega
  · rw [form_tick (r := r) (by simp [e])] at h2
    (try simp only [Bool.and_eq_true, decide_eq_true_eq] at h2)
    rw [fds_k12 e, fdSz_app, hhd]
    simp only [fdSz_app, hN, hT]
    omega
  · rw [form_move e] at h2
    (try simp only [Bool.and_eq_true, decide_eq_true_eq] at h2)
    rw [fds_k13 e, fdSz_app, hhd]
    have e1 : fdSz (fdN r.m.length 1 :: r.m.flatMap mvF) = 8 + 32 * r.m.length := by rw [← fdSz_flat]; show 8 + _ = _; rfl
    simp only [fdSz_app, hN, hT, e1]
    omega
  · rw [form_image e] at h2
    (try simp only [Bool.and_eq_true, decide_eq_true_eq] at h2)
    rw [fds_k14 e, fdSz_app, hhd]
    simp only [fdSz_app, hN, hT]
    omega
/-- a record's text, and its error -/
def encS (r : Rec) : ByteArray := if goodB r then ⟨((fds r).flatMap fdB).toArray⟩ else ⟨#[]⟩
def encE (r : Rec) : Int := if goodB r then 0 else 11
theorem enc_done {r : Rec} (h : goodB r = true) : doneS (pkl [] (fds r)) (pkb false (fds r)) = encS r ∧ doneE (pkl [] (fds r)) (pkb false (fds r)) = encE r ∧ pkl [] (fds r) = (fds r).flatMap fdB ∧ pkb false (fds r) = false ∧ (pkl [] (fds r)).length ≤ 3000 := by
  have h1 := pk_ok (fds r) (good_ok_fds h) []
  have h2 := pkl_len (fds r) []
  have h3 := good_short h
  have h4 : (pkl [] (fds r)).length ≤ 3000 := by simp only [List.length_nil] at h2; omega
  refine ⟨?_, ?_, by simpa using h1.1, h1.2, h4⟩
  · rw [doneS, if_pos ⟨h1.2, by omega⟩, encS, if_pos h]
    rw [h1.1]; rfl
  · rw [doneE, h1.2, if_neg (by decide), if_pos (by omega), encE, if_pos h]
end Go.Proofs.YtlffcilgmockmaaDoor.OpW
