/- What is decoded: a text has a record just if it is the record's text. -/
import Derived.Test.YtlffcilgmockmaaDoorOpDecP
namespace Go.Proofs.YtlffcilgmockmaaDoor.OpW
set_option maxRecDepth 100000
set_option linter.unusedSimpArgs false
open Go.RowKit OpP PackW
theorem mvD_r (d : Dn) : ∃ x, (mvD d).r = { d.r with m := d.r.m ++ [x] } := ⟨_, rfl⟩
theorem mvsD_r (k : Nat) (d : Dn) : ∃ xs, (mvsD k d).r = { d.r with m := d.r.m ++ xs } ∧ xs.length = k := by
  induction k with
  | zero => exact ⟨[], by simp [mvsD], rfl⟩
  | succ k ih =>
    obtain ⟨xs, h, hl⟩ := ih
    obtain ⟨x, hx⟩ := mvD_r (mvsD k d)
    refine ⟨xs ++ [x], ?_, by simp [hl]⟩
    show (mvD (mvsD k d)).r = _
    rw [hx, h]
    simp
theorem getD_other (x : Lim) (c c' : UInt8) (hc : IsF c) (hc' : IsF c') (hne : c ≠ c') (d : Dn) : fdsF c (getD x c' d).r = fdsF c d.r := by
  obtain ⟨xs, hxs, _⟩ := mvsD_r (x.cm (numA d.l d.sp 1)) (numD 1 d fun _ r => r)
  rcases hc with rfl | rfl | rfl | rfl | rfl | rfl | rfl | rfl | rfl <;> rcases hc' with rfl | rfl | rfl | rfl | rfl | rfl | rfl | rfl | rfl
  all_goals first
    | exact absurd rfl hne
    | (simp only [fdsF_112, fdsF_116, fdsF_115, fdsF_104, fdsF_111, fdsF_100, fdsF_107, fdsF_105, fdsF_109, getD_112, getD_116, getD_115, getD_104, getD_111, getD_100, getD_107, getD_105, textD, numD]; done)
    | (rw [getD_109, hxs]; simp only [fdsF_112, fdsF_116, fdsF_115, fdsF_104, fdsF_111, fdsF_100, fdsF_107, fdsF_105, numD]; done)
theorem getD_heads (x : Lim) (c : UInt8) (d : Dn) : (getD x c d).r.k = d.r.k ∧ (getD x c d).r.cl = d.r.cl ∧ (getD x c d).r.sq = d.r.sq := by
  obtain ⟨xs, hxs, _⟩ := mvsD_r (x.cm (numA d.l d.sp 1)) (numD 1 d fun _ r => r)
  unfold getD
  repeat' split
  all_goals first
    | exact ⟨rfl, rfl, rfl⟩
    | (rw [hxs]; exact ⟨rfl, rfl, rfl⟩)
theorem getD_m (x : Lim) (c : UInt8) (hc : c ≠ 109) (d : Dn) : (getD x c d).r.m = d.r.m := by
  unfold getD
  repeat' split
  all_goals first
    | rfl
    | (rename_i h; exact absurd h hc)
theorem app_one (x : PackW.Fd) : [x].flatMap fdB = fdB x := by simp
theorem getD_back (x : Lim) (hx : x.Ok) (c : UInt8) (hc : IsF c) (d : Dn) (h : (getD x c d).sp = false) (hm : c = 109 → d.r.m = [] ∧ (getD x c d).r.m.length ≤ 16) :
    d.sp = false ∧ d.l = (fdsF c (getD x c d).r).flatMap fdB ++ (getD x c d).l := by
  rcases hc with rfl | rfl | rfl | rfl | rfl | rfl | rfl | rfl | rfl
  · rw [getD_112] at h ⊢
    obtain ⟨h1, h2⟩ := text_back h
    rw [fdsF_112, app_one]
    exact ⟨h1, h2⟩
  · rw [getD_116] at h ⊢
    obtain ⟨h1, h2⟩ := text_back h
    rw [fdsF_116, app_one]
    exact ⟨h1, h2⟩
  · rw [getD_115] at h ⊢
    obtain ⟨h1, _, h2⟩ := num_back h
    rw [fdsF_115, app_one]
    exact ⟨h1, h2⟩
  · rw [getD_104] at h ⊢
    obtain ⟨h1, _, h2⟩ := num_back h
    rw [fdsF_104, app_one]
    exact ⟨h1, h2⟩
  · rw [getD_111] at h ⊢
    obtain ⟨h1, _, h2⟩ := num_back h
    rw [fdsF_111, app_one]
    exact ⟨h1, h2⟩
  · rw [getD_100] at h ⊢
    obtain ⟨h1, h2⟩ := text_back h
    rw [fdsF_100, app_one]
    exact ⟨h1, h2⟩
  · rw [getD_107] at h ⊢
    obtain ⟨h1, _, h2⟩ := num_back h
    rw [fdsF_107, app_one]
    exact ⟨h1, h2⟩
  · rw [getD_105] at h ⊢
    obtain ⟨h1, _, h2⟩ := num_back h
    rw [fdsF_105, app_one]
    exact ⟨h1, h2⟩
  · rw [getD_109] at h hm ⊢
    obtain ⟨h1, xs, h2, h3, h4⟩ := mvs_back _ h
    obtain ⟨h5, h6, h7⟩ := num_back (l := d.l) (sp := d.sp) (n := 1) h1
    obtain ⟨m1, m2⟩ := hm rfl
    have hmm : (mvsD (x.cm (numA d.l d.sp 1)) (numD 1 d fun _ r => r)).r.m = xs := by
      rw [h3]; show d.r.m ++ xs = xs; rw [m1]; rfl
    rw [hmm] at m2
    have hlen : (xs.length : Int) = numA d.l d.sp 1 := by rw [h2]; exact hx.c _ h6 (by omega)
    refine ⟨h5, ?_⟩
    rw [fdsF_109, hmm, List.flatMap_cons, hlen, List.append_assoc, ← h4]
    exact h7
/-- what the record must be for its text to be read -/
structure RdOk (x : Lim) (r : Rec) : Prop where
  p : (r.p.size : Int) ≤ x.pm
  t : (r.t.size : Int) ≤ x.pm
  d : (r.d.size : Int) ≤ x.dm
  m : r.m.length ≤ 16
  w : Wf r
theorem getD_fwd (x : Lim) (hx : x.Ok) (c : UInt8) (hc : IsF c) (r : Rec) (hr : RdOk x r) (hf : ∀ f ∈ fdsF c r, FdOk f) (o : Rec) (ho : c = 109 → o.m = []) (rest : List UInt8) :
    getD x c ⟨(fdsF c r).flatMap fdB ++ rest, false, o⟩ = ⟨rest, false, keepF c r o⟩ := by
  rcases hc with rfl | rfl | rfl | rfl | rfl | rfl | rfl | rfl | rfl
  · rw [getD_112, keepF_112]
    rw [fdsF_112] at hf ⊢
    obtain ⟨a, b, e⟩ := text_fwd (hf (fdT r.p) (List.mem_cons_self ..)) hr.p rest
    rw [app_one]
    unfold textD
    simp only [a, b, e]
  · rw [getD_116, keepF_116]
    rw [fdsF_116] at hf ⊢
    obtain ⟨a, b, e⟩ := text_fwd (hf (fdT r.t) (List.mem_cons_self ..)) hr.t rest
    rw [app_one]
    unfold textD
    simp only [a, b, e]
  · rw [getD_115, keepF_115]
    rw [fdsF_115] at hf ⊢
    obtain ⟨a, b, e⟩ := num_fwd (hf (fdN r.sz 4) (List.mem_cons_self ..)) (by decide) hr.w.sz rest
    rw [app_one]
    unfold numD
    simp only [a, b, e]
  · rw [getD_104, keepF_104]
    rw [fdsF_104] at hf ⊢
    obtain ⟨a, b, e⟩ := num_fwd (hf (fdN r.h 4) (List.mem_cons_self ..)) (by decide) hr.w.h rest
    rw [app_one]
    unfold numD
    simp only [a, b, e]
  · rw [getD_111, keepF_111]
    rw [fdsF_111] at hf ⊢
    obtain ⟨a, b, e⟩ := num_fwd (hf (fdN r.o 4) (List.mem_cons_self ..)) (by decide) hr.w.o rest
    rw [app_one]
    unfold numD
    simp only [a, b, e]
  · rw [getD_100, keepF_100]
    rw [fdsF_100] at hf ⊢
    obtain ⟨a, b, e⟩ := text_fwd (hf (fdT r.d) (List.mem_cons_self ..)) hr.d rest
    rw [app_one]
    unfold textD
    simp only [a, b, e]
  · rw [getD_107, keepF_107]
    rw [fdsF_107] at hf ⊢
    obtain ⟨a, b, e⟩ := num_fwd (hf (fdN r.tk 8) (List.mem_cons_self ..)) (by decide) hr.w.tk rest
    rw [app_one]
    unfold numD
    simp only [a, b, e]
  · rw [getD_105, keepF_105]
    rw [fdsF_105] at hf ⊢
    obtain ⟨a, b, e⟩ := num_fwd (hf (fdN r.i 4) (List.mem_cons_self ..)) (by decide) hr.w.i rest
    rw [app_one]
    unfold numD
    simp only [a, b, e]
  · rw [getD_109, keepF_109]
    rw [fdsF_109] at hf ⊢
    rw [List.flatMap_cons, List.append_assoc]
    obtain ⟨a, b, e⟩ := num_fwd (hf (fdN r.m.length 1) (List.mem_cons_self ..)) (by decide) (by have := hr.m; omega) ((r.m.flatMap mvF).flatMap fdB ++ rest)
    have hn : numD 1 ⟨fdB (fdN r.m.length 1) ++ ((r.m.flatMap mvF).flatMap fdB ++ rest), false, o⟩ (fun _ r => r) = ⟨(r.m.flatMap mvF).flatMap fdB ++ rest, false, o⟩ := by
      unfold numD; simp only [b, e]
    rw [hn, a]
    have hcm : x.cm (r.m.length : Int) = r.m.length := by have := hx.e r.m.length (by omega) (by have := hr.m; omega); omega
    rw [hcm, mvs_fwd r.m (fun y hy => ⟨fun f hf' => hf f (List.mem_cons_of_mem _ (List.mem_flatMap.2 ⟨y, hy, hf'⟩)), hr.w.m y hy⟩) o rest _ (Nat.le_refl _)]
    rw [List.drop_length, List.take_length, ho rfl]
    simp
theorem fold_back (x : Lim) (hx : x.Ok) : ∀ (cs : List UInt8) (d : Dn), (∀ c ∈ cs, IsF c) → cs.Nodup → (cs.foldl (fun d c => getD x c d) d).sp = false →
    (109 ∈ cs → d.r.m = [] ∧ (cs.foldl (fun d c => getD x c d) d).r.m.length ≤ 16) →
    d.sp = false ∧ d.l = (cs.flatMap fun c => fdsF c (cs.foldl (fun d c => getD x c d) d).r).flatMap fdB ++ (cs.foldl (fun d c => getD x c d) d).l ∧
      (∀ c', IsF c' → c' ∉ cs → fdsF c' (cs.foldl (fun d c => getD x c d) d).r = fdsF c' d.r) ∧ (109 ∉ cs → (cs.foldl (fun d c => getD x c d) d).r.m = d.r.m)
  | [], d, _, _, h, _ => ⟨h, by simp, fun _ _ _ => rfl, fun _ => rfl⟩
  | c :: cs, d, hF, hN, h, hm => by
    rw [List.nodup_cons] at hN
    have hFc := hF c (List.mem_cons_self ..)
    rw [List.foldl_cons] at h hm ⊢
    have hm' : 109 ∈ cs → (getD x c d).r.m = [] ∧ (cs.foldl (fun d c => getD x c d) (getD x c d)).r.m.length ≤ 16 := fun h9 => by
      obtain ⟨m1, m2⟩ := hm (List.mem_cons_of_mem _ h9)
      exact ⟨by rw [getD_m x c (fun e => hN.1 (by rw [e]; exact h9)) d]; exact m1, m2⟩
    obtain ⟨i1, i2, i3, i4⟩ := fold_back x hx cs (getD x c d) (fun c' hc' => hF c' (List.mem_cons_of_mem _ hc')) hN.2 h hm'
    obtain ⟨b1, b2⟩ := getD_back x hx c hFc d i1 (fun e => by
      obtain ⟨m1, m2⟩ := hm (by rw [e]; exact List.mem_cons_self ..)
      refine ⟨m1, ?_⟩
      rw [i4 (by rw [← e]; exact hN.1)] at m2
      exact m2)
    refine ⟨b1, ?_, fun c' hc' hn => ?_, fun hn => ?_⟩
    · rw [b2, i2, List.flatMap_cons, List.flatMap_append, List.append_assoc, i3 c hFc hN.1]
    · rw [i3 c' hc' (fun e => hn (List.mem_cons_of_mem _ e))]
      exact getD_other x c' c hc' hFc (fun e => hn (by rw [e]; exact List.mem_cons_self ..)) d
    · rw [i4 (fun e => hn (List.mem_cons_of_mem _ e))]
      exact getD_m x c (fun e => hn (by rw [e]; exact List.mem_cons_self ..)) d
theorem fold_fwd (x : Lim) (hx : x.Ok) (r : Rec) (hr : RdOk x r) : ∀ (cs : List UInt8) (o : Rec) (rest : List UInt8), (∀ c ∈ cs, IsF c) → cs.Nodup → (∀ f ∈ cs.flatMap (fun c => fdsF c r), FdOk f) → (109 ∈ cs → o.m = []) →
    cs.foldl (fun d c => getD x c d) ⟨(cs.flatMap fun c => fdsF c r).flatMap fdB ++ rest, false, o⟩ = ⟨rest, false, cs.foldl (fun o c => keepF c r o) o⟩
  | [], o, rest, _, _, _, _ => by simp
  | c :: cs, o, rest, hF, hN, hf, hm => by
    rw [List.nodup_cons] at hN
    rw [List.foldl_cons, List.foldl_cons, List.flatMap_cons, List.flatMap_append, List.append_assoc]
    rw [getD_fwd x hx c (hF c (List.mem_cons_self ..)) r hr (fun f h => hf f (by rw [List.flatMap_cons]; exact List.mem_append_left _ h)) o (fun e => hm (by rw [e]; exact List.mem_cons_self ..))]
    refine fold_fwd x hx r hr cs (keepF c r o) rest (fun c' hc' => hF c' (List.mem_cons_of_mem _ hc')) hN.2 (fun f h => hf f (by rw [List.flatMap_cons]; exact List.mem_append_right _ h)) (fun h9 => ?_)
    have hne : c ≠ 109 := fun e => hN.1 (by rw [e]; exact h9)
    have : (keepF c r o).m = o.m := by
      unfold keepF
      repeat' split
      all_goals first
        | rfl
        | (rename_i h; exact absurd h hne)
    rw [this]; exact hm (List.mem_cons_of_mem _ h9)
theorem fields_nodup (k : Int) (h : 1 ≤ k ∧ k ≤ 14) : (fieldsOf k).data.toList.Nodup := by
  rcases kinds k h with e | e | e | e | e | e | e | e | e | e | e | e | e | e <;> (rw [e]; decide)
theorem fold_heads (x : Lim) : ∀ (cs : List UInt8) (d : Dn), (cs.foldl (fun d c => getD x c d) d).r.k = d.r.k ∧ (cs.foldl (fun d c => getD x c d) d).r.cl = d.r.cl ∧ (cs.foldl (fun d c => getD x c d) d).r.sq = d.r.sq
  | [], d => ⟨rfl, rfl, rfl⟩
  | c :: cs, d => by
    rw [List.foldl_cons]
    obtain ⟨h1, h2, h3⟩ := fold_heads x cs (getD x c d)
    obtain ⟨g1, g2, g3⟩ := getD_heads x c d
    exact ⟨h1.trans g1, h2.trans g2, h3.trans g3⟩
theorem head_back (s : List UInt8) (h : (headD s).sp = false) : s = (heads (headD s).r).flatMap fdB ++ (headD s).l := by
  unfold headD at h ⊢
  obtain ⟨a3, _, b3⟩ := num_back h
  obtain ⟨a2, _, b2⟩ := num_back a3
  obtain ⟨a1, _, b1⟩ := num_back a2
  simp only [heads, List.flatMap_cons, List.flatMap_nil, List.append_nil, List.append_assoc]
  refine Eq.trans b1 ?_
  congr 1
  conv => lhs; rw [show List.drop (Int.toNat 1) s = (numD 1 ⟨s, false, zr⟩ fun v r => { r with k := v }).l from rfl, b2]
  congr 1
theorem head_fwd (r : Rec) (hw : Wf r) (hf : ∀ f ∈ heads r, FdOk f) (rest : List UInt8) : headD ((heads r).flatMap fdB ++ rest) = ⟨rest, false, ⟨r.cl, r.sq, r.k, ⟨#[]⟩, ⟨#[]⟩, 0, 0, 0, ⟨#[]⟩, 0, 0, []⟩⟩ := by
  have e : (heads r).flatMap fdB ++ rest = fdB (fdN r.k 1) ++ (fdB (fdN r.cl 1) ++ (fdB (fdN r.sq 4) ++ rest)) := by simp [heads]
  rw [e]
  obtain ⟨a1, b1, c1⟩ := num_fwd (hf (fdN r.k 1) (by simp [heads])) (by decide) hw.k (fdB (fdN r.cl 1) ++ (fdB (fdN r.sq 4) ++ rest))
  obtain ⟨a2, b2, c2⟩ := num_fwd (hf (fdN r.cl 1) (by simp [heads])) (by decide) hw.cl (fdB (fdN r.sq 4) ++ rest)
  obtain ⟨a3, b3, c3⟩ := num_fwd (hf (fdN r.sq 4) (by simp [heads])) (by decide) hw.sq rest
  unfold headD numD
  simp only [a1, b1, c1, a2, b2, c2, a3, b3, c3]
  rfl
theorem good_sizes {r : Rec} (h : goodB r = true) : r.p.size ≤ 73 ∧ r.t.size ≤ 73 ∧ r.d.size ≤ 1024 ∧ r.m.length ≤ 16 := by
  obtain ⟨h1, h2, h3⟩ := good_parts h
  have hk := formB_kind h2
  have zp := congrArg Rec.p h3
  have zt := congrArg Rec.t h3
  have zd := congrArg Rec.d h3
  have zm := congrArg Rec.m h3
  have z0 : (⟨#[]⟩ : ByteArray).size = 0 := rfl
  clear h1 h3 h
  rcases kinds r.k hk with e | e | e | e | e | e | e | e | e | e | e | e | e | e
  · rw [form_one (r := r) (by simp [e])] at h2
    rw [only_is1 r e] at zp zt zd zm
    (try simp only [Bool.and_eq_true, decide_eq_true_eq] at h2)
    dsimp only at zp zt zd zm
    exact ⟨path_size h2, by rw [zt, z0]; omega, by rw [zd, z0]; omega, by rw [zm]; simp⟩
  · rw [form_one (r := r) (by simp [e])] at h2
    rw [only_is2 r e] at zp zt zd zm
    (try simp only [Bool.and_eq_true, decide_eq_true_eq] at h2)
    dsimp only at zp zt zd zm
    exact ⟨path_size h2, by rw [zt, z0]; omega, by rw [zd, z0]; omega, by rw [zm]; simp⟩
  · rw [form_one (r := r) (by simp [e])] at h2
    rw [only_is3 r e] at zp zt zd zm
    (try simp only [Bool.and_eq_true, decide_eq_true_eq] at h2)
    dsimp only at zp zt zd zm
    exact ⟨path_size h2, by rw [zt, z0]; omega, by rw [zd, z0]; omega, by rw [zm]; simp⟩
  · rw [form_both (r := r) (by simp [e])] at h2
    rw [only_is4 r e] at zp zt zd zm
    (try simp only [Bool.and_eq_true, decide_eq_true_eq] at h2)
    dsimp only at zp zt zd zm
    exact ⟨path_size h2.1, path_size h2.2, by rw [zd, z0]; omega, by rw [zm]; simp⟩
  · rw [form_one (r := r) (by simp [e])] at h2
    rw [only_is5 r e] at zp zt zd zm
    (try simp only [Bool.and_eq_true, decide_eq_true_eq] at h2)
    dsimp only at zp zt zd zm
    exact ⟨path_size h2, by rw [zt, z0]; omega, by rw [zd, z0]; omega, by rw [zm]; simp⟩
  · rw [form_both (r := r) (by simp [e])] at h2
    rw [only_is6 r e] at zp zt zd zm
    (try simp only [Bool.and_eq_true, decide_eq_true_eq] at h2)
    dsimp only at zp zt zd zm
    exact ⟨path_size h2.1, path_size h2.2, by rw [zd, z0]; omega, by rw [zm]; simp⟩
  · rw [form_cut e] at h2
    rw [only_is7 r e] at zp zt zd zm
    (try simp only [Bool.and_eq_true, decide_eq_true_eq] at h2)
    dsimp only at zp zt zd zm
    exact ⟨path_size h2.1, by rw [zt, z0]; omega, by rw [zd, z0]; omega, by rw [zm]; simp⟩
  · rw [form_one (r := r) (by simp [e])] at h2
    rw [only_is8 r e] at zp zt zd zm
    (try simp only [Bool.and_eq_true, decide_eq_true_eq] at h2)
    dsimp only at zp zt zd zm
    exact ⟨path_size h2, by rw [zt, z0]; omega, by rw [zd, z0]; omega, by rw [zm]; simp⟩
  · rw [form_close e] at h2
    rw [only_is9 r e] at zp zt zd zm
    (try simp only [Bool.and_eq_true, decide_eq_true_eq] at h2)
    dsimp only at zp zt zd zm
    exact ⟨by rw [zp, z0]; omega, by rw [zt, z0]; omega, by rw [zd, z0]; omega, by rw [zm]; simp⟩
  · rw [form_write e] at h2
    rw [only_is10 r e] at zp zt zd zm
    (try simp only [Bool.and_eq_true, decide_eq_true_eq] at h2)
    dsimp only at zp zt zd zm
    exact ⟨by rw [zp, z0]; omega, by rw [zt, z0]; omega, by omega, by rw [zm]; simp⟩
  · rw [form_tick (r := r) (by simp [e])] at h2
    rw [only_is11 r e] at zp zt zd zm
    (try simp only [Bool.and_eq_true, decide_eq_true_eq] at h2)
    dsimp only at zp zt zd zm
    exact ⟨by rw [zp, z0]; omega, by rw [zt, z0]; omega, by rw [zd, z0]; omega, by rw [zm]; simp⟩
  · rw [form_tick (r := r) (by simp [e])] at h2
    rw [only_is12 r e] at zp zt zd zm
    (try simp only [Bool.and_eq_true, decide_eq_true_eq] at h2)
    dsimp only at zp zt zd zm
    exact ⟨by rw [zp, z0]; omega, by rw [zt, z0]; omega, by rw [zd, z0]; omega, by rw [zm]; simp⟩
  · rw [form_move e] at h2
    rw [only_is13 r e] at zp zt zd zm
    (try simp only [Bool.and_eq_true, decide_eq_true_eq] at h2)
    dsimp only at zp zt zd zm
    exact ⟨by rw [zp, z0]; omega, by rw [zt, z0]; omega, by omega, by omega⟩
  · rw [form_image e] at h2
    rw [only_is14 r e] at zp zt zd zm
    (try simp only [Bool.and_eq_true, decide_eq_true_eq] at h2)
    dsimp only at zp zt zd zm
    exact ⟨by rw [zp, z0]; omega, by rw [zt, z0]; omega, by omega, by rw [zm]; simp⟩
theorem good_rd {r : Rec} (x : Lim) (hx : x.Ok) (h : goodB r = true) : RdOk x r := by
  obtain ⟨h1, h2, h3, h4⟩ := good_sizes h
  have := hx.p
  have := hx.d
  exact ⟨by omega, by omega, by omega, h4, good_wf h⟩
/-- a text has a record just if it is the record's text -/
theorem dec_iff (x : Lim) (hx : x.Ok) (s : List UInt8) (r : Rec) : decR (decD x s) = some r ↔ goodB r = true ∧ s = (fds r).flatMap fdB := by
  constructor
  · intro h
    unfold decR at h
    split at h
    · rename_i hc
      injection h with h
      subst h
      obtain ⟨h1, h2⟩ := hc
      have h3 : (decD x s).sp = false ∧ (decD x s).l = [] := by
        unfold endA at h1
        split at h1
        · cases h1
        · rename_i hn
          refine ⟨by cases hs : (decD x s).sp with | true => exact absurd (.inl hs) hn | false => rfl, ?_⟩
          by_cases hl : (decD x s).l = []
          · exact hl
          · exact absurd (.inr hl) hn
      have hkb := formB_kind (good_parts h2).2.1
      obtain ⟨k1, k2, k3⟩ := fold_heads x (fieldsOf (headD s).r.k).data.toList (headD s)
      have hkk : (decD x s).r.k = (headD s).r.k := k1
      rw [hkk] at hkb
      obtain ⟨b1, b2, _, _⟩ := fold_back x hx _ (headD s) (fields_isF _ hkb) (fields_nodup _ hkb) h3.1 (fun _ => ⟨rfl, (good_sizes h2).2.2.2⟩)
      refine ⟨h2, ?_⟩
      have hb := head_back s b1
      have hh : heads (decD x s).r = heads (headD s).r := by unfold heads; rw [hkk, show (decD x s).r.cl = (headD s).r.cl from k2, show (decD x s).r.sq = (headD s).r.sq from k3]
      unfold fds
      rw [List.flatMap_append, hh, hkk]
      conv => lhs; rw [hb, b2]
      congr 1
      have h4 : (List.foldl (fun d c => getD x c d) (headD s) (fieldsOf (headD s).r.k).data.toList).l = [] := h3.2
      rw [h4, List.append_nil]
      rfl
    · cases h
  · rintro ⟨hg, rfl⟩
    have hok := good_ok_fds hg
    have hkb := formB_kind (good_parts hg).2.1
    have hfd : (fds r).flatMap fdB = (heads r).flatMap fdB ++ (((fieldsOf r.k).data.toList.flatMap fun c => fdsF c r).flatMap fdB ++ []) := by
      unfold fds; rw [List.flatMap_append, List.append_nil]
    have hh := head_fwd r (good_wf hg) (fun f h => hok f (by unfold fds; exact List.mem_append_left _ h)) (((fieldsOf r.k).data.toList.flatMap fun c => fdsF c r).flatMap fdB ++ [])
    have hd : decD x ((fds r).flatMap fdB) = ⟨[], false, r⟩ := by
      unfold decD
      rw [hfd, hh]
      show (fieldsOf r.k).data.toList.foldl _ _ = _
      rw [fold_fwd x hx r (good_rd x hx hg) (fieldsOf r.k).data.toList _ [] (fields_isF _ hkb) (fields_nodup _ hkb) (fun f h => hok f (by unfold fds; exact List.mem_append_right _ h)) (fun _ => rfl)]
      have : (fieldsOf r.k).data.toList.foldl (fun o c => keepF c r o) ⟨r.cl, r.sq, r.k, ⟨#[]⟩, ⟨#[]⟩, 0, 0, 0, ⟨#[]⟩, 0, 0, []⟩ = r := (kept_only r hkb).trans (good_parts hg).2.2.symm
      rw [this]
    rw [hd]
    unfold decR
    rw [if_pos ⟨by unfold endA; simp, hg⟩]
/-- .. so what is read does not hang on the limits -/
theorem dec_same (x y : Lim) (hx : x.Ok) (hy : y.Ok) (s : List UInt8) : decR (decD x s) = decR (decD y s) := by
  apply Option.ext
  intro r
  rw [dec_iff x hx, dec_iff y hy]
end Go.Proofs.YtlffcilgmockmaaDoor.OpW