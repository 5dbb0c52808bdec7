/- A text's record: what is read, field by field; plain laws. -/
import Derived.Test.YtlffcilgmockmaaDoorOpOk
namespace Go.Proofs.YtlffcilgmockmaaDoor.OpW
set_option maxRecDepth 100000
set_option linter.unusedSimpArgs false
open Go.RowKit OpP PackW
/-- what is left of a text, is it spoilt, the record so far -/
structure Dn where
  l : List UInt8
  sp : Bool
  r : Rec
/-- how long texts may be, how many moves are read -/
structure Lim where
  pm : Int
  dm : Int
  cm : Int → Nat
structure Lim.Ok (x : Lim) : Prop where
  p : 100 ≤ x.pm
  d : 1024 ≤ x.dm
  c : ∀ n : Int, 0 ≤ n → x.cm n ≤ 16 → (x.cm n : Int) = n
  e : ∀ n : Int, 0 ≤ n → n ≤ 16 → (x.cm n : Int) = n
def numD (n : Int) (d : Dn) (f : Int → Rec → Rec) : Dn := ⟨d.l.drop n.toNat, numG d.l d.sp n, f (numA d.l d.sp n) d.r⟩
def textD (m : Int) (d : Dn) (f : ByteArray → Rec → Rec) : Dn := ⟨textR d.l, textG d.l d.sp m, f (textA d.l d.sp m) d.r⟩
/-- one move -/
def mvD (d : Dn) : Dn :=
  let d1 := numD 2 d fun _ r => r
  let d2 := numD 2 d1 fun _ r => r
  let d3 := numD 2 d2 fun _ r => r
  ⟨d3.l.drop 2, numG d3.l d3.sp 2, { d.r with m := d.r.m ++ [⟨numA d.l d.sp 2, numA d1.l d1.sp 2, numA d2.l d2.sp 2, numA d3.l d3.sp 2⟩] }⟩
def mvsD : Nat → Dn → Dn
  | 0, d => d
  | k + 1, d => mvD (mvsD k d)
def getD (x : Lim) (c : UInt8) (d : Dn) : Dn :=
  if c = 112 then textD x.pm d fun s r => { r with p := s } else if c = 116 then textD x.pm d fun s r => { r with t := s } else if c = 115 then numD 4 d fun v r => { r with sz := v }
  else if c = 104 then numD 4 d fun v r => { r with h := v } else if c = 111 then numD 4 d fun v r => { r with o := v } else if c = 100 then textD x.dm d fun s r => { r with d := s }
  else if c = 107 then numD 8 d fun v r => { r with tk := v } else if c = 105 then numD 4 d fun v r => { r with i := v }
  else if c = 109 then mvsD (x.cm (numA d.l d.sp 1)) (numD 1 d fun _ r => r) else d
def zr : Rec := ⟨0, 0, 0, ⟨#[]⟩, ⟨#[]⟩, 0, 0, 0, ⟨#[]⟩, 0, 0, []⟩
def headD (s : List UInt8) : Dn := numD 4 (numD 1 (numD 1 ⟨s, false, zr⟩ fun v r => { r with k := v }) fun v r => { r with cl := v }) fun v r => { r with sq := v }
def decD (x : Lim) (s : List UInt8) : Dn := (fieldsOf (headD s).r.k).data.toList.foldl (fun d c => getD x c d) (headD s)
/-- the record of a text, if there is one -/
def decR (d : Dn) : Option Rec := if endA d.l d.sp = 0 ∧ goodB d.r = true then some d.r else none
theorem getD_112 (x : Lim) (d : Dn) : getD x 112 d = textD x.pm d fun s r => { r with p := s } := by unfold getD; rw [if_pos rfl]
theorem getD_116 (x : Lim) (d : Dn) : getD x 116 d = textD x.pm d fun s r => { r with t := s } := by unfold getD; rw [if_neg (by decide), if_pos rfl]
theorem getD_115 (x : Lim) (d : Dn) : getD x 115 d = numD 4 d fun v r => { r with sz := v } := by unfold getD; rw [if_neg (by decide), if_neg (by decide), if_pos rfl]
theorem getD_104 (x : Lim) (d : Dn) : getD x 104 d = numD 4 d fun v r => { r with h := v } := by unfold getD; rw [if_neg (by decide), if_neg (by decide), if_neg (by decide), if_pos rfl]
theorem getD_111 (x : Lim) (d : Dn) : getD x 111 d = numD 4 d fun v r => { r with o := v } := by unfold getD; rw [if_neg (by decide), if_neg (by decide), if_neg (by decide), if_neg (by decide), if_pos rfl]
theorem getD_100 (x : Lim) (d : Dn) : getD x 100 d = textD x.dm d fun s r => { r with d := s } := by unfold getD; rw [if_neg (by decide), if_neg (by decide), if_neg (by decide), if_neg (by decide), if_neg (by decide), if_pos rfl]
theorem getD_107 (x : Lim) (d : Dn) : getD x 107 d = numD 8 d fun v r => { r with tk := v } := by unfold getD; rw [if_neg (by decide), if_neg (by decide), if_neg (by decide), if_neg (by decide), if_neg (by decide), if_neg (by decide), if_pos rfl]
theorem getD_105 (x : Lim) (d : Dn) : getD x 105 d = numD 4 d fun v r => { r with i := v } := by unfold getD; rw [if_neg (by decide), if_neg (by decide), if_neg (by decide), if_neg (by decide), if_neg (by decide), if_neg (by decide), if_neg (by decide), if_pos rfl]
theorem getD_109 (x : Lim) (d : Dn) : getD x 109 d = mvsD (x.cm (numA d.l d.sp 1)) (numD 1 d fun _ r => r) := by unfold getD; rw [if_neg (by decide), if_neg (by decide), if_neg (by decide), if_neg (by decide), if_neg (by decide), if_neg (by decide), if_neg (by decide), if_neg (by decide), if_pos rfl]
theorem decD_none (x : Lim) (s : List UInt8) (h : ¬ (1 ≤ (headD s).r.k ∧ (headD s).r.k ≤ 14)) : decD x s = headD s := by
  unfold decD fieldsOf hasP
  have q : ∀ j : Int, 1 ≤ j → j ≤ 14 → ((headD s).r.k == j) = false := fun j h1 h2 => beq_eq_false_iff_ne.2 (by omega)
  rw [q 1 (by decide) (by decide), q 2 (by decide) (by decide), q 3 (by decide) (by decide), q 4 (by decide) (by decide), q 5 (by decide) (by decide), q 6 (by decide) (by decide), q 7 (by decide) (by decide), q 8 (by decide) (by decide),
    q 9 (by decide) (by decide), q 10 (by decide) (by decide), q 11 (by decide) (by decide), q 12 (by decide) (by decide), q 13 (by decide) (by decide), q 14 (by decide) (by decide)]
  rfl
theorem putN_getN : ∀ (n : Nat) (l : List UInt8), l.length = n → ShiftP.putN (ShiftP.getN l) n = l
  | 0, l, h => by rw [List.eq_nil_of_length_eq_zero h]; rfl
  | n + 1, l, h => by
    obtain ⟨l', c, rfl⟩ : ∃ l' c, l = l' ++ [c] := ⟨l.dropLast, l.getLast (by intro e; rw [e] at h; cases h), (List.dropLast_concat_getLast _).symm⟩
    have hl : l'.length = n := by simpa using h
    rw [ShiftP.getN_snoc, ShiftP.putN_succ]
    have hc : c.toNat < 256 := UInt8.toNat_lt c
    rw [show (ShiftP.getN l' * 256 + c.toNat) / 256 = ShiftP.getN l' by omega, putN_getN n l' hl]
    congr 2
    rw [UInt8.ofNat_eq_iff_mod_eq_toNat]
    omega
theorem fdB_num (v n : Int) (hn : n ≠ 0) : fdB (fdN v n) = ShiftP.putN v.toNat n.toNat := by rw [fdB, fdN]; exact if_neg hn
theorem fdB_text (s : ByteArray) : fdB (fdT s) = ShiftP.putN s.size 2 ++ s.data.toList := by rw [fdB, fdT]; exact if_pos rfl
/-- what a number read, unspoilt, tells of the text -/
theorem num_back {l : List UInt8} {sp : Bool} {n : Int} (h : numG l sp n = false) : sp = false ∧ 0 ≤ numA l sp n ∧ l = fdB (fdN (numA l sp n) n) ++ l.drop n.toNat := by
  unfold numG at h
  cases hv : unumV l sp n with
  | none => rw [hv] at h; cases h
  | some v =>
    unfold numA
    rw [hv]
    unfold unumV at hv
    split at hv
    · rename_i hc
      obtain ⟨c1, c2, c3, c4⟩ := hc
      injection hv with hv
      refine ⟨c1, Int.natCast_nonneg _, ?_⟩
      have hn : n ≠ 0 := by unfold Sized at c2; omega
      show l = fdB (fdN (v : Int) n) ++ l.drop n.toNat
      rw [fdB_num _ _ hn, Int.toNat_natCast, ← hv, putN_getN _ _ (by rw [List.length_take]; omega), List.take_append_drop]
    · cases hv
theorem text_back {l : List UInt8} {sp : Bool} {m : Int} (h : textG l sp m = false) : sp = false ∧ l = fdB (fdT (textA l sp m)) ++ textR l := by
  unfold textG at h
  cases hv : utextV l sp m with
  | none => rw [hv] at h; cases h
  | some v =>
    unfold textA
    rw [hv]
    unfold utextV at hv
    split at hv
    · rename_i hc
      obtain ⟨c1, c2, c3, c4⟩ := hc
      injection hv with hv
      refine ⟨c1, ?_⟩
      have hsz : (⟨v.toArray⟩ : ByteArray).size = ShiftP.getN (l.take 2) := by
        rw [← hv]
        simp only [ByteArray.size, List.size_toArray, List.length_take, List.length_drop]
        omega
      show l = fdB (fdT ⟨v.toArray⟩) ++ textR l
      rw [fdB_text, hsz, putN_getN _ _ (by rw [List.length_take]; omega)]
      unfold textR
      show l = l.take 2 ++ v ++ _
      rw [← hv, List.append_assoc, List.take_append_drop, List.take_append_drop]
    · cases hv
theorem num_fwd {v n : Int} (h : FdOk (fdN v n)) (hn : n ≠ 0) (hv : v < 9223372036854775808) (rest : List UInt8) :
    numA (fdB (fdN v n) ++ rest) false n = v ∧ numG (fdB (fdN v n) ++ rest) false n = false ∧ (fdB (fdN v n) ++ rest).drop n.toNat = rest := by
  have hm : May v n := by
    rcases h with ⟨h0, _⟩ | ⟨_, h0⟩
    · exact absurd h0 hn
    · exact h0
  obtain ⟨hs, h0, h1⟩ := hm
  rw [fdB_num _ _ hn]
  have hl : (ShiftP.putN v.toNat n.toNat).length = n.toNat := ShiftP.putN_length _ _
  have ht : (ShiftP.putN v.toNat n.toNat ++ rest).take n.toNat = ShiftP.putN v.toNat n.toNat := List.take_left' hl
  have hd : (ShiftP.putN v.toNat n.toNat ++ rest).drop n.toNat = rest := List.drop_left' hl
  obtain ⟨x, rfl⟩ := Int.eq_ofNat_of_zero_le h0
  have hx : x < 256 ^ n.toNat := by
    have e : ((2 : Int) ^ (8 * n.toNat)) = ((2 ^ (8 * n.toNat) : Nat) : Int) := by rw [Int.natCast_pow]; rfl
    rw [e] at h1
    rw [show (256 : Nat) = 2 ^ 8 from rfl, ← Nat.pow_mul]
    omega
  have hg : ShiftP.getN (ShiftP.putN (x : Int).toNat n.toNat) = x := by rw [ShiftP.getN_putN, Int.toNat_natCast, Nat.mod_eq_of_lt hx]
  have hu : unumV (ShiftP.putN (x : Int).toNat n.toNat ++ rest) false n = some x := by
    unfold unumV
    rw [ht, hg, if_pos ⟨rfl, hs, by rw [List.length_append, hl]; omega, by omega⟩]
  exact ⟨by unfold numA; rw [hu], by unfold numG; rw [hu]; rfl, hd⟩
theorem text_fwd {s : ByteArray} (h : FdOk (fdT s)) {m : Int} (hm : (s.size : Int) ≤ m) (rest : List UInt8) :
    textA (fdB (fdT s) ++ rest) false m = s ∧ textG (fdB (fdT s) ++ rest) false m = false ∧ textR (fdB (fdT s) ++ rest) = rest := by
  have h2 : s.size < 65536 := by
    rcases h with ⟨_, h0⟩ | ⟨h0, _⟩
    · exact h0
    · exact absurd rfl h0
  rw [fdB_text]
  have hsz : s.data.toList.length = s.size := by simp
  have hl : (ShiftP.putN s.size 2).length = 2 := ShiftP.putN_length _ _
  rw [List.append_assoc]
  have ht : (ShiftP.putN s.size 2 ++ (s.data.toList ++ rest)).take 2 = ShiftP.putN s.size 2 := List.take_left' hl
  have hd : (ShiftP.putN s.size 2 ++ (s.data.toList ++ rest)).drop 2 = s.data.toList ++ rest := List.drop_left' hl
  have hg : ShiftP.getN (ShiftP.putN s.size 2) = s.size := by rw [ShiftP.getN_putN, Nat.mod_eq_of_lt (by simpa using h2)]
  have hu : utextV (ShiftP.putN s.size 2 ++ (s.data.toList ++ rest)) false m = some s.data.toList := by
    unfold utextV
    rw [ht, hg, hd, if_pos ⟨rfl, by rw [List.length_append, hl]; omega, hm, by rw [List.length_append, List.length_append, hl, hsz]; omega⟩, List.take_left' hsz]
  refine ⟨?_, ?_, ?_⟩
  · unfold textA; rw [hu]
  · unfold textG; rw [hu]; rfl
  · unfold textR; rw [ht, hg, hd]; exact List.drop_left' hsz
theorem mv_back {d : Dn} (h : (mvD d).sp = false) : d.sp = false ∧ ∃ x : Mv, (mvD d).r = { d.r with m := d.r.m ++ [x] } ∧ d.l = (mvF x).flatMap fdB ++ (mvD d).l := by
  unfold mvD at h ⊢
  simp only at h ⊢
  obtain ⟨a4, _, b4⟩ := num_back h
  obtain ⟨a3, _, b3⟩ := num_back a4
  obtain ⟨a2, _, b2⟩ := num_back a3
  obtain ⟨a1, _, b1⟩ := num_back a2
  refine ⟨a1, _, rfl, ?_⟩
  simp only [mvF, List.flatMap_cons, List.flatMap_nil, List.append_nil, List.append_assoc]
  conv => lhs; rw [b1]
  congr 1
  conv => lhs; rw [show List.drop (Int.toNat 2) d.l = (numD 2 d fun _ r => r).l from rfl, b2]
  congr 1
  conv => lhs; rw [show List.drop (Int.toNat 2) (numD 2 d fun _ r => r).l = (numD 2 (numD 2 d fun _ r => r) fun _ r => r).l from rfl, b3]
  congr 1
theorem mvs_back : ∀ (k : Nat) {d : Dn}, (mvsD k d).sp = false → d.sp = false ∧ ∃ xs : List Mv, xs.length = k ∧ (mvsD k d).r = { d.r with m := d.r.m ++ xs } ∧ d.l = (xs.flatMap mvF).flatMap fdB ++ (mvsD k d).l
  | 0, d, h => ⟨h, [], rfl, by simp [mvsD], by simp [mvsD]⟩
  | k + 1, d, h => by
    obtain ⟨h1, x, h2, h3⟩ := mv_back (d := mvsD k d) h
    obtain ⟨h4, xs, h5, h6, h7⟩ := mvs_back k h1
    refine ⟨h4, xs ++ [x], by simp [h5], ?_, ?_⟩
    · show (mvD (mvsD k d)).r = _
      rw [h2, h6]
      simp
    · rw [h7, h3, List.flatMap_append, List.flatMap_append]
      simp [mvsD]
theorem mv_fwd (x : Mv) (hx : ∀ f ∈ mvF x, FdOk f) (hb : x.a < 9223372036854775808 ∧ x.f < 9223372036854775808 ∧ x.n < 9223372036854775808 ∧ x.t < 9223372036854775808) (r : Rec) (rest : List UInt8) :
    mvD ⟨(mvF x).flatMap fdB ++ rest, false, r⟩ = ⟨rest, false, { r with m := r.m ++ [x] }⟩ := by
  have e : (mvF x).flatMap fdB ++ rest = fdB (fdN x.a 2) ++ (fdB (fdN x.f 2) ++ (fdB (fdN x.n 2) ++ (fdB (fdN x.t 2) ++ rest))) := by simp [mvF]
  rw [e]
  obtain ⟨a1, b1, c1⟩ := num_fwd (hx (fdN x.a 2) (by simp [mvF])) (by decide) hb.1 (fdB (fdN x.f 2) ++ (fdB (fdN x.n 2) ++ (fdB (fdN x.t 2) ++ rest)))
  obtain ⟨a2, b2, c2⟩ := num_fwd (hx (fdN x.f 2) (by simp [mvF])) (by decide) hb.2.1 (fdB (fdN x.n 2) ++ (fdB (fdN x.t 2) ++ rest))
  obtain ⟨a3, b3, c3⟩ := num_fwd (hx (fdN x.n 2) (by simp [mvF])) (by decide) hb.2.2.1 (fdB (fdN x.t 2) ++ rest)
  obtain ⟨a4, b4, c4⟩ := num_fwd (hx (fdN x.t 2) (by simp [mvF])) (by decide) hb.2.2.2 rest
  unfold mvD
  simp only [numD, a1, b1, c1, a2, b2, c2, a3, b3, c3, a4, b4]
  rw [show List.drop 2 (fdB (fdN x.t 2) ++ rest) = rest from c4]
theorem mvs_fwd (xs : List Mv) (hx : ∀ x ∈ xs, (∀ f ∈ mvF x, FdOk f) ∧ x.a < 9223372036854775808 ∧ x.f < 9223372036854775808 ∧ x.n < 9223372036854775808 ∧ x.t < 9223372036854775808) (r : Rec) (rest : List UInt8) :
    ∀ k, k ≤ xs.length → mvsD k ⟨(xs.flatMap mvF).flatMap fdB ++ rest, false, r⟩ = ⟨((xs.drop k).flatMap mvF).flatMap fdB ++ rest, false, { r with m := r.m ++ xs.take k }⟩
  | 0, _ => by simp [mvsD]
  | k + 1, hk => by
    show mvD (mvsD k _) = _
    rw [mvs_fwd xs hx r rest k (by omega), List.drop_eq_getElem_cons (by omega), List.flatMap_cons, List.flatMap_append, List.append_assoc]
    have h := hx xs[k] (List.getElem_mem _)
    rw [mv_fwd xs[k] h.1 h.2]
    simp only [List.append_assoc, Dn.mk.injEq, true_and]
    rw [List.take_succ_eq_append_getElem (by omega)]
end Go.Proofs.YtlffcilgmockmaaDoor.OpW
