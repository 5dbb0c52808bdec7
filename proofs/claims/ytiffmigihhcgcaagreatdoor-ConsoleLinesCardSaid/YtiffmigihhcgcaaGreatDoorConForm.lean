/- Steps and their lines, as plain data: what a line says, and the line of a step. -/
import Derived.Test.YtiffmigihhcgcaaGreatDoorConPlain
namespace Go.Proofs.YtiffmigihhcgcaaGreatDoor.ConP
set_option maxRecDepth 100000
set_option linter.constructorNameAsVariable false
open OpP
/-- what a call is: a record's fields, a path, three numbers, data -/
structure Cal where
  k : Int
  o : Rec
  p : ByteArray
  h : Int
  f : Int
  s : Int
  d : ByteArray
structure Stp where
  k : Int
  c : Int
  n : Int
  f : Int
  a : Cal
def rec0 (k : Int) : Rec := ⟨0, 0, k, ⟨#[]⟩, ⟨#[]⟩, 0, 0, 0, ⟨#[]⟩, 0, 0, []⟩
def cal0 (k o : Int) : Cal := ⟨k, rec0 o, ⟨#[]⟩, 0, 0, 0, ⟨#[]⟩⟩
def stp0 (k c o : Int) : Stp := ⟨k, 0, 0, 0, cal0 c o⟩
/-- where a word belongs -/
inductive Pl where
  | cl | nn | fa | oz | z | oh | h | of | ot | op | p | d
deriving DecidableEq
def bs (w : Bs) : ByteArray := ⟨w.toArray⟩
theorem bs_data (w : Bs) : (bs w).data.toList = w := rfl
theorem bs_of (s : ByteArray) : bs s.data.toList = s := rfl
def setN (s : Stp) : Pl → Int → Stp
  | .cl, v => { s with c := v }
  | .nn, v => { s with n := v }
  | .fa, v => { s with f := v }
  | .oz, v => { s with a := { s.a with o := { s.a.o with sz := v } } }
  | .z, v => { s with a := { s.a with s := v } }
  | .oh, v => { s with a := { s.a with o := { s.a.o with h := v } } }
  | .h, v => { s with a := { s.a with h := v } }
  | .of, v => { s with a := { s.a with f := v } }
  | _, _ => s
def setT (s : Stp) : Pl → ByteArray → Stp
  | .ot, v => { s with a := { s.a with o := { s.a.o with t := v } } }
  | .op, v => { s with a := { s.a with o := { s.a.o with p := v } } }
  | .p, v => { s with a := { s.a with p := v } }
  | .d, v => { s with a := { s.a with d := v } }
  | _, _ => s
def getN (s : Stp) : Pl → Int
  | .cl => s.c
  | .nn => s.n
  | .fa => s.f
  | .oz => s.a.o.sz
  | .z => s.a.s
  | .oh => s.a.o.h
  | .h => s.a.h
  | .of => s.a.f
  | _ => 0
def getT (s : Stp) : Pl → ByteArray
  | .ot => s.a.o.t
  | .op => s.a.o.p
  | .p => s.a.p
  | _ => s.a.d
def pathW (w : Bs) : Bool := (PathW.namesR w).isSome
def putW (s : Stp) (pl : Pl) (w : Bs) : Option Stp := match pl with
  | .ot | .op | .p => if pathW w then some (setT s pl (bs w)) else none
  | .d => (hexW w).map fun x => setT s .d (bs x)
  | _ => (numW w).map fun (n : Nat) => setN s pl (n : Int)
def getW (s : Stp) (pl : Pl) : Bs := match pl with
  | .ot | .op | .p => (getT s pl).data.toList
  | .d => hexS (getT s .d).data.toList
  | _ => Lib.itoa (getN s pl)
theorem getW_put {s t : Stp} {pl : Pl} {w : Bs} (h : putW s pl w = some t) : getW t pl = w := by
  cases pl
  all_goals first
    | (simp only [putW] at h
       cases hn : numW w with
       | none => rw [hn] at h; cases h
       | some n =>
         rw [hn] at h
         simp only [Option.map_some, Option.some.injEq] at h
         subst h
         simp only [getW, getN, setN]
         rw [itoa_nat]
         exact numW_dec hn)
    | (simp only [putW] at h
       split at h
       · injection h with h
         subst h
         rfl
       · cases h)
    | (simp only [putW] at h
       cases hn : hexW w with
       | none => rw [hn] at h; cases h
       | some n =>
         rw [hn] at h
         simp only [Option.map_some, Option.some.injEq] at h
         subst h
         exact hexS_W hn)
theorem put_form {s t : Stp} {pl : Pl} {w : Bs} (h : putW s pl w = some t) : (∃ v, t = setN s pl v) ∨ ∃ v, t = setT s pl v := by
  cases pl
  all_goals first
    | (simp only [putW] at h
       cases hn : numW w with
       | none => rw [hn] at h; cases h
       | some n =>
         rw [hn] at h
         simp only [Option.map_some, Option.some.injEq] at h
         exact .inl ⟨_, h.symm⟩)
    | (simp only [putW] at h
       split at h
       · injection h with h
         exact .inr ⟨_, h.symm⟩
       · cases h)
    | (simp only [putW] at h
       cases hn : hexW w with
       | none => rw [hn] at h; cases h
       | some n =>
         rw [hn] at h
         simp only [Option.map_some, Option.some.injEq] at h
         exact .inr ⟨_, h.symm⟩)
theorem getW_other {s t : Stp} {pl q : Pl} {w : Bs} (h : putW s pl w = some t) (hq : q ≠ pl) : getW t q = getW s q := by
  rcases put_form h with ⟨v, rfl⟩ | ⟨v, rfl⟩
  all_goals (cases pl <;> cases q <;> first | rfl | exact absurd rfl hq)
theorem put_kinds {s t : Stp} {pl : Pl} {w : Bs} (h : putW s pl w = some t) : t.k = s.k ∧ t.a.k = s.a.k ∧ t.a.o.k = s.a.o.k := by
  rcases put_form h with ⟨v, rfl⟩ | ⟨v, rfl⟩
  all_goals (cases pl <;> exact ⟨rfl, rfl, rfl⟩)
def putAll (s : Stp) : List Pl → List Bs → Option Stp
  | [], [] => some s
  | p :: ps, w :: ws => (putW s p w).bind fun s' => putAll s' ps ws
  | _, _ => none
theorem putAll_len : ∀ {ps : List Pl} {ws : List Bs} {s t : Stp}, putAll s ps ws = some t → ps.length = ws.length
  | [], [], _, _, _ => rfl
  | [], _ :: _, _, _, h => by simp [putAll] at h
  | _ :: _, [], _, _, h => by simp [putAll] at h
  | p :: ps, w :: ws, s, t, h => by
    rw [putAll] at h
    cases hp : putW s p w with
    | none => rw [hp] at h; cases h
    | some s' =>
      rw [hp] at h
      simp only [Option.bind_some] at h
      simp [putAll_len h]
theorem putAll_snoc : ∀ (ps : List Pl) (ws : List Bs) (s : Stp) (p : Pl) (w : Bs), ps.length = ws.length → putAll s (ps ++ [p]) (ws ++ [w]) = (putAll s ps ws).bind fun t => putW t p w
  | [], [], s, p, w, _ => by
    simp only [List.nil_append, putAll, Option.bind_some]
    cases putW s p w <;> simp
  | [], _ :: _, _, _, _, h => by simp at h
  | _ :: _, [], _, _, _, h => by simp at h
  | q :: ps, v :: ws, s, p, w, h => by
    simp only [List.cons_append, putAll]
    cases putW s q v with
    | none => rfl
    | some s' => exact putAll_snoc ps ws s' p w (by simpa using h)
theorem putAll_none : ∀ (ps qs : List Pl) (ws vs : List Bs) (s : Stp), ps.length = ws.length → putAll s ps ws = none → putAll s (ps ++ qs) (ws ++ vs) = none
  | [], _, [], _, _, _, h => by cases h
  | [], _, _ :: _, _, _, h, _ => by simp at h
  | _ :: _, _, [], _, _, h, _ => by simp at h
  | q :: ps, qs, v :: ws, vs, s, hl, h => by
    simp only [List.cons_append, putAll] at h ⊢
    cases hq : putW s q v with
    | none => rfl
    | some s' =>
      rw [hq] at h
      exact putAll_none ps qs ws vs s' (by simpa using hl) h
theorem putAll_other : ∀ {ps : List Pl} {ws : List Bs} {s t : Stp} {q : Pl}, putAll s ps ws = some t → q ∉ ps → getW t q = getW s q
  | [], [], _, _, _, h, _ => by injection h with h; rw [h]
  | [], _ :: _, _, _, _, h, _ => by simp [putAll] at h
  | _ :: _, [], _, _, _, h, _ => by simp [putAll] at h
  | p :: ps, w :: ws, s, t, q, h, hq => by
    rw [putAll] at h
    simp only [List.mem_cons, not_or] at hq
    cases hp : putW s p w with
    | none => rw [hp] at h; cases h
    | some s' =>
      rw [hp] at h
      rw [putAll_other (s := s') h hq.2, getW_other hp hq.1]
theorem putAll_get : ∀ {ps : List Pl} {ws : List Bs} {s t : Stp}, putAll s ps ws = some t → ps.Nodup → ps.map (getW t) = ws
  | [], [], _, _, _, _ => rfl
  | [], _ :: _, _, _, h, _ => by simp [putAll] at h
  | _ :: _, [], _, _, h, _ => by simp [putAll] at h
  | p :: ps, w :: ws, s, t, h, hn => by
    rw [putAll] at h
    rw [List.nodup_cons] at hn
    cases hp : putW s p w with
    | none => rw [hp] at h; cases h
    | some s' =>
      rw [hp] at h
      simp only [Option.bind_some] at h
      rw [List.map_cons, putAll_get h hn.2, putAll_other h hn.1, getW_put hp]
theorem putAll_kinds : ∀ {ps : List Pl} {ws : List Bs} {s t : Stp}, putAll s ps ws = some t → t.k = s.k ∧ t.a.k = s.a.k ∧ t.a.o.k = s.a.o.k
  | [], [], _, _, h => by injection h with h; rw [h]; exact ⟨rfl, rfl, rfl⟩
  | [], _ :: _, _, _, h => by simp [putAll] at h
  | _ :: _, [], _, _, h => by simp [putAll] at h
  | p :: ps, w :: ws, s, t, h => by
    rw [putAll] at h
    cases hp : putW s p w with
    | none => rw [hp] at h; cases h
    | some s' =>
      rw [hp] at h
      obtain ⟨h1, h2, h3⟩ := putAll_kinds (s := s') h
      obtain ⟨g1, g2, g3⟩ := put_kinds hp
      exact ⟨h1.trans g1, h2.trans g2, h3.trans g3⟩
/-- a letter of a form -/
def place (o : Bool) (f : UInt8) : Pl :=
  if f = 99 then .cl else if f = 102 then .fa else if f = 110 then .nn else if f = 111 then .of else if f = 115 then (if o then .oz else .z) else if f = 104 then (if o then .oh else .h)
  else if f = 116 then .ot else if f = 112 then (if o then .op else .p) else .d
/-- a line's form -/
structure Fm where
  w : Bs
  k : Int
  c : Int
  o : Int
  fs : Bs
def Fm.ps (x : Fm) : List Pl := x.fs.map (place (x.c == 1))
def bodyW (x : Fm) (l : List Bs) : Option (List Bs) :=
  if x.k = 1 then (match l with | a :: b :: c :: r => if a = [99] ∧ c = x.w then some (b :: r) else none | _ => none)
  else match l with | a :: r => if a = x.w then some r else none | [] => none
def Fm.all (x : Fm) : List Pl := if x.k = 1 then .cl :: x.ps else x.ps
def parseF (x : Fm) (l : List Bs) : Option Stp := (bodyW x l).bind (putAll (stp0 x.k x.c x.o) x.all)
def calls : List Fm := [
  ⟨[109, 107, 100, 105, 114], 1, 1, 1, [112]⟩, ⟨[114, 109, 100, 105, 114], 1, 1, 2, [112]⟩, ⟨[99, 114, 101, 97, 116, 101], 1, 1, 3, [112]⟩, ⟨[108, 105, 110, 107], 1, 1, 4, [112, 116]⟩,
  ⟨[117, 110, 108, 105, 110, 107], 1, 1, 5, [112]⟩, ⟨[114, 101, 110, 97, 109, 101], 1, 1, 6, [112, 116]⟩, ⟨[116, 114, 117, 110, 99, 97, 116, 101], 1, 1, 7, [112, 115]⟩, ⟨[111, 112, 101, 110], 1, 1, 8, [112]⟩,
  ⟨[99, 108, 111, 115, 101], 1, 1, 9, [104]⟩, ⟨[114, 101, 110, 101, 119], 1, 1, 11, []⟩, ⟨[101, 120, 112, 105, 114, 101], 1, 1, 12, []⟩,
  ⟨[115, 116, 97, 116], 1, 2, 0, [112]⟩, ⟨[108, 105, 115, 116], 1, 3, 0, [112]⟩, ⟨[114, 101, 97, 100], 1, 4, 0, [104, 111, 115]⟩, ⟨[119, 114, 105, 116, 101], 1, 5, 0, [104, 111, 100]⟩,
  ⟨[115, 121, 110, 99], 1, 6, 0, [104]⟩, ⟨[105, 109, 97, 103, 101], 1, 7, 0, []⟩, ⟨[109, 111, 118, 101], 1, 8, 0, [115]⟩, ⟨[116, 114, 105, 109], 1, 9, 0, []⟩]
def rest : List Fm := [⟨[103], 2, 0, 0, [99, 102]⟩, ⟨[104], 3, 0, 0, [110]⟩, ⟨[100], 4, 0, 0, [110]⟩, ⟨[116], 5, 0, 0, [110]⟩, ⟨[120], 6, 0, 0, [99]⟩, ⟨[117], 7, 0, 0, [110]⟩, ⟨[111], 8, 0, 0, []⟩, ⟨[109], 10, 0, 0, [102]⟩]
def forms : List Fm := calls ++ rest
theorem forms_len : forms.length = 27 := rfl
def parseP (l : List Bs) : Option Stp := forms.findSome? (parseF · l)
def Fm.key (x : Fm) : Int × Int × Int := (x.k, x.c, x.o)
def Stp.key (s : Stp) : Int × Int × Int := (s.k, s.a.k, s.a.o.k)
def lineL (x : Fm) (s : Stp) : List Bs := if x.k = 1 then [99] :: Lib.itoa s.c :: x.w :: x.ps.map (getW s) else x.w :: x.ps.map (getW s)
theorem parseF_key {x : Fm} {l : List Bs} {s : Stp} (h : parseF x l = some s) : s.key = x.key := by
  unfold parseF at h
  cases hb : bodyW x l with
  | none => rw [hb] at h; cases h
  | some r =>
    rw [hb] at h
    obtain ⟨h1, h2, h3⟩ := putAll_kinds h
    unfold Stp.key Fm.key
    rw [h1, h2, h3]; rfl
theorem parseF_line {x : Fm} {l : List Bs} {s : Stp} (h : parseF x l = some s) (hn : x.all.Nodup) : lineL x s = l := by
  unfold parseF at h
  cases hb : bodyW x l with
  | none => rw [hb] at h; cases h
  | some r =>
    rw [hb] at h
    have hg := putAll_get h hn
    unfold bodyW at hb
    unfold lineL
    unfold Fm.all at hg
    by_cases hk : x.k = 1
    · rw [if_pos hk] at hb hg ⊢
      match l, hb with
      | a :: b :: c :: q, hb =>
        simp only at hb
        by_cases hc : a = [99] ∧ c = x.w
        · rw [if_pos hc] at hb
          injection hb with hb
          rw [← hb, List.map_cons] at hg
          injection hg with g1 g2
          rw [g2, ← hc.2, hc.1]
          rw [show Lib.itoa s.c = b from g1]
        · rw [if_neg hc] at hb; cases hb
    · rw [if_neg hk] at hb hg ⊢
      match l, hb with
      | a :: q, hb =>
        simp only at hb
        by_cases hc : a = x.w
        · rw [if_pos hc] at hb
          injection hb with hb
          rw [hg, hc, hb]
        · rw [if_neg hc] at hb; cases hb
theorem forms_nodup : ∀ x ∈ forms, x.all.Nodup := by decide
theorem keys_nodup : (forms.map Fm.key).Nodup := by decide
theorem parseP_some {l : List Bs} {s : Stp} (h : parseP l = some s) : ∃ x ∈ forms, parseF x l = some s := by
  obtain ⟨x, h1, h2⟩ := List.exists_of_findSome?_eq_some h
  exact ⟨x, h1, h2⟩
theorem find_key {α : Type} (G : Fm → Option α) : ∀ (L : List Fm) (k : Int × Int × Int) (x : Fm), (L.map Fm.key).Nodup → x ∈ L → x.key = k → L.findSome? (fun y => if y.key = k then G y else none) = G x
  | [], _, _, _, h, _ => by simp at h
  | y :: L, k, x, hn, hx, hk => by
    rw [List.map_cons, List.nodup_cons] at hn
    rw [List.findSome?_cons]
    rcases List.mem_cons.1 hx with rfl | hx
    · rw [if_pos hk]
      cases hg : G x with
      | some v => rfl
      | none =>
        simp only
        rw [List.findSome?_eq_none_iff]
        intro z hz
        rw [if_neg]
        intro e
        exact hn.1 (List.mem_map.2 ⟨z, hz, by rw [e, hk]⟩)
    · have hne : y.key ≠ k := fun e => hn.1 (List.mem_map.2 ⟨x, hx, by rw [hk, e]⟩)
      rw [if_neg hne]
      exact find_key G L k x hn.2 hx hk
theorem find_nokey {α : Type} (G : Fm → Option α) (L : List Fm) (k : Int × Int × Int) (h : ∀ x ∈ L, x.key ≠ k) : L.findSome? (fun y => if y.key = k then G y else none) = none := by
  rw [List.findSome?_eq_none_iff]
  intro z hz
  rw [if_neg (h z hz)]
/-- are two steps alike? -/
def sameC (x y : Cal) : Bool := x.k == y.k && sameB x.o y.o && decide (x.p = y.p) && x.h == y.h && x.f == y.f && x.s == y.s && decide (x.d = y.d)
def sameS (x y : Stp) : Bool := x.k == y.k && x.c == y.c && x.n == y.n && x.f == y.f && sameC x.a y.a
theorem sameS_iff (x y : Stp) : sameS x y = true ↔ x = y := by
  obtain ⟨k1, c1, n1, f1, a1, o1, p1, h1, g1, s1, d1⟩ := x
  obtain ⟨k2, c2, n2, f2, a2, o2, p2, h2, g2, s2, d2⟩ := y
  unfold sameS sameC
  simp only [Bool.and_eq_true, beq_iff_eq, decide_eq_true_eq, sameB_iff, Stp.mk.injEq, Cal.mk.injEq]
  constructor
  · rintro ⟨⟨⟨⟨rfl, rfl⟩, rfl⟩, rfl⟩, ⟨⟨⟨⟨⟨⟨rfl, rfl⟩, rfl⟩, rfl⟩, rfl⟩, rfl⟩, rfl⟩⟩
    exact ⟨rfl, rfl, rfl, rfl, rfl, rfl, rfl, rfl, rfl, rfl, rfl⟩
  · rintro ⟨rfl, rfl, rfl, rfl, rfl, rfl, rfl, rfl, rfl, rfl, rfl⟩
    exact ⟨⟨⟨⟨rfl, rfl⟩, rfl⟩, rfl⟩, ⟨⟨⟨⟨⟨⟨rfl, rfl⟩, rfl⟩, rfl⟩, rfl⟩, rfl⟩, rfl⟩⟩
/-- does a line say just this step? z: nothing of a projection is there -/
def saysB (t : Bs) (s : Stp) (z : Bool) : Bool := match parseP (wds t) with | some q => sameS q s && z | none => false
theorem saysB_iff {t : Bs} {s : Stp} : saysB t s true = true ↔ parseP (wds t) = some s := by
  unfold saysB
  cases parseP (wds t) with
  | none => simp
  | some q => simp [sameS_iff]
def tryF (s : Stp) (z : Bool) (x : Fm) : Option Bs := if saysB (joinW (lineL x s)) s z then some (joinW (lineL x s)) else none
def lineP (s : Stp) (z : Bool) : Option Bs := forms.findSome? fun x => if x.key = s.key then tryF s z x else none
theorem lineP_says {s : Stp} {z : Bool} {t : Bs} (h : lineP s z = some t) : saysB t s z = true := by
  obtain ⟨x, _, h2⟩ := List.exists_of_findSome?_eq_some h
  by_cases hk : x.key = s.key
  · rw [if_pos hk] at h2
    unfold tryF at h2
    split at h2
    · rename_i hs
      injection h2 with h2
      rw [← h2]; exact hs
    · cases h2
  · rw [if_neg hk] at h2; cases h2
/-- a line that was read is written as it was -/
theorem line_back {t : Bs} {s : Stp} (h : parseP (wds t) = some s) : lineP s true = some t := by
  obtain ⟨x, hx, hf⟩ := parseP_some h
  have hk := parseF_key hf
  have hl := parseF_line hf (forms_nodup x hx)
  unfold lineP
  rw [find_key (tryF s true) forms s.key x keys_nodup hx hk.symm]
  unfold tryF
  rw [hl, join_wds, if_pos (saysB_iff.2 h)]
/- the document's answer -/
/-- a letter of the document's forms -/
def place2 (o : Bool) (f : UInt8) : Pl :=
  if f = 112 then (if o then .op else .p) else if f = 113 then .ot else if f = 100 then .d else if f = 110 then (if o then .oz else .z) else if f = 104 then (if o then .oh else .h) else .of
structure Fr where
  w : Bs
  c : Int
  o : Int
  fs : Bs
def Fr.ps (x : Fr) : List Pl := x.fs.map (place2 (x.o != 0))
def rforms : List Fr := [
  ⟨[109, 107, 100, 105, 114], 1, 1, [112]⟩, ⟨[114, 109, 100, 105, 114], 1, 2, [112]⟩, ⟨[99, 114, 101, 97, 116, 101], 1, 3, [112]⟩, ⟨[108, 105, 110, 107], 1, 4, [112, 113]⟩,
  ⟨[117, 110, 108, 105, 110, 107], 1, 5, [112]⟩, ⟨[114, 101, 110, 97, 109, 101], 1, 6, [112, 113]⟩, ⟨[116, 114, 117, 110, 99, 97, 116, 101], 1, 7, [112, 110]⟩, ⟨[111, 112, 101, 110], 1, 8, [112]⟩,
  ⟨[99, 108, 111, 115, 101], 1, 9, [104]⟩, ⟨[114, 101, 110, 101, 119], 1, 11, []⟩, ⟨[101, 120, 112, 105, 114, 101], 1, 12, []⟩,
  ⟨[115, 116, 97, 116], 2, 0, [112]⟩, ⟨[108, 105, 115, 116], 3, 0, [112]⟩, ⟨[114, 101, 97, 100], 4, 0, [104, 111, 110]⟩, ⟨[119, 114, 105, 116, 101], 5, 0, [104, 111, 100]⟩,
  ⟨[115, 121, 110, 99], 6, 0, [104]⟩, ⟨[105, 109, 97, 103, 101], 7, 0, []⟩, ⟨[109, 111, 118, 101], 8, 0, [110]⟩, ⟨[116, 114, 105, 109], 9, 0, []⟩]
def rreadS (k : Int) (x : Fr) (ws : List Bs) : Option Stp := putAll ⟨1, k, 0, 0, cal0 x.c x.o⟩ x.ps ws
def rcallP (k : Int) (c : Bs) (ws : List Bs) : Option Stp := rforms.findSome? fun x => if x.w = c then rreadS k x ws else none
def rone (a : Bs) (n : Int) : Option Stp :=
  if a = [104] then some ⟨3, 0, n, 0, cal0 0 0⟩ else if a = [100] then some ⟨4, 0, n, 0, cal0 0 0⟩ else if a = [116] then some ⟨5, 0, n, 0, cal0 0 0⟩ else if a = [120] then some ⟨6, n, 0, 0, cal0 0 0⟩
  else if a = [117] then some ⟨7, 0, n, 0, cal0 0 0⟩ else if a = [109] then some ⟨10, 0, 0, n, cal0 0 0⟩ else none
def rparse (l : List Bs) : Option Stp := match l with
  | [a] => if a = [111] then some (stp0 8 0 0) else none
  | [a, b] => (numW b).bind fun (n : Nat) => rone a (n : Int)
  | a :: b :: c :: r =>
    if a = [99] then (numW b).bind fun (n : Nat) => rcallP (n : Int) c r
    else if r = [] ∧ a = [103] then (numW b).bind fun (n : Nat) => (numW c).map fun (m : Nat) => ⟨2, (n : Int), 0, (m : Int), cal0 0 0⟩ else none
  | [] => none
theorem place_calls : calls.map (fun x => ((x.w, x.c, x.o), x.ps)) = rforms.map fun x => ((x.w, x.c, x.o), x.ps) := by decide
theorem calls_one : ∀ x ∈ calls, x.k = 1 := by decide
theorem find_both (k : Int) (c : Bs) (ws : List Bs) : ∀ (L : List Fm) (R : List Fr), L.map (fun x => ((x.w, x.c, x.o), x.ps)) = R.map (fun x => ((x.w, x.c, x.o), x.ps)) →
    L.findSome? (fun x => if x.w = c then putAll ⟨1, k, 0, 0, cal0 x.c x.o⟩ x.ps ws else none) = R.findSome? fun x => if x.w = c then rreadS k x ws else none
  | [], [], _ => rfl
  | [], _ :: _, h => by simp at h
  | _ :: _, [], h => by simp at h
  | x :: L, y :: R, h => by
    rw [List.map_cons, List.map_cons] at h
    injection h with h1 h2
    simp only [Prod.mk.injEq] at h1
    obtain ⟨⟨e1, e2, e3⟩, e4⟩ := h1
    rw [List.findSome?_cons, List.findSome?_cons, find_both k c ws L R h2]
    unfold rreadS
    rw [e1, e2, e3, e4]
theorem find_congr {L : List Fm} {α : Type} {f g : Fm → Option α} (h : ∀ x ∈ L, f x = g x) : L.findSome? f = L.findSome? g := by
  induction L with
  | nil => rfl
  | cons x L ih =>
    rw [List.findSome?_cons, List.findSome?_cons, h x (by simp), ih fun y hy => h y (by simp [hy])]
theorem calls_parse (b c : Bs) (r : List Bs) : calls.findSome? (parseF · ([99] :: b :: c :: r)) = (numW b).bind fun (n : Nat) => rcallP (n : Int) c r := by
  have e : ∀ x ∈ calls, parseF x ([99] :: b :: c :: r) = (numW b).bind fun (n : Nat) => if x.w = c then putAll ⟨1, (n : Int), 0, 0, cal0 x.c x.o⟩ x.ps r else none := by
    intro x hx
    have hk := calls_one x hx
    unfold parseF bodyW Fm.all
    rw [if_pos hk, if_pos hk]
    simp only [true_and]
    by_cases hw : c = x.w
    · rw [if_pos hw]
      show putAll _ _ _ = _
      rw [putAll]
      simp only [putW]
      cases numW b with
      | none => rfl
      | some n =>
        simp only [Option.map_some, Option.bind_some]
        rw [if_pos hw.symm, hk]
        rfl
    · rw [if_neg hw]
      cases numW b with
      | none => rfl
      | some n =>
        simp only [Option.bind_some, Option.bind_none]
        rw [if_neg (fun h => hw h.symm)]
  rw [find_congr e]
  cases numW b with
  | none =>
    simp only [Option.bind_none]
    rw [List.findSome?_eq_none_iff]; intro _ _; rfl
  | some n => exact find_both n c r calls rforms place_calls
theorem calls_no {l : List Bs} (h : ∀ b c r, l ≠ [99] :: b :: c :: r) : calls.findSome? (parseF · l) = none := by
  rw [List.findSome?_eq_none_iff]
  intro x hx
  have hk := calls_one x hx
  unfold parseF bodyW
  rw [if_pos hk]
  match l, h with
  | [], _ => rfl
  | [_], _ => rfl
  | [_, _], _ => rfl
  | a :: b :: c :: r, h =>
    simp only
    rw [if_neg]
    · rfl
    · rintro ⟨rfl, _⟩
      exact h b c r rfl
theorem rest_cons (x : Fm) (hk : x.k ≠ 1) (a : Bs) (r : List Bs) : parseF x (a :: r) = if a = x.w then putAll (stp0 x.k x.c x.o) x.ps r else none := by
  unfold parseF bodyW Fm.all
  rw [if_neg hk, if_neg hk]
  simp only
  by_cases h : a = x.w
  · rw [if_pos h, if_pos h]; rfl
  · rw [if_neg h, if_neg h]; rfl
theorem rest_other : ∀ x ∈ rest, x.k ≠ 1 := by decide
theorem rest_nil : rest.findSome? (parseF · []) = none := by
  rw [List.findSome?_eq_none_iff]
  intro x hx
  unfold parseF bodyW
  rw [if_neg (rest_other x hx)]
  rfl
def G (a : Bs) (r : List Bs) (x : Fm) : Option Stp := if a = x.w then putAll (stp0 x.k x.c x.o) x.ps r else none
theorem rest_is (a : Bs) (r : List Bs) : rest.findSome? (parseF · (a :: r)) = rest.findSome? (G a r) := find_congr fun x hx => rest_cons x (rest_other x hx) a r
theorem put_two (s : Stp) (p : Pl) : putAll s [p] [] = none := rfl
theorem rparse_is (l : List Bs) : parseP l = rparse l := by
  unfold parseP forms
  rw [List.findSome?_append]
  match l with
  | [] =>
    rw [calls_no (by simp), rest_nil]; rfl
  | [a] =>
    rw [calls_no (by simp), rest_is]
    simp only [Option.none_or, rest, List.findSome?_cons, List.findSome?_nil, G, rparse]
    by_cases h : a = [111]
    · subst h; rfl
    · rw [if_neg h]
      have hn : ∀ (y : Bs) (s : Stp) (p : Pl) (q : List Pl), (if a = y then putAll s (p :: q) [] else none) = none := by
        intro y s p q; split <;> rfl
      simp only [Fm.ps, List.map_cons, hn]
      rw [if_neg h]
  | [a, b] =>
    rw [calls_no (by simp), rest_is]
    simp only [Option.none_or, rest, List.findSome?_cons, List.findSome?_nil, G, rparse]
    have hn0 : ∀ (y : Bs) (s : Stp), (if a = y then putAll s [] [b] else none) = none := by
      intro y s; split <;> rfl
    have hn2 : ∀ (y : Bs) (s : Stp) (p q : Pl), (if a = y then putAll s [p, q] [b] else none) = none := by
      intro y s p q
      split
      · rw [putAll]
        cases putW s p b <;> rfl
      · rfl
    have hn1 : ∀ (y : Bs) (s : Stp) (p : Pl), (if a = y then putAll s [p] [b] else none) = if a = y then putW s p b else none := by
      intro y s p
      split
      · rw [putAll]
        cases putW s p b <;> rfl
      · rfl
    simp only [Fm.ps, List.map_cons, List.map_nil, hn0, hn1, hn2]
    cases hb : numW b with
    | none =>
      have hp : ∀ s f, putW s (place false f) b = none ∨ f = 100 ∨ f = 116 ∨ f = 112 ∨ ¬ f ∈ [99, 102, 110, 111, 115, 104] := by
        intro s f
        by_cases hf : f ∈ [99, 102, 110, 111, 115, 104]
        · left
          simp only [List.mem_cons, List.not_mem_nil, or_false] at hf
          rcases hf with rfl | rfl | rfl | rfl | rfl | rfl <;> simp [place, putW, hb]
        · exact .inr (.inr (.inr (.inr hf)))
      simp [place, putW, hb]
    | some n =>
      simp only [Option.bind_some]
      unfold rone
      by_cases h1 : a = [104]
      · subst h1; simp [place, putW, hb]; rfl
      · by_cases h2 : a = [100]
        · subst h2; simp [place, putW, hb]; rfl
        · by_cases h3 : a = [116]
          · subst h3; simp [place, putW, hb]; rfl
          · by_cases h4 : a = [120]
            · subst h4; simp [place, putW, hb]; rfl
            · by_cases h5 : a = [117]
              · subst h5; simp [place, putW, hb]; rfl
              · by_cases h6 : a = [109]
                · subst h6; simp [place, putW, hb]; rfl
                · simp [h1, h2, h3, h4, h5, h6]
  | a :: b :: c :: r =>
    by_cases ha : a = [99]
    · subst ha
      rw [calls_parse, rparse, if_pos rfl]
      have hr : rest.findSome? (parseF · ([99] :: b :: c :: r)) = none := by
        rw [rest_is, List.findSome?_eq_none_iff]
        intro x hx
        unfold G
        rw [if_neg]
        revert x
        decide
      rw [hr, Option.or_none]
    · rw [calls_no (by intro b' c' r' e; injection e with e; exact ha e), rest_is]
      simp only [Option.none_or, rest, List.findSome?_cons, List.findSome?_nil, G, rparse]
      rw [if_neg ha]
      have hn0 : ∀ (y : Bs) (s : Stp), (if a = y then putAll s [] (b :: c :: r) else none) = none := by
        intro y s; split <;> rfl
      have hn1 : ∀ (y : Bs) (s : Stp) (p : Pl), (if a = y then putAll s [p] (b :: c :: r) else none) = none := by
        intro y s p
        split
        · rw [putAll]
          cases putW s p b <;> rfl
        · rfl
      simp only [Fm.ps, List.map_cons, List.map_nil, hn0, hn1]
      by_cases hg : a = [103]
      · subst hg
        cases r with
        | nil =>
          rw [if_pos rfl, if_pos ⟨rfl, rfl⟩]
          simp only [putAll, place, putW]
          cases hb : numW b with
          | none => rfl
          | some n =>
            cases hc : numW c with
            | none => simp
            | some m => simp; rfl
        | cons d r =>
          rw [if_pos rfl, if_neg (by simp)]
          have hz : ∀ (u : Option Stp) (q : Pl), (u.bind fun s' => (putW s' q c).bind fun _ => (none : Option Stp)) = none := by
            intro u q
            cases u with
            | none => rfl
            | some v => simp only [Option.bind_some]; cases putW v q c <;> rfl
          simp only [putAll, hz]
      · rw [if_neg hg, if_neg (fun h => hg h.2)]
end Go.Proofs.YtiffmigihhcgcaaGreatDoor.ConP
