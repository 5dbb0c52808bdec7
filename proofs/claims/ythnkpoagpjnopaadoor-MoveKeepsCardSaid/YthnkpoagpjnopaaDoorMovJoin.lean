/- Texts of the call's own joined with nothing between. -/
import Derived.Test.YthnkpoagpjnopaaDoorMovSmall
import Derived.Lib.Join
import Derived.Maps.AppendAt
namespace Go.Proofs.YthnkpoagpjnopaaDoor
open Go.RowKit
theorem wpList_append_newH {P : Program} {ops : Array Oper} {rest : List Oper} {o : Oper} {a : Act} {Q : Exit → Act → World → Prop} (hgd : o.guard = none) (s x : Operand) (t : TypeId)
    (ho : o.op = .call { callee := .builtin .append, args := #[s, x], argTypes := #[t, t] })
    (base : Nat) (e : TypeId) (i : TypeInfo) (z : Value) (size bytes : Nat) (ht : P.underlying t = some (.slice e)) (hi : P.info? e = some i) (hz : i.zero = some z)
    (hsize : i.size = size) (hby : i.bytes = bytes) (hzs : z.cells.size = size) (hsz : 0 < size)
    {W : World} (v : Value) (n : Nat) (xs : List Value) (hs : a.eval s = v) (hown : W.ownsRow base e size v n xs)
    {cs : Array Value} {T : TypeId} (b m c : Nat) (hx : a.eval x = .slice (some ⟨b, 0, none⟩) m c) (hl : cs.size = m * size) (h1 : ∀ u ∈ cs.toList, u.oneCell' = true)
    (h63 : n + m ≤ maxLen) (hbytes : (n + m) * bytes ≤ 140737488355328) (hbase : base ≤ W.heap.size) (hb : W.heap.size = b)
    (h : ∀ oa cap w', w'.ownsRow base e size (.slice oa (n + m) cap) (n + m) (xs ++ cs.toList) → Below base W w' → W.grownBy w' v.ownBlock → ((Value.slice oa (n + m) cap).ownBlock = v.ownBlock ∨ (Value.slice oa (n + m) cap).ownBlock = some (W.heap.size + 1)) → wpList P ops Q rest (a.put o.dst (.slice oa (n + m) cap)) w') :
    wpList P ops Q (o :: rest) a (W.alloc (.cells cs T)) := by
  subst hb
  refine wpList_append_own_at (W.alloc (.cells cs T)) hgd s x t ho base e i z size bytes ht hi hz hsize hby hzs hsz v n xs hs (hown.alloc _) ⟨W.heap.size, 0, none⟩ m c cs.toList hx (by simpa using hl) (World.news_of_block (heap_alloc_new W _)) h1 h63 hbytes (by simp; omega) ?_
  intro v' w' h2 h3 _ h5
  have h4 : W.grownBy w' v.ownBlock := grown_from_alloc h3
  obtain ⟨oa, cap, rfl⟩ := row_form h2
  exact h oa cap w' h2 (below_of_grown h4 hown hbase) h4 (by simpa using h5)
end Go.Proofs.YthnkpoagpjnopaaDoor
namespace Go.Proofs.YthnkpoagpjnopaaDoor.MovW
set_option maxRecDepth 100000
open Go.RowKit MovP
def encS (s : ByteArray) : List Value := [.string s]
theorem encS_len (s : ByteArray) : (encS s).length = 1 := rfl
def flatS : List ByteArray → ByteArray → ByteArray
  | [], b => b
  | x :: l, b => flatS l (b ++ x)
theorem flat_data : ∀ (l : List ByteArray) (b : ByteArray), (flatS l b).data.toList = b.data.toList ++ (l.map (·.data.toList)).flatten
  | [], b => by simp [flatS]
  | x :: l, b => by
    rw [flatS, flat_data l, ByteArray.data_append, Array.toList_append]
    simp
theorem joinTail_none : ∀ l : List (List UInt8), Lib.joinTail [] l = l.flatten
  | l => by unfold Lib.joinTail; simp
theorem join_none (l : List (List UInt8)) : Lib.join l [] = l.flatten := by
  cases l with
  | nil => rfl
  | cons x r => rw [Lib.join_cons, joinTail_none]; rfl
theorem dat_flat (D : List Tx) (l : List ExtW.Pt) : datF D l = flatS (txF D l) ⟨#[]⟩ := by
  have key : ∀ (l : List ExtW.Pt) (b : ByteArray), l.foldl (fun b x => b ++ piece D x) b = flatS (l.map (piece D)) b := by
    intro l
    induction l with
    | nil => intro b; rfl
    | cons x l ih => intro b; rw [List.foldl_cons, ih]; rfl
  exact key l _
theorem join_dat (D : List Tx) (l : List ExtW.Pt) : (⟨(Lib.join ((txF D l).map (·.data.toList)) []).toArray⟩ : ByteArray) = datF D l := by
  rw [join_none, dat_flat]
  apply ByteArray.ext
  apply Array.toList_inj.1
  rw [flat_data]
  rfl
set_option maxHeartbeats 400000 in
theorem joined_any {B : Nat} (oa : Option Addr) (n cap : Nat) (l : List ByteArray) (s : ByteArray) (hs : (⟨(Lib.join (l.map (·.data.toList)) []).toArray⟩ : ByteArray) = s) (hz : s.size ≤ 1000000) (hn : n = l.length) (hl : l.length ≤ 1000) (w : World) (h : RowK 9 encS 1 B w (.slice oa n cap) l) :
    Calls Tryd.prog 21 #[.slice oa n cap] w fun e w' => e = .returned (.string s) ∧ Below w.heap.size w w' := by
  subst hn
  have HJ : Hid (Calls Tryd.prog 41 #[.slice oa l.length cap, .string ⟨#[]⟩] w fun e w' => e = .returned (.string s) ∧ Below w.heap.size w w') := by
    apply Lib.hid
    obtain ⟨oa0, cap0, e0, hc1, _, hnil⟩ := h.form
    simp only [Value.slice.injEq] at e0
    obtain ⟨rfl, _, rfl⟩ := e0
    cases oa with
    | none =>
      have h0 : l = [] := List.eq_nil_of_length_eq_zero (hnil rfl).1
      subst h0
      refine (Tryd.strings_Join_none none cap ⟨#[]⟩ w).mono fun e w' ⟨h1, h2⟩ => ⟨?_, by rw [h2]; exact Below.refl _ _⟩
      rw [h1, ← hs]; rfl
    | some a =>
      obtain ⟨q1, _⟩ := OpW.own_base h
      have hab := (q1 a rfl).2
      have hpt := RowK.pts encS_len (by omega) h
      have hsp : a.spot = none ∧ a.off = a.off := by
        rcases h.2 with ⟨e, _⟩ | ⟨g, cp, cur, e, _⟩
        · cases e
        · simp only [Value.slice.injEq, Option.some.injEq] at e
          rw [e.1]; exact ⟨rfl, rfl⟩
      obtain ⟨b, o, sp⟩ := a
      obtain rfl : sp = none := hsp.1
      have key := Tryd.strings_Join b o cap l ⟨#[]⟩ w (by
        intro j x hx
        obtain ⟨a', ha', _, hc⟩ := hpt j x hx
        injection ha' with ha'
        subst ha'
        have he : (⟨b, o, none⟩ : Addr).add (j * 1) = ⟨b, o + j, none⟩ := by
          rw [Nat.mul_one]
          unfold Addr.add
          split
          · rename_i hj0; subst hj0; rfl
          · rfl
        have c0 := hc 0 _ rfl
        simp only [fieldOf] at c0
        rw [he] at c0
        exact c0) hab (by omega) hc1 (by
          have h2 : (⟨(Lib.join (l.map (·.data.toList)) []).toArray⟩ : ByteArray).size = (Lib.join (l.map (·.data.toList)) []).length := by
            show (Lib.join (l.map (·.data.toList)) []).toArray.size = _
            simp
          rw [hs] at h2
          show (Lib.join (l.map (·.data.toList)) []).length ≤ _
          omega)
      refine key.mono fun e w' ⟨h1, h2⟩ => ⟨?_, h2⟩
      rw [h1, ← hs]
  clear h
  go_enter Tryd.func21, Tryd.ntmps21
  go_wp2_with (go_at_call 41; refine HJ.out.mono ?_; rintro e w1 ⟨rfl, hb1⟩)
  go_ret
  exact ⟨rfl, hb1⟩
end Go.Proofs.YthnkpoagpjnopaaDoor.MovW
