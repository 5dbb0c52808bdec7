/- op.get: one field, unpacked. -/
import Derived.Test.YtlffcilgmockmaaDoorOpDecQ
import Derived.Test.YtlffcilgmockmaaDoorOpDraw
namespace Go.Proofs.YtlffcilgmockmaaDoor.OpW
set_option maxRecDepth 100000
open Go.RowKit OpP PackW
/-- what the program reads at most -/
def limP : Lim := ⟨4096, 1024, fun n => (min n 17).toNat⟩
theorem limP_ok : limP.Ok := ⟨by decide, by decide, fun n h0 h => by show (((min n 17).toNat : Nat) : Int) = n; have : (min n 17).toNat ≤ 16 := h; omega, fun n h0 h => by show (((min n 17).toNat : Nat) : Int) = n; omega⟩
/-- the unpacker in block b, the record so far in block ob, made from B on -/
structure DecAt (B b ob : Nat) (d : Dn) (v : Value) (w0 w : World) : Prop where
  un : UIs b d.l d.sp w
  bx : OBox w ob d.r v
  row : RowK 51 encM 4 B w v d.r.m
  low : Below B w0 w
  ne : b ≠ ob
  hb : B ≤ b
  ho : B ≤ ob
theorem own_ne {w : World} {B : Nat} {e T : TypeId} {v : Value} {size n : Nat} {xs : List Value} {b : Nat} {cs : Array Value} {fr : Nat × Nat} (hown : w.ownsRow B e size v n xs) (hb : w.heap[b]? = some (.cells cs T fr)) (hTe : T ≠ e) : v.ownBlock ≠ some b := by
  rcases hown.2 with ⟨rfl, _⟩ | ⟨g, cap, cur, rfl, _, hg, _⟩
  · simp [Value.ownBlock]
  · intro h
    simp only [Value.ownBlock, Option.some.injEq] at h
    subst h
    rw [hg] at hb
    simp only [Option.some.injEq, Obj.cells.injEq] at hb
    exact hTe hb.2.1.symm
theorem wp_append_at (d : Option Tmp) {P : Program} {o : Oper} {a : Act} {K : Act → World → Prop} {Q : Exit → Act → World → Prop} (hd : o.dst = d) (s x : Operand) (t : TypeId)
    (ho : o.op = .call { callee := .builtin .append, args := #[s, x], argTypes := #[t, t] })
    (base : Nat) (e : TypeId) (i : TypeInfo) (z : Value) (size bytes : Nat) (ht : P.underlying t = some (.slice e)) (hi : P.info? e = some i) (hz : i.zero = some z)
    (hsize : i.size = size) (hby : i.bytes = bytes) (hzs : z.cells.size = size) (hsz : 0 < size)
    (W : World) (v : Value) (n : Nat) (xs : List Value) (hs : a.eval s = v) (hown : W.ownsRow base e size v n xs)
    (ad : Addr) (m c : Nat) (news : List Value) (hx : a.eval x = .slice (some ad) m c)
    (hl : news.length = m * size) (hnews : ∀ j u, news[j]? = some u → W.cell? (ad.add j) = some u) (h1 : ∀ u ∈ news, u.oneCell' = true)
    (h63 : n + m ≤ maxLen) (hbytes : (n + m) * bytes ≤ 140737488355328) (hbase : base ≤ W.heap.size)
    (h : ∀ oa' cap' w', w'.ownsRow base e size (.slice oa' (n + m) cap') (n + m) (xs ++ news) → W.grownBy w' v.ownBlock → ((Value.slice oa' (n + m) cap').ownBlock = v.ownBlock ∨ (Value.slice oa' (n + m) cap').ownBlock = some W.heap.size) → K (a.put d (.slice oa' (n + m) cap')) w') : o.wp P a W K Q := by
  subst hd
  obtain ⟨v', w', hr, h2, h3, _, h5⟩ := run_append_own_at (P := P) W base t o.type e i z size bytes ht hi hz hsize hby hzs hsz v n xs hown ad m c news hl hnews h1 h63 hbytes hbase
  obtain ⟨oa', cap', rfl⟩ := row_form h2
  unfold Oper.wp execOp
  simp only [ho, resolve, invoke, builtin, Sem.run_bind, Sem.run_pure, Result.andThen_ok, List.map_toArray, List.map_cons, List.map_nil, hs, hx, hr]
  exact h oa' cap' w' h2 h3 h5
theorem wp_calls (d : Option Tmp) {P : Program} {o : Oper} {a : Act} {w : World} {K : Act → World → Prop} {Q : Exit → Act → World → Prop} {f : FuncId} {args : Array Value} {v : Value} {Post : World → Prop} (hd : o.dst = d) (hr : (execOp a.eval o).run P w = .ok (.enter f args) w)
    (hc : Calls P f args w (fun e w' => e = .returned v ∧ Post w')) (h : ∀ w', Post w' → K (a.put d v) w') : o.wp P a w K Q := by
  subst hd
  unfold Oper.wp
  rw [hr]
  refine hc.mono ?_
  rintro e w' ⟨rfl, hp⟩
  exact h w' hp
theorem num_as {P : Program} {f : FuncId} {args : Array Value} {w : World} {x y : Int} {Post : World → Prop} (h : x = y) (hc : Calls P f args w (fun e w' => e = .returned (.int .i64 y) ∧ Post w')) : Calls P f args w (fun e w' => e = .returned (.int .i64 x) ∧ Post w') := by rw [h]; exact hc
theorem numA_nonneg (l : List UInt8) (sp : Bool) (n : Int) : 0 ≤ numA l sp n := by
  unfold numA
  cases unumV l sp n with
  | none => exact Int.le_refl _
  | some v => exact Int.natCast_nonneg _
theorem DecAt.far {B b ob : Nat} {d : Dn} {v : Value} {w0 w : World} (h : DecAt B b ob d v w0 w) : v.ownBlock ≠ some b ∧ v.ownBlock ≠ some ob := by
  obtain ⟨s, h1, _⟩ := h.un
  exact ⟨own_ne h.row h1 (by decide), own_ne h.row h.bx (by decide)⟩
theorem DecAt.num {B b ob : Nat} {d : Dn} {v : Value} {w0 w w1 : World} (h : DecAt B b ob d v w0 w) {l : List UInt8} {sp : Bool} (hu : UIs b l sp w1) (k : Only b w w1) : DecAt B b ob ⟨l, sp, d.r⟩ v w0 w1 :=
  ⟨hu, k.heap h.bx (Ne.symm h.ne), k.keepRow h.row h.far.1, h.low.trans (k.below h.hb (by have := lt_of_block h.bx; have := h.ho; omega)), h.ne, h.hb, h.ho⟩
theorem DecAt.set {B b ob : Nat} {d : Dn} {v : Value} {w0 w : World} (h : DecAt B b ob d v w0 w) (j : Nat) (u : Value) (r : Rec) (hc : (#[.int .i64 d.r.cl, .int .i64 d.r.sq, .int .i64 d.r.k, .string d.r.p, .string d.r.t, .int .i64 d.r.sz, .int .i64 d.r.h, .int .i64 d.r.o, .string d.r.d, .int .i64 d.r.tk, .int .i64 d.r.i, v] : Array Value).setIfInBounds j u = #[.int .i64 r.cl, .int .i64 r.sq, .int .i64 r.k, .string r.p, .string r.t, .int .i64 r.sz, .int .i64 r.h, .int .i64 r.o, .string r.d, .int .i64 r.tk, .int .i64 r.i, v]) (hm : r.m = d.r.m) : DecAt B b ob ⟨d.l, d.sp, r⟩ v w0 (w.setCell ⟨ob, j, none⟩ u) := by
  have hk : Only ob w (w.setCell ⟨ob, j, none⟩ u) := (Only.refl _ _).setCell j u
  refine ⟨h.un.keepOnly hk h.ne, box_set h.bx hc, ?_, h.low.setCell (p := ⟨ob, j, none⟩) h.ho _, h.ne, h.hb, h.ho⟩
  show RowK _ _ _ _ _ _ r.m
  rw [hm]
  exact hk.keepRow h.row h.far.2
theorem DecAt.drew {B b ob : Nat} {d : Dn} {v : Value} {w0 w : World} (h : DecAt B b ob d v w0 w) : DecAt B b ob d v w0 w.drew := by
  obtain ⟨s, h1, h2⟩ := h.un
  exact ⟨⟨s, h1, h2⟩, h.bx, h.row, h.low.drew, h.ne, h.hb, h.ho⟩
def GetPost (B b ob : Nat) (d : Dn) (w0 : World) (e : Ending) (w' : World) : Prop := e = .returned (.tuple #[]) ∧ ∃ v, DecAt B b ob d v w0 w'
set_option maxHeartbeats 800000 in
theorem get_112 (B b ob : Nat) (d : Dn) (v : Value) (w0 w : World) (h : DecAt B b ob d v w0 w) :
    Calls Tryd.prog 36 #[.pointer (some ⟨b, 0, none⟩), .int .u8 112, .pointer (some ⟨ob, 0, none⟩)] w (GetPost B b ob (getD limP 112 d) w0) := by
  rw [getD_112]
  have H := Lib.hid h
  clear h
  go_enter Tryd.func36, Tryd.ntmps36
  go_wp2_with (go_at_call 65; refine (utext_is b d.l d.sp 4096 _ H.out.un).mono ?_; rintro e w1 ⟨rfl, hu, ho⟩; have HD := Lib.hid (H.out.num hu ho); have hx := HD.out.bx; have fj := hx.free 3; obtain ⟨d0, d1, d2, d3, d4, d5, d6, d7, d8, d9, d10, d11⟩ := hx.cells; clear hu ho hx d0 d1 d2 d4 d5 d6 d7 d8 d9 d10 d11)
  go_end0
  exact ⟨rfl, v, HD.out.set 3 _ { d.r with p := textA d.l d.sp 4096 } (by rfl) rfl⟩
set_option maxHeartbeats 800000 in
theorem get_116 (B b ob : Nat) (d : Dn) (v : Value) (w0 w : World) (h : DecAt B b ob d v w0 w) :
    Calls Tryd.prog 36 #[.pointer (some ⟨b, 0, none⟩), .int .u8 116, .pointer (some ⟨ob, 0, none⟩)] w (GetPost B b ob (getD limP 116 d) w0) := by
  rw [getD_116]
  have H := Lib.hid h
  clear h
  go_enter Tryd.func36, Tryd.ntmps36
  go_wp2_with (go_at_call 65; refine (utext_is b d.l d.sp 4096 _ H.out.un).mono ?_; rintro e w1 ⟨rfl, hu, ho⟩; have HD := Lib.hid (H.out.num hu ho); have hx := HD.out.bx; have fj := hx.free 4; obtain ⟨d0, d1, d2, d3, d4, d5, d6, d7, d8, d9, d10, d11⟩ := hx.cells; clear hu ho hx d0 d1 d2 d3 d5 d6 d7 d8 d9 d10 d11)
  go_end0
  exact ⟨rfl, v, HD.out.set 4 _ { d.r with t := textA d.l d.sp 4096 } (by rfl) rfl⟩
set_option maxHeartbeats 800000 in
theorem get_100 (B b ob : Nat) (d : Dn) (v : Value) (w0 w : World) (h : DecAt B b ob d v w0 w) :
    Calls Tryd.prog 36 #[.pointer (some ⟨b, 0, none⟩), .int .u8 100, .pointer (some ⟨ob, 0, none⟩)] w (GetPost B b ob (getD limP 100 d) w0) := by
  rw [getD_100]
  have H := Lib.hid h
  clear h
  go_enter Tryd.func36, Tryd.ntmps36
  go_wp2_with (go_at_call 65; refine (utext_is b d.l d.sp 1024 _ H.out.un).mono ?_; rintro e w1 ⟨rfl, hu, ho⟩; have HD := Lib.hid (H.out.num hu ho); have hx := HD.out.bx; have fj := hx.free 8; obtain ⟨d0, d1, d2, d3, d4, d5, d6, d7, d8, d9, d10, d11⟩ := hx.cells; clear hu ho hx d0 d1 d2 d3 d4 d5 d6 d7 d9 d10 d11)
  go_end0
  exact ⟨rfl, v, HD.out.set 8 _ { d.r with d := textA d.l d.sp 1024 } (by rfl) rfl⟩
set_option maxHeartbeats 800000 in
theorem get_107 (B b ob : Nat) (d : Dn) (v : Value) (w0 w : World) (h : DecAt B b ob d v w0 w) :
    Calls Tryd.prog 36 #[.pointer (some ⟨b, 0, none⟩), .int .u8 107, .pointer (some ⟨ob, 0, none⟩)] w (GetPost B b ob (getD limP 107 d) w0) := by
  rw [getD_107]
  have H := Lib.hid h
  clear h
  go_enter Tryd.func36, Tryd.ntmps36
  go_wp2_with (go_at_call 35; refine (unum_any b d.l d.sp 8 _ H.out.un).mono ?_; rintro e w1 ⟨rfl, hu, ho, _⟩; have HD := Lib.hid (H.out.num hu ho); have hx := HD.out.bx; have fj := hx.free 9; obtain ⟨d0, d1, d2, d3, d4, d5, d6, d7, d8, d9, d10, d11⟩ := hx.cells; clear hu ho hx d0 d1 d2 d3 d4 d5 d6 d7 d8 d10 d11)
  go_end0
  exact ⟨rfl, v, HD.out.set 9 _ { d.r with tk := numA d.l d.sp 8 } (by rfl) rfl⟩
set_option maxHeartbeats 800000 in
theorem get_115 (B b ob : Nat) (d : Dn) (v : Value) (w0 w : World) (h : DecAt B b ob d v w0 w) :
    Calls Tryd.prog 36 #[.pointer (some ⟨b, 0, none⟩), .int .u8 115, .pointer (some ⟨ob, 0, none⟩)] w (GetPost B b ob (getD limP 115 d) w0) := by
  rw [getD_115]
  have H := Lib.hid h
  clear h
  go_enter Tryd.func36, Tryd.ntmps36
  go_wp2_with (go_at_call 35; refine (unum_any b d.l d.sp 4 _ H.out.un).mono ?_; rintro e w1 ⟨rfl, hu, ho, _⟩; have HD := Lib.hid (H.out.num hu ho); have hx := HD.out.bx; have fj := hx.free 5; obtain ⟨d0, d1, d2, d3, d4, d5, d6, d7, d8, d9, d10, d11⟩ := hx.cells; clear hu ho hx d0 d1 d2 d3 d4 d6 d7 d8 d9 d10 d11)
  go_end0
  exact ⟨rfl, v, HD.out.set 5 _ { d.r with sz := numA d.l d.sp 4 } (by rfl) rfl⟩
set_option maxHeartbeats 800000 in
theorem get_104 (B b ob : Nat) (d : Dn) (v : Value) (w0 w : World) (h : DecAt B b ob d v w0 w) :
    Calls Tryd.prog 36 #[.pointer (some ⟨b, 0, none⟩), .int .u8 104, .pointer (some ⟨ob, 0, none⟩)] w (GetPost B b ob (getD limP 104 d) w0) := by
  rw [getD_104]
  have H := Lib.hid h
  clear h
  go_enter Tryd.func36, Tryd.ntmps36
  go_wp2_with (go_at_call 35; refine (unum_any b d.l d.sp 4 _ H.out.un).mono ?_; rintro e w1 ⟨rfl, hu, ho, _⟩; have HD := Lib.hid (H.out.num hu ho); have hx := HD.out.bx; have fj := hx.free 6; obtain ⟨d0, d1, d2, d3, d4, d5, d6, d7, d8, d9, d10, d11⟩ := hx.cells; clear hu ho hx d0 d1 d2 d3 d4 d5 d7 d8 d9 d10 d11)
  go_end0
  exact ⟨rfl, v, HD.out.set 6 _ { d.r with h := numA d.l d.sp 4 } (by rfl) rfl⟩
set_option maxHeartbeats 800000 in
theorem get_111 (B b ob : Nat) (d : Dn) (v : Value) (w0 w : World) (h : DecAt B b ob d v w0 w) :
    Calls Tryd.prog 36 #[.pointer (some ⟨b, 0, none⟩), .int .u8 111, .pointer (some ⟨ob, 0, none⟩)] w (GetPost B b ob (getD limP 111 d) w0) := by
  rw [getD_111]
  have H := Lib.hid h
  clear h
  go_enter Tryd.func36, Tryd.ntmps36
  go_wp2_with (go_at_call 35; refine (unum_any b d.l d.sp 4 _ H.out.un).mono ?_; rintro e w1 ⟨rfl, hu, ho, _⟩; have HD := Lib.hid (H.out.num hu ho); have hx := HD.out.bx; have fj := hx.free 7; obtain ⟨d0, d1, d2, d3, d4, d5, d6, d7, d8, d9, d10, d11⟩ := hx.cells; clear hu ho hx d0 d1 d2 d3 d4 d5 d6 d8 d9 d10 d11)
  go_end0
  exact ⟨rfl, v, HD.out.set 7 _ { d.r with o := numA d.l d.sp 4 } (by rfl) rfl⟩
set_option maxHeartbeats 800000 in
theorem get_105 (B b ob : Nat) (d : Dn) (v : Value) (w0 w : World) (h : DecAt B b ob d v w0 w) :
    Calls Tryd.prog 36 #[.pointer (some ⟨b, 0, none⟩), .int .u8 105, .pointer (some ⟨ob, 0, none⟩)] w (GetPost B b ob (getD limP 105 d) w0) := by
  rw [getD_105]
  have H := Lib.hid h
  clear h
  go_enter Tryd.func36, Tryd.ntmps36
  go_wp2_with (go_at_call 35; refine (unum_any b d.l d.sp 4 _ H.out.un).mono ?_; rintro e w1 ⟨rfl, hu, ho, _⟩; have HD := Lib.hid (H.out.num hu ho); have hx := HD.out.bx; have fj := hx.free 10; obtain ⟨d0, d1, d2, d3, d4, d5, d6, d7, d8, d9, d10, d11⟩ := hx.cells; clear hu ho hx d0 d1 d2 d3 d4 d5 d6 d7 d8 d9 d11)
  go_end0
  exact ⟨rfl, v, HD.out.set 10 _ { d.r with i := numA d.l d.sp 4 } (by rfl) rfl⟩
theorem cells_mv (x : Mv) : ∀ u ∈ encM x, u.oneCell' = true := by
  intro u hu
  simp [encM] at hu
  rcases hu with rfl | rfl | rfl | rfl <;> rfl
set_option maxHeartbeats 3200000 in
theorem get_109 (B b ob : Nat) (d : Dn) (v : Value) (w0 w : World) (h : DecAt B b ob d v w0 w) (hm : d.r.m = []) :
    Calls Tryd.prog 36 #[.pointer (some ⟨b, 0, none⟩), .int .u8 109, .pointer (some ⟨ob, 0, none⟩)] w (GetPost B b ob (getD limP 109 d) w0) := by
  rw [getD_109]
  obtain ⟨i0, hi, hz0, hz1, hz2⟩ := info_parts mvinfo
  have H := Lib.hid h
  obtain ⟨C, hC⟩ : ∃ C : Nat, min (numA d.l d.sp 1) 17 = (C : Int) := ⟨(min (numA d.l d.sp 1) 17).toNat, by have := numA_nonneg d.l d.sp 1; omega⟩
  have HC17 : C ≤ 17 := by omega
  have HCM : Hid (limP.cm (numA d.l d.sp 1) = C) := Lib.hid (by show (min (numA d.l d.sp 1) 17).toNat = C; omega)
  have HM0 := Lib.hid hm
  clear h hm
  go_enter Tryd.func36, Tryd.ntmps36
  go_wp2_with (go_at_call 35; refine (unum_any b d.l d.sp 1 _ H.out.un).mono ?_; rintro e w1 ⟨rfl, hu, ho, _⟩; have HD := Lib.hid (H.out.num hu ho); clear hu ho)
  clear hC
  go_loopw [40] (fun i wr => ∃ (k : Nat) (v' : Value), k ≤ C ∧ i = .int .i64 (k : Int) ∧ DecAt B b ob (mvsD k (numD 1 d fun _ r => r)) v' w0 wr) (fun i _ => ((C : Int) - intOf i).toNat)
  case atStart => exact ⟨0, v, by omega, rfl, HD.out⟩
  case round =>
    obtain ⟨k, v', hk, rfl, hda⟩ := hrel
    by_cases hlt : k < C
    · have hk0 : (0 : Int) ≤ (k : Int) := by omega
      have hkl : (k : Int) < (C : Int) := by omega
      have HML : Hid ((mvsD k (numD 1 d fun _ r => r)).r.m.length = k) := Lib.hid (by
        obtain ⟨xs, h1, h2⟩ := mvsD_r k (numD 1 d fun _ r => r)
        rw [h1]; show (d.r.m ++ xs).length = k; rw [HM0.out]; simpa using h2)
      obtain ⟨oz, cz, rfl, _, _, _⟩ := hda.row.form
      have HMS : Hid (mvsD (k + 1) (numD 1 d fun _ r => r) = mvD (mvsD k (numD 1 d fun _ r => r))) := Lib.hid rfl
      generalize mvsD k (numD 1 d fun _ r => r) = dk at *
      rw [HML.out] at hda
      have HA := Lib.hid hda
      have HS0 : Hid (wr.drew.cell? ⟨ob, 11, none⟩ = some (.slice oz k cz)) := Lib.hid hda.bx.cells.2.2.2.2.2.2.2.2.2.2.2
      obtain ⟨x1, hx1⟩ : ∃ x, x = numA dk.l dk.sp 2 := ⟨_, rfl⟩
      obtain ⟨x2, hx2⟩ : ∃ x, x = numA (numD 2 dk fun _ r => r).l (numD 2 dk fun _ r => r).sp 2 := ⟨_, rfl⟩
      obtain ⟨x3, hx3⟩ : ∃ x, x = numA (numD 2 (numD 2 dk fun _ r => r) fun _ r => r).l (numD 2 (numD 2 dk fun _ r => r) fun _ r => r).sp 2 := ⟨_, rfl⟩
      obtain ⟨x4, hx4⟩ : ∃ x, x = numA (numD 2 (numD 2 (numD 2 dk fun _ r => r) fun _ r => r) fun _ r => r).l (numD 2 (numD 2 (numD 2 dk fun _ r => r) fun _ r => r) fun _ r => r).sp 2 := ⟨_, rfl⟩
      have HX1 := Lib.hid hx1
      have HX2 := Lib.hid hx2
      have HX3 := Lib.hid hx3
      have HX4 := Lib.hid hx4
      clear hx1 hx2 hx3 hx4 hda
      go_wp2_with fail
      refine regionL 18 19 (fun w' => w'.cell? ⟨ob, 11, none⟩ = some (.slice oz k cz)) (by kernel_rfl) rfl ?_
      refine takeL 0 (some 42) (v := ?_) rfl (by kernel_rfl) (by kernel_rfl) (by kernel_rfl) (by kernel_rfl) (fun _ _ _ h => h) rfl rfl HS0.out ?_ ?_
      rotate_left
      · intro wq hq
        have g0 := hq
        go_simp
        with_reducible rfl
      simp only [Act.put, List.setIfInBounds_toArray, List.set_cons_zero, List.set_cons_succ]
      refine takeL 1 (some 43) (v := ?_) rfl (by kernel_rfl) (by kernel_rfl) (by kernel_rfl) (by kernel_rfl) (fun _ _ _ h => h) rfl rfl HS0.out ?_ ?_
      rotate_left
      · intro wq hq
        have g0 := hq
        go_simp
        with_reducible rfl
      simp only [Act.put, List.setIfInBounds_toArray, List.set_cons_zero, List.set_cons_succ]
      refine takeL 2 (some 44) (v := ?_) rfl (by kernel_rfl) (by kernel_rfl) (by kernel_rfl) (by kernel_rfl) (fun _ _ _ h => h) rfl rfl HS0.out ?_ ?_
      rotate_left
      · intro wq hq
        have g0 := hq
        go_simp
        with_reducible rfl
      simp only [Act.put, List.setIfInBounds_toArray, List.set_cons_zero, List.set_cons_succ]
      refine takeL 3 (some 45) (v := ?_) rfl (by kernel_rfl) (by kernel_rfl) (by kernel_rfl) (by kernel_rfl) (fun _ _ _ h => h) rfl rfl HS0.out ?_ ?_
      rotate_left
      · intro wq hq
        have g0 := hq
        go_simp
        with_reducible rfl
      simp only [Act.put, List.setIfInBounds_toArray, List.set_cons_zero, List.set_cons_succ]
      refine takeL 4 (some 46) (v := ?_) rfl (by kernel_rfl) (by kernel_rfl) (by kernel_rfl) (by kernel_rfl) (fun _ _ _ h => h) rfl rfl HS0.out ?_ ?_
      rotate_left
      · intro wq hq
        have g0 := hq
        go_simp
        with_reducible rfl
      simp only [Act.put, List.setIfInBounds_toArray, List.set_cons_zero, List.set_cons_succ]
      refine takeL 5 (some 47) (v := ?_) rfl (by kernel_rfl) (by kernel_rfl) (by kernel_rfl) (by kernel_rfl) (fun _ _ _ h => h) rfl rfl HS0.out ?_ ?_
      rotate_left
      · intro wq hq
        have g0 := hq
        go_simp
        with_reducible rfl
      simp only [Act.put, List.setIfInBounds_toArray, List.set_cons_zero, List.set_cons_succ]
      refine takeL 7 (some 49) (v := ?_) rfl (by kernel_rfl) (by kernel_rfl) (by kernel_rfl) (by kernel_rfl) (fun _ _ _ h => h) rfl rfl HS0.out ?_ ?_
      rotate_left
      · intro wq hq
        have g0 := hq
        go_simp
        with_reducible rfl
      simp only [Act.put, List.setIfInBounds_toArray, List.set_cons_zero, List.set_cons_succ]
      refine takeL 9 (some 51) (v := ?_) rfl (by kernel_rfl) (by kernel_rfl) (by kernel_rfl) (by kernel_rfl) (fun _ _ _ h => h) rfl rfl HS0.out ?_ ?_
      rotate_left
      · intro wq hq
        have g0 := hq
        go_simp
        with_reducible rfl
      simp only [Act.put, List.setIfInBounds_toArray, List.set_cons_zero, List.set_cons_succ]
      refine takeL 11 (some 53) (v := ?_) rfl (by kernel_rfl) (by kernel_rfl) (by kernel_rfl) (by kernel_rfl) (fun _ _ _ h => h) rfl rfl HS0.out ?_ ?_
      rotate_left
      · intro wq hq
        have g0 := hq
        go_simp
        with_reducible rfl
      simp only [Act.put, List.setIfInBounds_toArray, List.set_cons_zero, List.set_cons_succ]
      refine oneL 6 (by kernel_rfl) rfl rfl (wp_calls (some 48) (v := .int .i64 x1) rfl (by go_simp) (num_as HX1.out (unum_any b dk.l dk.sp 2 _ HA.out.drew.un)) ?_)
      rintro w1 ⟨hu, ho, _⟩
      have HD1 : Hid (DecAt B b ob (numD 2 dk fun _ r => r) (.slice oz k cz) w0 w1) := Lib.hid (HA.out.drew.num hu ho)
      have HS1 : Hid (w1.cell? ⟨ob, 11, none⟩ = some (.slice oz k cz)) := Lib.hid HD1.out.bx.cells.2.2.2.2.2.2.2.2.2.2.2
      clear hu ho
      refine ⟨fun _ => HS1.out, ?_⟩
      simp only [Act.put, List.setIfInBounds_toArray, List.set_cons_zero, List.set_cons_succ]
      refine oneL 8 (by kernel_rfl) rfl rfl (wp_calls (some 50) (v := .int .i64 x2) rfl (by go_simp) (num_as HX2.out (unum_any b (numD 2 dk fun _ r => r).l (numD 2 dk fun _ r => r).sp 2 _ HD1.out.un)) ?_)
      rintro w2 ⟨hu, ho, _⟩
      have HD2 : Hid (DecAt B b ob (numD 2 (numD 2 dk fun _ r => r) fun _ r => r) (.slice oz k cz) w0 w2) := Lib.hid (HD1.out.num hu ho)
      have HS2 : Hid (w2.cell? ⟨ob, 11, none⟩ = some (.slice oz k cz)) := Lib.hid HD2.out.bx.cells.2.2.2.2.2.2.2.2.2.2.2
      clear hu ho
      refine ⟨fun _ => HS2.out, ?_⟩
      simp only [Act.put, List.setIfInBounds_toArray, List.set_cons_zero, List.set_cons_succ]
      refine oneL 10 (by kernel_rfl) rfl rfl (wp_calls (some 52) (v := .int .i64 x3) rfl (by go_simp) (num_as HX3.out (unum_any b (numD 2 (numD 2 dk fun _ r => r) fun _ r => r).l (numD 2 (numD 2 dk fun _ r => r) fun _ r => r).sp 2 _ HD2.out.un)) ?_)
      rintro w3 ⟨hu, ho, _⟩
      have HD3 : Hid (DecAt B b ob (numD 2 (numD 2 (numD 2 dk fun _ r => r) fun _ r => r) fun _ r => r) (.slice oz k cz) w0 w3) := Lib.hid (HD2.out.num hu ho)
      have HS3 : Hid (w3.cell? ⟨ob, 11, none⟩ = some (.slice oz k cz)) := Lib.hid HD3.out.bx.cells.2.2.2.2.2.2.2.2.2.2.2
      clear hu ho
      refine ⟨fun _ => HS3.out, ?_⟩
      simp only [Act.put, List.setIfInBounds_toArray, List.set_cons_zero, List.set_cons_succ]
      refine oneL 12 (by kernel_rfl) rfl rfl (wp_calls (some 54) (v := .int .i64 x4) rfl (by go_simp) (num_as HX4.out (unum_any b (numD 2 (numD 2 (numD 2 dk fun _ r => r) fun _ r => r) fun _ r => r).l (numD 2 (numD 2 (numD 2 dk fun _ r => r) fun _ r => r) fun _ r => r).sp 2 _ HD3.out.un)) ?_)
      rintro w4 ⟨hu, ho, _⟩
      have HD4 : Hid (DecAt B b ob (numD 2 (numD 2 (numD 2 (numD 2 dk fun _ r => r) fun _ r => r) fun _ r => r) fun _ r => r) (.slice oz k cz) w0 w4) := Lib.hid (HD3.out.num hu ho)
      have HS4 : Hid (w4.cell? ⟨ob, 11, none⟩ = some (.slice oz k cz)) := Lib.hid HD4.out.bx.cells.2.2.2.2.2.2.2.2.2.2.2
      clear hu ho
      refine ⟨fun _ => HS4.out, ?_⟩
      simp only [Act.put, List.setIfInBounds_toArray, List.set_cons_zero, List.set_cons_succ]
      refine takeL 13 (some 55) (v := ?_) rfl (by kernel_rfl) (by kernel_rfl) (by kernel_rfl) (by kernel_rfl) (fun _ _ _ h => h) rfl rfl HS4.out ?_ ?_
      rotate_left
      · intro wq hq
        have g0 := hq
        go_simp
        with_reducible rfl
      simp only [Act.put, List.setIfInBounds_toArray, List.set_cons_zero, List.set_cons_succ]
      have HS5 := Lib.hid (alloc_step (o := .cells #[.int .i64 x1, .int .i64 x2, .int .i64 x3, .int .i64 x4] 51) HS4.out)
      have HOWN : Hid ((w4.alloc (.cells #[.int .i64 x1, .int .i64 x2, .int .i64 x3, .int .i64 x4] 51)).ownsRow B 51 4 (.slice oz k cz) k (dk.r.m.flatMap encM)) := Lib.hid (by
        have q := HD4.out.row.grow (below_alloc w4 (.cells #[.int .i64 x1, .int .i64 x2, .int .i64 x3, .int .i64 x4] 51))
        unfold RowK at q
        rwa [show (numD 2 (numD 2 (numD 2 (numD 2 dk fun _ r => r) fun _ r => r) fun _ r => r) fun _ r => r).r.m.length = k from HML.out] at q)
      refine oneL 14 (by kernel_rfl) rfl rfl (wp_runs (some 56) (v := .slice (some ⟨w4.heap.size, 0, none⟩) 1 1) (w' := w4.alloc (.cells #[.int .i64 x1, .int .i64 x2, .int .i64 x3, .int .i64 x4] 51)) rfl (by go_simp) ⟨fun _ => HS5.out, ?_⟩)
      simp only [Act.put, List.setIfInBounds_toArray, List.set_cons_zero, List.set_cons_succ]
      refine oneL 15 (by kernel_rfl) rfl rfl (wp_append_at (some 57) rfl _ _ 22 rfl B 51 i0 (.agg #[.int .i64 0, .int .i64 0, .int .i64 0, .int .i64 0]) 4 32 Tryd.underlying22 hi hz0 hz1 hz2 rfl (by decide) _ (.slice oz k cz) k (dk.r.m.flatMap encM) rfl HOWN.out ⟨w4.heap.size, 0, none⟩ 1 1 (encM ⟨x1, x2, x3, x4⟩) rfl rfl (World.news_of_block (heap_alloc_new w4 _)) (cells_mv _) (by unfold maxLen; omega) (by omega) (by rw [alloc_size]; have h1 := lt_of_block HD4.out.bx; have h2 := HD4.out.ho; omega) ?_)
      intro oa5 cap5 w5 hown5 hg5 hv5
      have hlb : b < w4.heap.size := HD4.out.un.lt
      have hlo : ob < w4.heap.size := lt_of_block HD4.out.bx
      have ho4 : (w4.alloc (.cells #[.int .i64 x1, .int .i64 x2, .int .i64 x3, .int .i64 x4] 51)).heap[ob]? = w4.heap[ob]? := heap_alloc_old _ _ hlo
      have HO5 : Hid (OBox w5 ob dk.r (.slice oz k cz)) := Lib.hid ((hg5.block ob (by rw [alloc_size]; omega) (fun e => HD4.out.far.2 e.symm)).trans (ho4.trans HD4.out.bx))
      have HU5 : Hid (UIs b (mvD dk).l (mvD dk).sp w5) := Lib.hid (by
        obtain ⟨s, h1, h2⟩ := HD4.out.un
        exact ⟨s, (hg5.block b (by rw [alloc_size]; omega) (fun e => HD4.out.far.1 e.symm)).trans ((heap_alloc_old _ _ hlb).trans h1), h2⟩)
      have HS6 : Hid (w5.cell? ⟨ob, 11, none⟩ = some (.slice oz k cz)) := Lib.hid HO5.out.cells.2.2.2.2.2.2.2.2.2.2.2
      have HG5 := Lib.hid (below_of_grown hg5 HOWN.out (by rw [alloc_size]; have h2 := HD4.out.ho; omega))
      have HR5 := Lib.hid hown5
      clear hown5 hg5 hv5 ho4
      refine ⟨fun _ => HS6.out, ?_⟩
      simp only [Act.put, List.setIfInBounds_toArray, List.set_cons_zero, List.set_cons_succ]
      refine oneL 16 (by kernel_rfl) rfl rfl (wp_runs (some 58) (v := .pointer (some ⟨ob, 0, none⟩)) (w' := w5) rfl (by go_simp) ⟨fun _ => HS6.out, ?_⟩)
      simp only [Act.put, List.setIfInBounds_toArray, List.set_cons_zero, List.set_cons_succ]
      refine oneL 17 (by kernel_rfl) rfl rfl (wp_runs (some 59) (v := .pointer (some ⟨ob, 11, none⟩)) (w' := w5) rfl (by go_simp) ⟨fun _ => HS6.out, ?_⟩)
      simp only [Act.put, List.setIfInBounds_toArray, List.set_cons_zero, List.set_cons_succ]
      have g6 := HS6.out
      have f6 : w5.frozen? ⟨ob, 11, none⟩ = false := HO5.out.free 11
      refine oneL 18 (by kernel_rfl) rfl rfl (wp_skips none (w' := w5.setCell ⟨ob, 11, none⟩ (.slice oa5 (k + 1) cap5)) rfl (by go_simp) ⟨fun h => absurd rfl h, ?_⟩)
      simp only [Act.put]
      refine doneL (by kernel_rfl) ?_
      have HFIN : Hid (DecAt B b ob (mvD dk) (.slice oa5 (k + 1) cap5) w0 (w5.setCell ⟨ob, 11, none⟩ (.slice oa5 (k + 1) cap5))) := Lib.hid (by
        have hk : Only ob w5 (w5.setCell ⟨ob, 11, none⟩ (.slice oa5 (k + 1) cap5)) := (Only.refl _ _).setCell 11 _
        have hx : (mvD dk).r = { dk.r with m := dk.r.m ++ [⟨x1, x2, x3, x4⟩] } := by rw [HX1.out, HX2.out, HX3.out, HX4.out]; rfl
        have hne := HD4.out
        refine ⟨HU5.out.keepOnly hk hne.ne, ?_, ?_, ?_, hne.ne, hne.hb, hne.ho⟩
        · rw [hx]; exact box_set HO5.out (by rfl)
        · rw [hx]
          have hrow : RowK 51 encM 4 B w5 (.slice oa5 (k + 1) cap5) (dk.r.m ++ [⟨x1, x2, x3, x4⟩]) := by
            unfold RowK
            rw [List.length_append, HML.out, List.flatMap_append, List.flatMap_singleton]
            exact HR5.out
          exact hk.keepRow hrow (own_ne hrow HO5.out (by decide))
        · exact ((hne.low.trans ((below_alloc w4 _).mono (by have h2 := hne.ho; omega))).trans HG5.out).setCell (p := ⟨ob, 11, none⟩) hne.ho _)
      clear g6 f6 hlb hlo
      go_wp2_with fail
      exact ⟨⟨k + 1, _, by omega, by simp, by rw [HMS.out]; exact HFIN.out⟩, by simp [intOf]; omega⟩
    · have hk1 : ¬ ((k : Int) < (C : Int)) := by omega
      obtain rfl : k = C := by omega
      have HA := Lib.hid hda
      clear hda
      go_wp2_with fail
      go_end0
      exact ⟨rfl, v', by rw [HCM.out]; exact HA.out⟩
theorem get_any (c : UInt8) (hc : IsF c) (B b ob : Nat) (d : Dn) (v : Value) (w0 w : World) (h : DecAt B b ob d v w0 w) (hm : c = 109 → d.r.m = []) :
    Calls Tryd.prog 36 #[.pointer (some ⟨b, 0, none⟩), .int .u8 c.toNat, .pointer (some ⟨ob, 0, none⟩)] w (GetPost B b ob (getD limP c d) w0) := by
  rcases hc with rfl | rfl | rfl | rfl | rfl | rfl | rfl | rfl | rfl
  · exact get_112 B b ob d v w0 w h
  · exact get_116 B b ob d v w0 w h
  · exact get_115 B b ob d v w0 w h
  · exact get_104 B b ob d v w0 w h
  · exact get_111 B b ob d v w0 w h
  · exact get_100 B b ob d v w0 w h
  · exact get_107 B b ob d v w0 w h
  · exact get_105 B b ob d v w0 w h
  · exact get_109 B b ob d v w0 w h (hm rfl)
end Go.Proofs.YtlffcilgmockmaaDoor.OpW
