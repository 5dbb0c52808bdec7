/- Part 21 of the texts that the law's walk needs. -/
import Derived.Test.YtimabpfjjpjfjaaGreatDoorM03
import Derived.Test.YtimabpfjjpjfjaaGreatDoorM17
import Derived.Great.BuildSlice
set_option maxHeartbeats 3200000
set_option maxRecDepth 100000
set_option linter.all false
open Go renaming World→qo,Value→qp,Calls→qw,TypeId→qu
open Go.RowKit renaming Below→qz,Hid→qy
open Go.Value renaming int→U,string→qg,slice→qh,pointer→qi,bool→qk,agg→ql,tuple→qj
open Go.IntKind renaming i64→Z
open Go.Obj renaming cells→qn
open Go.Ending renaming returned→qm
namespace Go.Proofs.YtimabpfjjpjfjaaGreatDoor
open Tryz
open Tryz renaming prog→qx
namespace TopW
open Go.RowKit OpW
variable{w:qo}
theorem bp:(prog.info? 126).map (·.size)=some 8:=qd
theorem fC:(prog.info? 129).map (·.size)=some 9:=qd
theorem aP(w:qo)(A B:Obj):((w.alloc A).alloc B).heap[w.heap.size]? =some A∧((w.alloc A).alloc B).heap[w.heap.size+1]? =some B∧qz w.heap.size w ((w.alloc A).alloc B)∧((w.alloc A).alloc B).heap.size=w.heap.size+2:=
 ⟨heap_alloc2_old w A B,heap_alloc2_new w A B,sh w A B,qc⟩
theorem ae{w J:qo}{b:Nat}{o:Obj}(k:qz w.heap.size w J)(h:w.heap[b]? =some o):J.heap[b]? =some o:=(k.block b (qK h)).trans h
abbrev bF(k u e pg z m:Int)(s:ByteArray):Array qp:=#[U Z k,U Z u,U Z e,U Z pg,U Z z,U Z m,qg s,U Z 0,qh none 0 0]
abbrev Pz(c n:Int)(d:ByteArray)(e:Int):Array qp:=#[U Z c,U Z n,qg d,U Z 0,qh none 0 0,U Z 0,U Z 0,U Z e]
abbrev bG:Array qp:=#[U Z 0,U Z 0,qg ⟨#[]⟩,U Z 0,qh none 0 0,U Z 0,U Z 0,U Z 0]
theorem Gq(ub pb mb n:Nat)(g:Int→Option ByteArray)(pg:Int)(hp:0≤pg∧pg<4096)(s:ByteArray)(hs:s.size≤4096)(hn:n<3000)(hg:g pg=none)(k u e z m:Int)(w:qo)
 (hu:w.heap[ub]? =some (qn #[qi (some ⟨pb,0,none⟩),U Z 0,qk false] 166 (0,0))) (h:eh w pb mb n g):
 qw qx 346 #[qi (some ⟨ub,0,none⟩),ql #[U Z k,U Z u,U Z e,U Z pg,U Z z,U Z m,qg s,U Z 0,qh none 0 0]] w fun e J=>e=qm (ql #[U Z 0,U Z 0,qg ⟨#[]⟩,U Z 0,qh none 0 0,U Z 0,U Z 0,U Z 0])∧
  eh J pb mb (n+1) (fun z=>if z=pg then some s else g z)∧Ch [mb] w J:=by
 have HH:=Hd h;have HP:=Hd hp;have HS:=Hd hs;have HN:=Hd hn;have HG:=Hd hg;have HU:=Hd hu;have HW:=Hd (aP w (qn (bF k u e pg z m s) 129) (qn bG 126));clear h hp hs hn hg hu;go_enter func346,ntmps346;go_wp2
 generalize(w.alloc (qn (bF k u e pg z m s) 129)).alloc (qn bG 126)=W at HW⊢;obtain⟨hA,hB,hb,_⟩:=HW.o;have HB:=Hd hb;have fu:=Hd hB;have H2:=Hd (HH.o.ag (Ch.af (M:=[]) hb) qc);have u0:=(aC (ae hb HU.o) 0 qc).1;have a3:=aJ hA 3;have a6:=aJ hA 6;simp only[gA,gZ,gS]at u0 a3 a6;clear hA hB hb HW
 go_still_tail 8,qd
 have az:qy (qz w.heap.size w W.drew):=Hd HB.o.drew;have H3:qy (eh W.drew pb mb n g):=Hd ⟨H2.o.head,an.drew H2.o.map⟩;have oE:qy (W.drew.heap[w.heap.size+1]? =some (qn bG 126)):=Hd fu.o;change wpList _ _ _ _ _ W.drew
 generalize W.drew=W1 at az H3 oE⊢;go_wp2_with fail
 refine(iw pg HP.o s HS.o HN.o HG.o _ H3.o).mono ?_;rintro e2 w2⟨rfl,h5,h6⟩;have zG:mb<w.heap.size:=an.lt HH.o.map;have HY:=Hd (h6.heap oE.o (by simp;omega));have HG2:=Hd h5;have dD:=Hd ((Ch.af (M:=[mb]) az.o).aq h6);clear h5 h6;go_wp2_with(refine qE rfl 126 (Operand.tmp 4) _ rfl (w.heap.size+1) _ rfl rfl 126 _ HY.o bp rfl (by simp[Value.oneCell']) ?_)
 have hg1:(w2.setRow (w.heap.size+1) bG).heap[w.heap.size+1]? =some (qn bG 126 (0,0)):=qJ w2 _ _ _ _ _ HY.o;refine aR rfl rfl rfl hg1 underlying126 rfl bp ?_;exact⟨rfl,HG2.o.ag (Ch.kj HY.o qa bG) (by simp;omega),dD.o.row Y _⟩
theorem Lf(ub pb mb n:Nat)(g:Int→Option ByteArray)(pg:Int)(hp:0≤pg∧pg<4096)(s:ByteArray)(hg:g pg=some s)(k u e z m:Int)(q:ByteArray)(w:qo)
 (hu:w.heap[ub]? =some (qn #[qi (some ⟨pb,0,none⟩),U Z 0,qk false] 166 (0,0))) (h:eh w pb mb n g):
 qw qx 348 #[qi (some ⟨ub,0,none⟩),ql #[U Z k,U Z u,U Z e,U Z pg,U Z z,U Z m,qg q,U Z 0,qh none 0 0]] w fun e J=>
  e=qm (ql #[U Z 0,U Z 0,qg s,U Z 0,qh none 0 0,U Z 0,U Z 0,U Z 0])∧qz w.heap.size w J:=by
 have HH:=Hd h;have HP:=Hd hp;have HG:=Hd hg;have HU:=Hd hu;have HW:=Hd (aP w (qn (bF k u e pg z m q) 129) (qn bG 126));clear h hp hg hu;go_enter func348,ntmps348;go_wp2
 generalize(w.alloc (qn (bF k u e pg z m q) 129)).alloc (qn bG 126)=W at HW⊢;obtain⟨hA,hB,hb,_⟩:=HW.o;have HB:=Hd hb;have fu:=Hd hB;have H2:=Hd (HH.o.ag (Ch.af (M:=[]) hb) qc);have u0:=(aC (ae hb HU.o) 0 qc).1;have a3:=aJ hA 3;simp only[gA,gZ,gS]at u0 a3;clear hA hB hb HW;have H3:qy (∀m,eh (W.drewN m) pb mb n g):=Hd fun m=>⟨H2.o.head,H2.o.map.drewN m⟩
 go_quiet ((go_at_call 396;exact vF (wc pg HP.o s HG.o _ (H3.o _))))
 have az:qy (qz w.heap.size w (W.drewN nq)):=Hd (below_drewN HB.o nq);have oE:qy ((W.drewN nq).heap[w.heap.size+1]? =some (qn bG 126)):=Hd fu.o;generalize W.drewN nq=W1 at az oE⊢;go_wp2_with(refine qE rfl 126 (Operand.tmp 4) _ rfl (w.heap.size+1) _ rfl rfl 126 _ oE.o bp rfl (by simp[Value.oneCell']) ?_)
 refine aR rfl rfl rfl (qJ W1 _ _ _ _ _ oE.o) underlying126 rfl bp ?_;exact⟨rfl,aj az.o Y _⟩
theorem Ue(w:qo):qw qx 289 #[U Z 1] w fun e J=>e=qm (.func (.func 346) #[] #[])∧w=J:=by
 have hix: ∀w,(Instr.index 473 (ql #[.nilFunc,.func (.func 346) #[] #[],.func (.func 347) #[] #[],.func (.func 348) #[] #[],.func (.func 349) #[] #[],.func (.func 350) #[] #[]]) (U Z 1)).run qx w= .ok (.func (.func 346) #[] #[]) w:=fun w=>by kernel_rfl
 go_enter func289,ntmps289;go_wp2
 go_ret;exact⟨rfl,rfl⟩
theorem Uf(w:qo):qw qx 289 #[U Z 3] w fun e J=>e=qm (.func (.func 348) #[] #[])∧w=J:=by
 have hix: ∀w,(Instr.index 473 (ql #[.nilFunc,.func (.func 346) #[] #[],.func (.func 347) #[] #[],.func (.func 348) #[] #[],.func (.func 349) #[] #[],.func (.func 350) #[] #[]]) (U Z 3)).run qx w= .ok (.func (.func 348) #[] #[]) w:=fun w=>by kernel_rfl
 go_enter func289,ntmps289;go_wp2
 go_ret;exact⟨rfl,rfl⟩
theorem gz(w:qo)(A B C:Obj):(((w.alloc A).alloc B).alloc C).heap[w.heap.size]? =some A∧(((w.alloc A).alloc B).alloc C).heap[w.heap.size+1]? =some B∧(((w.alloc A).alloc B).alloc C).heap[w.heap.size+1+1]? =some C∧
 qz w.heap.size w (((w.alloc A).alloc B).alloc C)∧(((w.alloc A).alloc B).alloc C).heap.size=w.heap.size+3:=by
 obtain⟨h1,h2,h3,h4⟩:=aP w A B;have k:=aa ((w.alloc A).alloc B) C;exact⟨ae k h1,ae k h2,by have:=qA ((w.alloc A).alloc B) C;rw[h4]at this;exact this,ai h3 k,qc⟩
theorem IH(K:FuncId)(w:qo):(binOp .eql 416 (.func (.func K) #[] #[]) .nilFunc).run qx w= .ok (qk false) w:=qd
abbrev Lg:Array qp:=#[U Z 1,U Z 0,qg ⟨#[]⟩,U Z 0,qh none 0 0,U Z 0,U Z 0,U Z 0]
theorem Lh(ub pb mb n:Nat)(g:Int→Option ByteArray)(pg:Int)(hp:0≤pg∧pg<4096)(s:ByteArray)(hs:s.size≤4096)(hn:n<3000)(hg:g pg=none)(u z m:Int)(w:qo)
 (hu:w.heap[ub]? =some (qn #[qi (some ⟨pb,0,none⟩),U Z 0,qk false] 166 (0,0))) (h:eh w pb mb n g):
 qw qx 216 #[qi (some ⟨ub,0,none⟩),ql #[U Z 1,U Z u,U Z 0,U Z pg,U Z z,U Z m,qg s,U Z 0,qh none 0 0]] w fun e J=>e=qm (ql #[U Z 0,U Z 0,qg ⟨#[]⟩,U Z 0,qh none 0 0,U Z 0,U Z 0,U Z 0])∧
  eh J pb mb (n+1) (fun z=>if z=pg then some s else g z)∧Ch [mb] w J:=by
 have HH:=Hd h;have HP:=Hd hp;have HS:=Hd hs;have HN:=Hd hn;have HG:=Hd hg;have HU:=Hd hu;have HW:=Hd (gz w (qn (bF 1 u 0 pg z m s) 129) (qn bG 126) (qn Lg 126));have hfn:=IH;have u1: ∀A B:Obj,((w.alloc A).alloc B).cell? ⟨ub,2,none⟩=some (qk false):=fun A B=>aA (aA (aJ hu 2));clear h hp hs hn hg hu;go_enter func216,ntmps216;go_wp2_with(go_at_call 289;refine(Ue _).mono ?_;rintro e w2 ⟨rfl,rfl⟩)
 clear u1;generalize((w.alloc (qn (bF 1 u 0 pg z m s) 129)).alloc (qn bG 126)).alloc (qn Lg 126)=W at HW⊢;obtain⟨hA,hB,hC,hb,_⟩:=HW.o;have HB:=Hd hb;have fu:=Hd hB;have HCX:=Hd hC;have HA:=Hd hA;have H2:=Hd (HH.o.ag (Ch.af (M:=[]) hb) qc);have u1:=(aC (ae hb HU.o) 1 qc).1;have a2:=aJ hA 2;simp only[gA,gZ,gS]at u1 a2;clear hA hB hC hb HW
 go_quiet (fail)
 clear u1 a2;have H3:qy (eh (W.drewN nq) pb mb n g):=Hd ⟨H2.o.head,H2.o.map.drewN nq⟩;have az:qy (qz w.heap.size w (W.drewN nq)):=Hd (below_drewN HB.o nq);have YP:qy ((W.drewN nq).heap[ub]? =some (qn #[qi (some ⟨pb,0,none⟩),U Z 0,qk false] 166 (0,0))):=Hd (ae az.o HU.o);have oE:qy ((W.drewN nq).heap[w.heap.size+1]? =some (qn bG 126)):=Hd fu.o;have PA:qy ((W.drewN nq).heap[w.heap.size+1+1]? =some (qn Lg 126)):=Hd HCX.o;obtain⟨a0,a1,a2,a3,a4,a5,a6,a7,a8⟩:=eX (show(W.drewN nq).heap[w.heap.size]? =some (qn (bF 1 u 0 pg z m s) 129)from HA.o)
 generalize W.drewN nq=W1 at H3 az YP oE PA a0 a1 a2 a3 a4 a5 a6 a7 a8⊢;go_wp2_with fail
 refine(Gq ub pb mb n g pg HP.o s HS.o HN.o HG.o 1 u 0 z m _ YP.o H3.o).mono ?_;rintro e2 w2⟨rfl,h5,h6⟩;have zG:mb<w.heap.size:=an.lt HH.o.map;have hub:ub<w.heap.size:=qK HU.o;have Ss:=Hd (h6.heap oE.o (by simp;omega));have HCZ:=Hd (h6.heap PA.o (by simp;omega));have HG2:=Hd h5;have dD:=Hd ((Ch.af (M:=[mb]) az.o).aq h6);have HU3:=Hd (h6.bC _ _ _ _ YP.o qa);clear h5 h6 a0 a1 a2 a3 a4 a5 a6 a7 a8;have HU4:qy ((w2.setRow (w.heap.size+1+1) bG).heap[ub]? =some (qn #[qi (some ⟨pb,0,none⟩),U Z 0,qk false] 166 (0,0))):=Hd ((xl _ _ _ _ Y).trans HU3.o)
 have dp:qy ((w2.setRow (w.heap.size+1+1) bG).heap[w.heap.size+1]? =some (qn bG 126 (0,0))):=Hd ((xl _ _ _ _ Y).trans Ss.o);have iH:qy ((w2.setRow (w.heap.size+1+1) bG).heap[w.heap.size+1+1]? =some (qn bG 126 (0,0))):=Hd (qJ w2 _ _ _ _ _ HCZ.o);have HG4:qy (eh (w2.setRow (w.heap.size+1+1) bG) pb mb (n+1) (fun z=>if z=pg then some s else g z)):=Hd (HG2.o.ag (Ch.kj HCZ.o qa bG) (by simp;omega));have dP:qy (Ch [mb] w (w2.setRow (w.heap.size+1+1) bG)):=Hd (dD.o.row Y _)
 go_wp2_with(first
  |(refine qE rfl 126 (Operand.tmp 6) _ rfl (w.heap.size+1+1) _ rfl rfl 126 _ HCZ.o bp rfl (by simp[Value.oneCell']) ?_;generalize w2.setRow (w.heap.size+1+1) bG=w3 at HU4 dp iH HG4 dP⊢;obtain⟨_,v1,_⟩:=bS HU4.o;obtain⟨c0,c1,c2,c3,c4,c5,c6,c7⟩:=tf iH.o;have cf:=(cn iH.o 7))
  |(refine qE rfl 126 (Operand.tmp 4) _ rfl (w.heap.size+1) _ rfl rfl 126 _ (aZ dp.o Y) bp rfl (by simp[Value.oneCell']) ?_))
 refine aR rfl rfl rfl (qJ _ _ _ _ _ _ (aZ dp.o Y)) underlying126 rfl bp ?_;exact⟨rfl,(HG4.o.ag (Ch.dn iH.o qa 7 _) (by simp;omega)).ag (Ch.kj (aZ dp.o Y) qa bG) (by simp;omega),(dP.o.set 7 _ (.inr Y) (fun _ _ _ _=> .inr Y)).row Y _⟩
end TopW
namespace TopW
open Go.RowKit
open Go.Maps (Keyed)
structure oR where
 s:Int
 c:Int
 h:Int
deriving DecidableEq
def PB(y:oR):qp:=ql #[U Z y.s,U Z y.c,U Z y.h]
theorem YQ:prog.keyType 435=true:=qd
theorem acP:(435:qu)<prog.types.size:=xr qd
theorem okWide:(match prog.underlying 435 with|some (.array _ _)|some (.struct _)=>true|_=>false)=true:=by rw[underlying435]
theorem Ug:Keyed qx 435:=Keyed.of_law (deep_law_laid vh (m:=2) Y acP qd okWide)
theorem II:prog.cellsOf 435=1:=qd
theorem PC(i:Int):(sV i).formed qx 435=true:=by simp[sV,Value.formed,underlying435,II]
theorem acQ(i:Int)(h:mY i): ∃l,keyOf qx 435 (sV i)=some l:=by
 obtain⟨m,hm⟩:=uu;unfold keyOf;rw[underlying435];simp only[YQ,PC,Bool.and_self,if_true];unfold Program.keyLits;rw[underlying435];unfold mY at h;simp[sV,Value.cells,II,hm,Program.keyLits,underlying3,h,iN]
theorem YR:MK qx 435 sV mY:=⟨Ug,acQ,fun x y h=>by simpa [sV]using h⟩
theorem PD(w:qo):(zeroValue 433).run qx w= .ok (PB ⟨0,0,0⟩) w:=qd
structure zH(w:qo)(ob om:Nat)(O:Int→Option oR):Prop where
 head:w.heap[ob]? =some (qn #[.map (some om)] 221 (0,0))
 map: ∃n,an sV mY PB w om n O
variable{w:qo}{ob om:Nat}{O:Int→Option oR}
theorem zH.m0(h:zH w ob om O):w.cell? ⟨ob,0,none⟩=some (.map (some om)):=aJ h.head 0
theorem zH.soft(h:zH w ob om O): ∀cs t fr,w.heap[om]? =some (qn cs t fr)→t∉kU:=by
 intro cs t fr hc;obtain⟨n,es,clock,hm,_⟩:=h.map;rw[hm]at hc;cases hc
theorem zH.lt(h:zH w ob om O):om<w.heap.size:=by obtain⟨n,h⟩:=h.map;exact an.lt h
theorem zH.ag{J:qo}{M:List Nat}(h:zH w ob om O)(k:Ch M w J)(hn:om∉M):zH J ob om O:=
 ⟨k.bC _ _ _ _ h.head qa,by obtain⟨n,hm⟩:=h.map;exact⟨n,hm.of_block (k.block om (an.lt hm) hn)⟩⟩
def dQ(O:Int→Option oR)(c:Int):oR:=(O c).getD ⟨0,0,0⟩
theorem tR{κ β:Type}{mk:κ→qp}{ok:κ→Prop}{mv:β→qp}{P:Program}{ops:Array Oper}{rest:List Oper}{o:Oper}{a:Act}{w:qo}{Q:Exit→Act→qo→Prop}{k:qu}(hw:Region.wanted o (yielded ops a.tmps)=true)(m x:Operand)(t e:qu)(uU:o.op=Op.lookup t m x false)(M:MK P k mk ok)(ht:P.underlying t=some (.map k e))(z:qp)(hz:(zeroValue e).run P w= .ok z w)(b n:Nat)(g:κ→Option β)
 (h:an mk ok mv w b n g) (hm:a.eval m= .map (some b)) (key:κ) (bI:ok key) (hx:a.eval x=mk key)
 (hK:wpList P ops Q rest (a.put o.dst (((g key).map mv).getD z)) w):wpList P ops Q (o::rest) a w:=by
 unfold wpList;rw[qH hw];refine .inl ?_;have dV:=h.look M ht hz key bI false;simp only[xK,if_false]at dV;generalize((g key).map mv).getD z=v at dV hK;unfold Oper.wp;simp[execOp,uU,hm,hx,dV,Result.andThen];exact hK
theorem ri(c:Int)(hc:0≤c∧c<8)(w:qo):qw qx 311 #[U Z c] w fun e J=>e=qm (qk true)∧w=J:=by
 obtain⟨h1,h2⟩:=hc;go_enter func311,ntmps311;go_wp2
 go_ret;exact⟨aH qc,rfl⟩
theorem IJ(O:Int→Option oR)(c:Int):((O c).map PB).getD (PB ⟨0,0,0⟩)=PB (dQ O c):=by unfold dQ;cases O c<;>rfl
theorem Eg(c s:Int)(hc:0≤c∧c<8)(b:Bool)(hb:decide (s≤(dQ O c).s)=b)(w:qo)(h:zH w ob om O):
 qw qx 318 #[qi (some ⟨ob,0,none⟩),U Z c,U Z s] w fun e J=>e=qm (qk b)∧w=J:=by
 have h0:=h.m0;obtain⟨n,hm⟩:=h.map;have HM:=Hd hm;have HC:=Hd hc;have HK:=Hd (mZ (i:=c) Y);have HB:=Hd hb;obtain⟨y,hy⟩: ∃y,dQ O c=y:=⟨_,rfl⟩;have HY:qy (((O c).map PB).getD (PB ⟨0,0,0⟩)=ql #[U Z y.s,U Z y.c,U Z y.h]):=Hd (by rw[IJ,hy];rfl);rw[hy]at hb;have HB:=Hd hb;clear h hm hc hy hb;have hf: ∀w,(Instr.field 433 (ql #[U Z y.s,U Z y.c,U Z y.h]) 0).run qx w= .ok (U Z y.s) w:=fun w=>by kernel_rfl
 go_enter func318,ntmps318
 go_wp2_with(first
  |(go_at_call 311;refine(ri _ HC.o _).mono ?_;rintro e w2 ⟨rfl,rfl⟩)
  |(at_lookup;go_loud (refine tR rfl _ _ 219 433 rfl YR underlying219 _ (PD _) om n _ HM.o (by rfl) c HK.o (by rfl) ?_;rw[HY.o])))
 go_ret;exact⟨aH (by rw[←HB.o]),rfl⟩
theorem tS{fn:Func}{p u:Tmp}{ty:qu}(h:fn.results=#[.tmp u,.cell p ty])(tmps:Array qp)(P:Program)(w:qo):
 (results fn tmps).run P w=
  ((asAddr (tmps.getD p undef)).run P w).andThen fun a w₁=>((loadVar ty a).run P w₁).andThen fun v w₂=> .ok (qj #[tmps.getD u undef,v]) w₂:=by
 simp only[results,h];simp[Sem.run_bind,Result.andThen]
theorem PE{P:Program}{fn:Func}{R:Ending→qo→Prop}{a:Act}{w:qo}{p u:Tmp}{ty:qu}{g:Nat}{cs:Array qp}{d:TypeDesc}{t:qu}{fr:Nat×Nat}(Bz:fn.results=#[.tmp u,.cell p ty])
 (hp:a.tmps.getD p undef=qi (some ⟨g,0,none⟩)) (hd0:a.defers=[]) (hg:w.heap[g]? =some (qn cs t fr)) (hu:P.underlying ty=some d) (hd:(match d with| .struct _| .array _ _=>true|_=>false)=true)
 (hi:(P.info? ty).map (·.size)=some cs.size) (hR:R (qm (qj #[a.tmps.getD u undef,ql cs])) w):bodyPost P fn R .ret a w:=
 xB (by rw[tS Bz,hp];simp[asAddr,Result.andThen,run_loadVar_row w g t ty cs fr d hg hu hd hi]) hd0 hR
theorem cZ:(prog.info? 279).map (·.size)=some 2:=qd
theorem zH.map_set{J:qo}{O':Int→Option oR}{n:Nat}(h:zH w ob om O)(hm:an sV mY PB J om n O')(k:Ch [om] w J):zH J ob om O':=
 ⟨k.bC _ _ _ _ h.head qa,n,hm⟩
theorem PF(c s rc rh:Int)(hc:0≤c∧c<8)(hs:(dQ O c).s<s)(w:qo)(h:zH w ob om O):
 qw qx 320 #[qi (some ⟨ob,0,none⟩),U Z c,U Z s,ql #[U Z rc,U Z rh]] w fun e J=>e=qm (U Z 0)∧zH J ob om (fun z=>if z=c then some ⟨s,rc,rh⟩else O z)∧Ch [om] w J:=by
 have bu:=Hd (aa w (qn #[U Z rc,U Z rh] 279));have HX:=Hd (qA w (qn #[U Z rc,U Z rh] 279));have HO:=Hd (h.ag (M:=[]) (Ch.af bu.o) qc);have HC:=Hd hc;have HK:=Hd (mZ (i:=c) Y);have HS:qy (decide (s≤(dQ O c).s)=false):=Hd (by simpa using hs);clear h hc hs;go_enter func320,ntmps320;go_wp2_with fail
 generalize w.alloc (qn #[U Z rc,U Z rh] 279)=W at bu HX HO⊢
 go_wp2_with(first
  |(go_at_call 311;refine(ri _ HC.o _).mono ?_;rintro e w2 ⟨rfl,rfl⟩)
  |(go_at_call 318;refine(Eg c s HC.o false HS.o _ HO.o).mono ?_;rintro e w2 ⟨rfl,rfl⟩))
 have h0:=HO.o.m0;obtain⟨d0,d1⟩:=cp HX.o
 go_still_tail 9,qd
 obtain⟨n,hm⟩:=HO.o.map;have HM:=Hd hm;clear hm;go_wp2_with(at_mapUpdate;go_loud (refine bl _ rfl _ _ _ 219 433 rfl YR underlying219 om n _ (an.drew HM.o) (by rfl) c ⟨s,rc,rh⟩ HK.o (by rfl) (by rfl) ?_;intro w5 hm5 ho5 hs5;have ou:=Hd hm5;have eV:qy (ax om W w5):=Hd (dW (w:=W) ho5);clear hm5 ho5 hs5))
 go_ret;have hc5:Ch [om] W w5:=Ch.lI eV.o qc HO.o.soft;exact⟨rfl,HO.o.map_set ou.o hc5,Ch.pre bu.o hc5⟩
theorem yp(c:Int)(hc:0≤c∧c<8)(y:oR)(hy:dQ O c=y)(w:qo)(h:zH w ob om O):
 qw qx 245 #[qi (some ⟨ob,0,none⟩),U Z c] w fun e J=>e=qm (qj #[U Z y.s,ql #[U Z y.c,U Z y.h]])∧qz w.heap.size w J:=by
 have bu:=Hd (aa w (qn #[U Z 0,U Z 0] 279));have HX:=Hd (qA w (qn #[U Z 0,U Z 0] 279));have HO:=Hd (h.ag (M:=[]) (Ch.af bu.o) qc);have HC:=Hd hc;have HK:=Hd (mZ (i:=c) Y);have HY:qy (((O c).map PB).getD (PB ⟨0,0,0⟩)=ql #[U Z y.s,U Z y.c,U Z y.h]):=Hd (by rw[IJ,hy];rfl);clear h hc hy;go_enter func245,ntmps245;go_wp2_with fail
 generalize w.alloc (qn #[U Z 0,U Z 0] 279)=W at bu HX HO⊢;have h0:=HO.o.m0;obtain⟨n,hm⟩:=HO.o.map;have HM:=Hd hm;clear hm
 go_wp2_with(first
  |(go_at_call 311;refine(ri _ HC.o _).mono ?_;rintro e w2 ⟨rfl,rfl⟩)
  |(at_lookup;go_loud (refine cP _ rfl _ _ 219 433 false rfl YR underlying219 _ (PD _) om n _ HM.o (by rfl) c HK.o (by rfl) ?_;simp only[xK,if_false];rw[HY.o])))
 have az:=Hd (ai bu.o (aa W (qn #[U Z y.s,U Z y.c,U Z y.h] 433)));have HN:=Hd (qA W (qn #[U Z y.s,U Z y.c,U Z y.h] 433));have aF:=Hd (ae (aa W (qn #[U Z y.s,U Z y.c,U Z y.h] 433)) HX.o);generalize W.alloc (qn #[U Z y.s,U Z y.c,U Z y.h] 433)=W2 at az HN aF⊢;generalize W.heap.size=lb at HN⊢;obtain⟨d0,d1,d2⟩:=bS HN.o;clear h0
 go_still_tail 5,qd
 go_wp2_with(refine qE rfl 279 (Operand.tmp 5) _ rfl w.heap.size _ rfl rfl 279 _ aF.o cZ rfl (by simp[Value.oneCell']) ?_)
 simp only[Act.put];have jn:qy (W2.drew.heap[w.heap.size]? =some (qn #[U Z 0,U Z 0] 279 (0,0))):=aF;refine PE rfl rfl rfl (qJ _ _ _ _ _ _ jn.o) underlying279 rfl cZ ?_;exact⟨rfl,OpW.aj az.o.drew Y _⟩
theorem PG(w:qo):qw qx 74 #[] w fun e J=>e=qm (qi (some ⟨w.heap.size+1,0,none⟩))∧zH J (w.heap.size+1) w.heap.size (fun _=>none)∧qz w.heap.size w J:=by
 have Ij:= @run_makeMap qx;have H0:qy (an sV mY PB (w.alloc (.map #[] 0)) w.heap.size 0 (fun _=>none)):=Hd (an.made w);go_enter func74,ntmps74;go_wp2
 go_ret;refine⟨rfl,⟨?_,⟨0,an.ag H0.o (aa _ _)⟩⟩,ai (aa w _) (aa _ _)⟩;have:=qA (w.alloc (.map #[] 0)) (qn #[.map (some w.heap.size)] 221);rw[show(w.alloc (.map #[] 0)).heap.size=w.heap.size+1 by simp]at this;exact this
end TopW
namespace TopW
open Go.RowKit OpW
variable{w J:qo}{M:List Nat}{b b0 b1 b2 n n0 n1 n2:Nat}{x y:Int}
theorem iW:(prog.info? 54).map (·.size)=some 2:=qd
theorem cL.src(h:cL w b0 n0 b1 n1 b2 n2){k:Nat}(hk:k<2): ∃bk nk,w.cell? ⟨b0,k,none⟩=some (qh (some ⟨bk,0,none⟩) 2 nk)∧IR w bk nk (2*k:Nat) (2*k+1:Nat):=by
 obtain⟨c0,c1⟩:=h.cells
 match k,hk with
 |0,_=>exact⟨b1,n1,c0,h.r1⟩
 |1,_=>exact⟨b2,n2,c1,h.r2⟩
theorem IR.grown{r:Option Nat}(h:IR w b n x y)(hg:w.grownBy J r)(bd:r≠some b):IR J b n x y:=by
 obtain⟨cs,h1,h2,h3⟩:=h.row;exact⟨⟨cs,(hg.block b (qK h1) (fun e=>bd e.symm)).trans h1,h2,h3⟩,h.ge,h.le⟩
structure Cp(w:qo)(k:Nat)(wr:qo):Prop where
 below:qz w.heap.size w wr
 size:w.heap.size+3≤wr.heap.size
 q: ∃v xs,wr.heap[w.heap.size+2]? =some (qn #[U Z 0,v] 54 (0,0))∧wr.ownsRow (w.heap.size+3) 35 1 v k xs∧ ∀j,j<k→ ∃g m,xs[j]? =some (qh (some ⟨g,0,none⟩) 2 m)∧IR wr g m (2*j:Nat) (2*j+1:Nat)∧w.heap.size+3≤g
 res:wr.heap[w.heap.size+1]? =some (qn #[U Z 0,qh none 0 0] 54 (0,0))
theorem gT(w:qo)(h:cL w b0 n0 b1 n1 b2 n2):
 qw qx 41 #[ql #[U Z 0,qh (some ⟨b0,0,none⟩) 2 n0]] w fun e J=> ∃c0 m0 c1 m1 c2 m2,e=qm (ql #[U Z 0,qh (some ⟨c0,0,none⟩) 2 m0])∧cL J c0 m0 c1 m1 c2 m2∧w.heap.size≤c0∧w.heap.size≤c1∧w.heap.size≤c2∧qz w.heap.size w J:=by
 obtain⟨i0,hi,hz0,hz1,hz2⟩:=info_parts TS;have HH:=Hd h;have HP:qy (∀k,k<2→ ∃bk nk,w.cell? ⟨b0,k,none⟩=some (qh (some ⟨bk,0,none⟩) 2 nk)∧IR w bk nk (2*k:Nat) (2*k+1:Nat)):=Hd fun k hk=>h.src hk;clear h;go_enter func41,ntmps41;go_wp2_with fail
 have bu:qy (qz w.heap.size w (((w.alloc (qn #[U Z 0,qh (some ⟨b0,0,none⟩) 2 n0] 54)).alloc (qn #[U Z 0,qh none 0 0] 54)).alloc (qn #[U Z 0,qh none 0 0] 54))):=Hd (gz w _ _ _).2.2.2.1
 go_loopw [12] (fun i wr=> ∃k:Nat,k≤2∧i=U Z (k:Int)∧Cp w k wr) (fun i _=>((2:Int)-intOf i).toNat)
 case atStart=>
  obtain⟨q1,q2,q3,q4,q5⟩:=gz w (qn #[U Z 0,qh (some ⟨b0,0,none⟩) 2 n0] 54) (qn #[U Z 0,qh none 0 0] 54) (qn #[U Z 0,qh none 0 0] 54);exact⟨0,Y,rfl,q4,Y,⟨qh none 0 0,[],q3,World.ownsRow_nil _ _ _ _,fun j hj=>qZ hj (Nat.not_lt_zero _)⟩,q2⟩
 case round=>
  obtain⟨k,hk,rfl,hc⟩:=hrel;have HC:=Hd hc;by_cases aN:k<2
  ·have hk0:(0:Int)≤(k:Int):=by omega
   have vN:(k:Int)<2:=Y;obtain⟨bk,nk,s0,s1⟩:=HP.o k aN;have e0:=ah hc.below s0;obtain⟨v,xs,hq,aT,Uh⟩:=hc.q;have q1:=(cp hq).2;have Wz:=Hd (s1.ag (M:=[]) (Ch.af hc.below));have HQ:=Hd hq;have ei:=Hd aT;have HEL:=Hd Uh;have dO:=Hd aN;have SD:=cn hq 1;clear hc aN s0 s1 hq aT Uh;go_wp2_with fail
   clear e0;have au:qy (wr.drew.cell? ⟨w.heap.size+2,1,none⟩=some v∧qz (w.heap.size+3) wr wr.drew):=Hd ⟨q1,(Below.refl _ _).drew⟩;refine aB 7 8 (fun W=>W.cell? ⟨w.heap.size+2,1,none⟩=some v∧qz (w.heap.size+3) wr W) qd rfl ?_;refine tL 0 16 ?_ au.o ?_ (tL 1 17 ?_ au.o ?_ (tL 2 18 ?_ au.o ?_ ?_))
   iterate 3
    rotate_left
    ·intro wq hq;have g0:=hq.1;exact bJ
   simp only[pS,aS,sZ,sS];refine ay 3 qd rfl rfl ?_;refine al (some 19) (f:=71) (args:=#[qh (some ⟨bk,0,none⟩) 2 nk]) rfl ?_ (fun u W=> ∃g m,u=qh (some ⟨g,0,none⟩) 2 m∧IR W g m (2*k:Nat) (2*k+1:Nat)∧wr.heap.size≤g∧qz wr.heap.size wr W) ?_ ?_
   ·go_simp
   ·refine(DU wr.drew (Wz.o.ag (M:=[]) (Ch.af (Below.refl _ _).drew))).mono ?_;rintro e w2⟨g,m,rfl,h1,h2,h3⟩;exact⟨_,rfl,g,m,rfl,h1,h2,(Below.refl _ _).drew.trans h3⟩
   rintro u w2⟨g,m,rfl,h1,h2,h3⟩;have HI2:=Hd h1;have az:=Hd h3;have HG:=Hd h2;clear h1 h2 h3;refine⟨fun _=>⟨ah az.o q1,az.o.mono HC.o.size⟩,?_⟩;simp only[pS,aS,sZ,sS];refine ay 4 qd rfl rfl (aw (some 20) (v:=qh (some ⟨w2.heap.size,0,none⟩) 1 1) (J:=w2.alloc (qn #[qh (some ⟨g,0,none⟩) 2 m] 35)) rfl qf ⟨fun _=>⟨ah (ai az.o (aa _ _)) q1,(ai az.o (aa _ _)).mono HC.o.size⟩,?_⟩);simp only[pS,aS,sZ,sS];have cu:qy (qz wr.heap.size wr (w2.alloc (qn #[qh (some ⟨g,0,none⟩) 2 m] 35))):=Hd (ai az.o (aa _ _))
   refine ay 5 qd rfl rfl (wJ (some 21) rfl rfl _ _ 52 rfl (w.heap.size+3) 35 i0 (qh none 0 0) 1 24 underlying52 hi hz0 hz1 hz2 rfl qa _ v k xs rfl (NR ei.o cu.o) (some ⟨w2.heap.size,0,none⟩) 1 1 [qh (some ⟨g,0,none⟩) 2 m] rfl (fun e=>by cases e) rfl (fun ad e=>by cases e;exact World.news_of_block (qA w2 _)) (by simp[Value.oneCell']) (by have:=dO.o;unfold maxLen;omega) (by have:=dO.o;omega) (by have:=HC.o.size;have:=cu.o.size;omega) ?_);intro oa4 Kr w4 h1 h2 h3;have gH:=Hd h1;have dp:qy (qz (w.heap.size+3) wr w4):=Hd ((cu.o.mono HC.o.size).trans h2)
   have hvb: ∀z,v.ownBlock=some z→z<wr.heap.size∧ ∃cs,wr.heap[z]? =some (qn cs 35 (0,0)):=by
    intro z hz;rcases ei.o.2 with⟨rfl,_⟩|⟨z',cap',cur,rfl,_,hg',_⟩
    ·simp[Value.ownBlock]at hz
    ·simp[Value.ownBlock]at hz;subst hz;exact⟨qK hg',_,hg'⟩
   have HI4:qy (IR w4 g m (2*k:Nat) (2*k+1:Nat)):=Hd ((HI2.o.ag (M:=[]) (Ch.af (aa _ _))).grown h3 fun e=>by
    have:=(hvb g e).1;have:=HG.o;omega)
   have HE4:qy (∀j,j<k→ ∃g m,xs[j]? =some (qh (some ⟨g,0,none⟩) 2 m)∧IR w4 g m (2*j:Nat) (2*j+1:Nat)∧w.heap.size+3≤g):=Hd (by
    intro j hj;obtain⟨g',m',e1,e2,e3⟩:=HEL.o j hj;refine⟨g',m',e1,(e2.ag (M:=[]) (Ch.af cu.o)).grown h3 fun e=>?_,e3⟩;obtain⟨_,cs,ff⟩:=hvb g' e;obtain⟨cs',acS,_⟩:=e2.row;rw[ff]at acS;injection acS with e';injection e' with _ e' _;exact qZ e' qa)
   have HQ4:qy (w4.heap[w.heap.size+2]? =some (qn #[U Z 0,v] 54 (0,0))):=Hd ((dp.o.block _ Y).trans HQ.o);have pj:qy (w4.heap[w.heap.size+1]? =some (qn #[U Z 0,qh none 0 0] 54 (0,0))):=Hd ((dp.o.block _ Y).trans HC.o.res);have HXL:qy (xs.length=k):=Hd (by have:=ei.o.1;omega);have q4:=(cp HQ4.o).2;have hf4:=cn HQ4.o 1;clear h1 h2 h3 hvb;refine⟨fun _=>⟨q4,dp.o⟩,?_⟩;simp only[pS,aS,sZ,sS];refine ay 6 qd rfl rfl (aw (some 22) (v:=qi (some ⟨w.heap.size+2,1,none⟩)) (J:=w4) rfl qf ⟨fun _=>⟨q4,dp.o⟩,?_⟩);simp only[pS,aS,sZ,sS]
   refine ay 7 qd rfl rfl (bm none (J:=w4.setCell ⟨w.heap.size+2,1,none⟩ (qh oa4 (k+1) Kr)) rfl qf ⟨fun h=>qZ rfl h,?_⟩);simp only[Act.put];refine aU qd ?_;have br:qy (Ch [w.heap.size+2] w4 (w4.setCell ⟨w.heap.size+2,1,none⟩ (qh oa4 (k+1) Kr))):=Hd (Ch.dn HQ4.o qa 1 _)
   have dP:qy (Cp w (k+1) (w4.setCell ⟨w.heap.size+2,1,none⟩ (qh oa4 (k+1) Kr))):=Hd (by
    have dY:=HC.o.size;have hs4:=dp.o.size;refine⟨(HC.o.below.trans (dp.o.mono Y)).setCell (p:=⟨w.heap.size+2,1,none⟩) qc _,by simp;omega,⟨_,xs++[qh (some ⟨g,0,none⟩) 2 m],av HQ4.o _,?_,?_⟩,aZ pj.o Y⟩
    ·refine ax.iB (b:=w.heap.size+2) (ax.setCell (ax.refl _ _) 1 _) gH.o fun e=>?_;rcases gH.o.2 with⟨e1,_⟩|⟨z',cap',cur,e1,hz',_⟩
     ·rw[e1]at e;simp[Value.ownBlock]at e
     ·rw[e1]at e;simp[Value.ownBlock]at e;omega
    ·intro j hj;by_cases JY:j<k
     ·obtain⟨g',m',e1,e2,e3⟩:=HE4.o j JY;exact⟨g',m',by rw[xD (by have:=HXL.o;omega)];exact e1,e2.ag br.o,e3⟩
     ·obtain rfl:j=k:=by omega
      exact⟨g,m,by rw[List.getElem?_append_right (by have:=HXL.o;omega)];simp[HXL.o],HI4.o.ag br.o,by have:=HG.o;omega⟩)
   clear q4 hf4 q1 SD;go_wp2_with fail
   exact⟨⟨k+1,by have:=dO.o;omega,qc,dP.o⟩,by simp[intOf];omega⟩
  ·obtain rfl:k=2:=by omega
   obtain⟨v,xs,hq,aT,Uh⟩:=hc.q;rcases aT.2 with⟨_,e0⟩|⟨z,cap,cur,rfl,hz,hg,hn,hm,ff,BG⟩
   ·omega
   obtain⟨q0,q1⟩:=cp hq;have HEL:=Hd Uh;have HX:=Hd (And.intro hz (And.intro hg (And.intro hn (And.intro hm BG))));clear hc hq aT Uh aN hz hg hn hm ff BG;go_wp2_with(refine qE rfl 54 (Operand.tmp 2) _ rfl (w.heap.size+1) _ rfl rfl 54 _ HC.o.res iW rfl (by simp[Value.oneCell']) ?_)
   obtain⟨hz,hg,hn,hm,BG⟩:=HX.o;obtain⟨g1,m1,x1,i1,l1⟩:=HEL.o 0 Y;obtain⟨g2,m2,x2,i2,l2⟩:=HEL.o 1 Y;have aW:=qJ wr (w.heap.size+1) _ (#[U Z 0,qh (some ⟨z,0,none⟩) 2 cap]) _ _ HC.o.res;have WA:Ch [w.heap.size+1] wr (wr.setRow (w.heap.size+1) #[U Z 0,qh (some ⟨z,0,none⟩) 2 cap]):=Ch.kj HC.o.res qa _;refine aR rfl rfl rfl aW underlying54 rfl iW ?_;refine⟨z,cap,g1,m1,g2,m2,rfl,⟨⟨cur,WA.bC _ _ _ _ hg qa,?_,?_⟩,hn,hm,i1.ag WA,i2.ag WA⟩,Y,Y,Y,aj HC.o.below Y _⟩
   ·rw[←BG]at x1;simpa using x1
   ·rw[←BG]at x2;simpa using x2
abbrev tT(s:ByteArray):Array qp:=#[U Z 0,U Z 0,qg s,U Z 0,qh none 0 0,U Z 0,U Z 0,U Z 0]
theorem PH(ub pb mb n:Nat)(g:Int→Option ByteArray)(pg:Int)(hp:0≤pg∧pg<4096)(s:ByteArray)(hg:g pg=some s)(u z m:Int)(q:ByteArray)(w:qo)
 (hu:w.heap[ub]? =some (qn #[qi (some ⟨pb,0,none⟩),U Z 0,qk false] 166 (0,0))) (h:eh w pb mb n g):
 qw qx 216 #[qi (some ⟨ub,0,none⟩),ql #[U Z 3,U Z u,U Z 0,U Z pg,U Z z,U Z m,qg q,U Z 0,qh none 0 0]] w fun e J=>e=qm (ql #[U Z 0,U Z 0,qg s,U Z 0,qh none 0 0,U Z 0,U Z 0,U Z 0])∧qz w.heap.size w J:=by
 have HH:=Hd h;have HP:=Hd hp;have HG:=Hd hg;have HU:=Hd hu;have HW:=Hd (gz w (qn (bF 3 u 0 pg z m q) 129) (qn bG 126) (qn Lg 126));have hfn:=IH;have u1: ∀A B:Obj,((w.alloc A).alloc B).cell? ⟨ub,2,none⟩=some (qk false):=fun A B=>aA (aA (aJ hu 2));clear h hp hg hu;go_enter func216,ntmps216;go_wp2_with(go_at_call 289;refine(Uf _).mono ?_;rintro e w2 ⟨rfl,rfl⟩)
 clear u1;generalize((w.alloc (qn (bF 3 u 0 pg z m q) 129)).alloc (qn bG 126)).alloc (qn Lg 126)=W at HW⊢;obtain⟨hA,hB,hC,hb,_⟩:=HW.o;have HB:=Hd hb;have fu:=Hd hB;have HCX:=Hd hC;have HA:=Hd hA;have H2:=Hd (HH.o.ag (Ch.af (M:=[]) hb) qc);have u1:=(aC (ae hb HU.o) 1 qc).1;have a2:=aJ hA 2;simp only[gA,gZ,gS]at u1 a2;clear hA hB hC hb HW
 go_quiet (fail)
 clear u1 a2;have H3:qy (eh (W.drewN nq) pb mb n g):=Hd ⟨H2.o.head,H2.o.map.drewN nq⟩;have az:qy (qz w.heap.size w (W.drewN nq)):=Hd (below_drewN HB.o nq);have YP:qy ((W.drewN nq).heap[ub]? =some (qn #[qi (some ⟨pb,0,none⟩),U Z 0,qk false] 166 (0,0))):=Hd (ae az.o HU.o);have oE:qy ((W.drewN nq).heap[w.heap.size+1]? =some (qn bG 126)):=Hd fu.o;have PA:qy ((W.drewN nq).heap[w.heap.size+1+1]? =some (qn Lg 126)):=Hd HCX.o;obtain⟨a0,a1,a2,a3,a4,a5,a6,a7,a8⟩:=eX (show(W.drewN nq).heap[w.heap.size]? =some (qn (bF 3 u 0 pg z m q) 129)from HA.o)
 generalize W.drewN nq=W1 at H3 az YP oE PA a0 a1 a2 a3 a4 a5 a6 a7 a8⊢;go_wp2_with fail
 refine(Lf ub pb mb n g pg HP.o s HG.o 3 u 0 z m q _ YP.o H3.o).mono ?_;rintro e2 w2⟨rfl,h6⟩;have hub:ub<w.heap.size:=qK HU.o;have Ss:=Hd (ae h6 oE.o);have HCZ:=Hd (ae h6 PA.o);have dD:=Hd (ai az.o h6);have HU3:=Hd (ae h6 YP.o);clear h6 a0 a1 a2 a3 a4 a5 a6 a7 a8;have HU4:qy ((w2.setRow (w.heap.size+1+1) (tT s)).heap[ub]? =some (qn #[qi (some ⟨pb,0,none⟩),U Z 0,qk false] 166 (0,0))):=Hd ((xl _ _ _ _ Y).trans HU3.o);have dp:qy ((w2.setRow (w.heap.size+1+1) (tT s)).heap[w.heap.size+1]? =some (qn bG 126 (0,0))):=Hd ((xl _ _ _ _ Y).trans Ss.o)
 have iH:qy ((w2.setRow (w.heap.size+1+1) (tT s)).heap[w.heap.size+1+1]? =some (qn (tT s) 126 (0,0))):=Hd (qJ w2 _ _ _ _ _ HCZ.o);have dP:qy (qz w.heap.size w (w2.setRow (w.heap.size+1+1) (tT s))):=Hd (aj dD.o Y _)
 go_wp2_with(first
  |(refine qE rfl 126 (Operand.tmp 6) _ rfl (w.heap.size+1+1) _ rfl rfl 126 _ HCZ.o bp rfl (by simp[Value.oneCell']) ?_;generalize w2.setRow (w.heap.size+1+1) (tT s)=w3 at HU4 dp iH dP⊢;obtain⟨_,v1,_⟩:=bS HU4.o;obtain⟨c0,c1,c2,c3,c4,c5,c6,c7⟩:=tf iH.o;have cf:=(cn iH.o 7))
  |(refine qE rfl 126 (Operand.tmp 4) _ rfl (w.heap.size+1) _ rfl rfl 126 _ (aZ dp.o Y) bp rfl (by simp[Value.oneCell']) ?_))
 refine aR rfl rfl rfl (qJ _ _ _ _ _ _ (aZ dp.o Y)) underlying126 rfl bp ?_;exact⟨rfl,aj (dP.o.setCell (p:=⟨w.heap.size+1+1,7,none⟩) (by simp;omega) _) Y _⟩
def km(w:qo)(ob:Nat)(t:Int):Prop:=w.heap[ob]? =some (qn #[U Z 0,qk true,U Z t] 161 (0,0))
abbrev nM(t:Int):Array qp:=#[U Z 0,U Z t,qg ⟨#[]⟩,U Z 0,qh none 0 0,U Z 0,U Z 0,U Z 0]
theorem km.ag{J:qo}{M:List Nat}{ob:Nat}{t:Int}(h:km w ob t)(k:Ch M w J)(hn:ob∉M):km J ob t:=k.heap h hn
theorem Li(ob:Nat)(t:Int)(ht:0≤t∧t<16384)(u z m:Int)(q:ByteArray)(w:qo)(h:km w ob t):
 qw qx 69 #[qi (some ⟨ob,0,none⟩),ql #[U Z 6,U Z u,U Z 0,U Z z,U Z m,U Z 0,qg q,U Z 0,qh none 0 0]] w fun e J=>
  e=qm (ql #[U Z 0,U Z t,qg ⟨#[]⟩,U Z 0,qh none 0 0,U Z 0,U Z 0,U Z 0])∧km J ob (t+1)∧Ch [ob] w J:=by
 have HH:=Hd h;have ht1: ¬t=16384:=Y;have hw1:IntKind.i64.wrap (t+1)=t+1:=qO _ Y;have HW:=Hd (aP w (qn (bF 6 u 0 z m 0 q) 129) (qn bG 126));clear h ht;go_enter func69,ntmps69;go_wp2
 generalize(w.alloc (qn (bF 6 u 0 z m 0 q) 129)).alloc (qn bG 126)=W at HW⊢;obtain⟨hA,hB,hb,hz⟩:=HW.o;have HB:=Hd hb;have fu:=Hd hB;have HZ:=Hd hz;obtain⟨o0,o1,o2⟩:=bS (ae hb HH.o);have of:=(aC (ae hb HH.o) 2 qc).2;obtain⟨a0,a1,a2,_⟩:=eX hA;clear hA hB hb HW hz
 go_quiet (fail)
 have az:qy (qz w.heap.size w (W.drewN nq)):=Hd (below_drewN HB.o nq);have oE:qy ((W.drewN nq).heap[w.heap.size+1]? =some (qn bG 126)):=Hd fu.o;have HZY:qy ((W.drewN nq).heap.size=w.heap.size+2):=Hd HZ.o;have p1:(W.drewN nq).cell? ⟨ob,1,none⟩=some (qk true):=o1;have p2:(W.drewN nq).cell? ⟨ob,2,none⟩=some (U Z t):=o2;have pf:(W.drewN nq).frozen? ⟨ob,2,none⟩=false:=of;have HO:qy ((W.drewN nq).heap[ob]? =some (qn #[U Z 0,qk true,U Z t] 161 (0,0))):=Hd (ae az.o HH.o);clear o0 o1 o2 of a0 a1 a2;generalize W.drewN nq=W1 at az oE HZY p1 p2 pf HO⊢;have aN:ob<W1.heap.size:=qK HO.o
 have Ui: ¬W1.heap.size=ob:=Y;have zk: ¬ob=W1.heap.size:=Y;have p3: ∀O:Obj,(W1.alloc O).cell? ⟨ob,2,none⟩=some (U Z t):=fun O=>aA p2;have p4: ∀O:Obj,(W1.alloc O).frozen? ⟨ob,2,none⟩=false:=fun O=>(aC (ae (aa W1 O) HO.o) 2 qc).2;have HE:qy (((W1.setCell ⟨ob,2,none⟩ (U Z (t+1))).alloc (qn (nM t) 126)).heap[w.heap.size+1]? =some (qn bG 126 (0,0))):=Hd (ae (aa _ _) (aZ oE.o (by have:=qK HH.o;omega)));go_wp2_with(refine qE rfl 126 (Operand.tmp 4) _ rfl (w.heap.size+1) _ rfl rfl 126 _ HE.o bp rfl (by simp[Value.oneCell']) ?_)
 refine aR rfl rfl rfl (qJ _ _ _ _ _ _ HE.o) underlying126 rfl bp ?_;have rC:ob<w.heap.size:=qK HH.o;refine⟨rfl,?_,?_⟩
 ·unfold km;rw[xl _ _ _ _ Y];exact ae (aa _ _) (av HO.o _)
 ·exact(((Ch.af (M:=[ob]) az.o).set 2 _ (.inl qc) fun cs tt fr hk=> .inl (by rw[HO.o]at hk;injection hk with hk;injection hk with _ h2 _;rw[←h2];decide)).alloc _).row Y _
theorem Lj(ob:Nat)(t:Int)(ht:0≤t∧t≤16384)(u z m:Int)(q:ByteArray)(w:qo)(h:km w ob t):
 qw qx 69 #[qi (some ⟨ob,0,none⟩),ql #[U Z 7,U Z u,U Z 0,U Z z,U Z m,U Z 0,qg q,U Z 0,qh none 0 0]] w fun e J=>
  e=qm (ql #[U Z 0,U Z t,qg ⟨#[]⟩,U Z 0,qh none 0 0,U Z 0,U Z 0,U Z 0])∧qz w.heap.size w J:=by
 have HH:=Hd h;have HW:=Hd (aP w (qn (bF 7 u 0 z m 0 q) 129) (qn bG 126));clear h ht;go_enter func69,ntmps69;go_wp2
 generalize(w.alloc (qn (bF 7 u 0 z m 0 q) 129)).alloc (qn bG 126)=W at HW⊢;obtain⟨hA,hB,hb,hz⟩:=HW.o;have HB:=Hd hb;have fu:=Hd hB;have HZ:=Hd hz;obtain⟨o0,o1,o2⟩:=bS (ae hb HH.o);have of:=(aC (ae hb HH.o) 2 qc).2;obtain⟨a0,a1,a2,_⟩:=eX hA;clear hA hB hb HW hz
 go_quiet (fail)
 have az:qy (qz w.heap.size w (W.drewN nq)):=Hd (below_drewN HB.o nq);have oE:qy ((W.drewN nq).heap[w.heap.size+1]? =some (qn bG 126)):=Hd fu.o;have HZY:qy ((W.drewN nq).heap.size=w.heap.size+2):=Hd HZ.o;have p1:(W.drewN nq).cell? ⟨ob,1,none⟩=some (qk true):=o1;have p2:(W.drewN nq).cell? ⟨ob,2,none⟩=some (U Z t):=o2;have pf:(W.drewN nq).frozen? ⟨ob,2,none⟩=false:=of;have HO:qy ((W.drewN nq).heap[ob]? =some (qn #[U Z 0,qk true,U Z t] 161 (0,0))):=Hd (ae az.o HH.o);clear o0 o1 o2 of a0 a1 a2;generalize W.drewN nq=W1 at az oE HZY p1 p2 pf HO⊢;have aN:ob<W1.heap.size:=qK HO.o
 have Ui: ¬W1.heap.size=ob:=Y;have zk: ¬ob=W1.heap.size:=Y;have p3: ∀O:Obj,(W1.alloc O).cell? ⟨ob,2,none⟩=some (U Z t):=fun O=>aA p2;have p4: ∀O:Obj,(W1.alloc O).frozen? ⟨ob,2,none⟩=false:=fun O=>(aC (ae (aa W1 O) HO.o) 2 qc).2;have HE:qy ((W1.alloc (qn (nM t) 126)).heap[w.heap.size+1]? =some (qn bG 126 (0,0))):=Hd (ae (aa _ _) oE.o);go_wp2_with(refine qE rfl 126 (Operand.tmp 4) _ rfl (w.heap.size+1) _ rfl rfl 126 _ HE.o bp rfl (by simp[Value.oneCell']) ?_)
 refine aR rfl rfl rfl (qJ _ _ _ _ _ _ HE.o) underlying126 rfl bp ?_;exact⟨rfl,aj (az.o.alloc az.o.size _) Y _⟩
theorem PI(ob:Nat)(t:Int)(ht:0≤t∧t<16384)(u z m:Int)(q:ByteArray)(w:qo)(h:km w ob t):
 qw qx 39 #[qi (some ⟨ob,0,none⟩),ql #[U Z 6,U Z u,U Z 0,U Z z,U Z m,U Z 0,qg q,U Z 0,qh none 0 0]] w fun e J=>
  e=qm (ql #[U Z 0,U Z t,qg ⟨#[]⟩,U Z 0,qh none 0 0,U Z 0,U Z 0,U Z 0])∧km J ob (t+1)∧Ch [ob] w J:=by
 have HH:=Hd h;have HT:=Hd ht;have HW:=Hd (aP w (qn (bF 6 u 0 z m 0 q) 129) (qn bG 126));have zB: ∀(fn:Fn) (first cap:Array qp) (w:qo),(Instr.makeFunc fn first cap).run qx w= .ok (.func fn first cap) w:=fun _ _ _ _=>rfl;clear h ht;go_enter func39,ntmps39;go_wp2_with fail
 generalize(w.alloc (qn (bF 6 u 0 z m 0 q) 129)).alloc (qn bG 126)=W at HW⊢;obtain⟨hA,hB,hb,hz⟩:=HW.o;have HB:=Hd hb;have fu:=Hd hB;have HZ:=Hd hz;clear hA hB hb HW hz;refine(Li ob t HT.o u z m q _ (HH.o.ag (Ch.af (M:=[]) HB.o) qc)).mono ?_;rintro e2 w2⟨rfl,h5,h6⟩;have rC:ob<w.heap.size:=qK HH.o;have oE:=Hd (h6.heap fu.o (by simp;omega));have HO:=Hd h5;have HC:=Hd ((Ch.af (M:=[ob]) HB.o).aq h6);have dY:w.heap.size+2≤w2.heap.size:=by have:=h6.size;have:=HZ.o;omega
 obtain⟨p0,_,_⟩:=bS h5;have p3: ∀O:Obj,(w2.alloc O).cell? ⟨ob,0,none⟩=some (U Z 0):=fun O=>aA p0;have aN:ob<w2.heap.size:=Y;have Ui: ¬w2.heap.size=ob:=Y;have zk: ¬ob=w2.heap.size:=Y;clear h5 h6 zB;have HE:qy ((w2.alloc (qn (nM t) 126)).heap[w.heap.size+1]? =some (qn bG 126 (0,0))):=Hd (ae (aa _ _) oE.o);go_wp2_with(refine qE rfl 126 (Operand.tmp 4) _ rfl (w.heap.size+1) _ rfl rfl 126 _ HE.o bp rfl (by simp[Value.oneCell']) ?_)
 refine aR rfl rfl rfl (qJ _ _ _ _ _ _ HE.o) underlying126 rfl bp ?_;refine⟨rfl,?_,(HC.o.alloc _).row Y _⟩;unfold km;rw[xl _ _ _ _ Y];exact ae (aa _ _) HO.o
theorem PJ(ob:Nat)(t:Int)(ht:0≤t∧t≤16384)(u z m:Int)(q:ByteArray)(w:qo)(h:km w ob t):
 qw qx 39 #[qi (some ⟨ob,0,none⟩),ql #[U Z 7,U Z u,U Z 0,U Z z,U Z m,U Z 0,qg q,U Z 0,qh none 0 0]] w fun e J=>
  e=qm (ql #[U Z 0,U Z t,qg ⟨#[]⟩,U Z 0,qh none 0 0,U Z 0,U Z 0,U Z 0])∧qz w.heap.size w J:=by
 have HH:=Hd h;have HT:=Hd ht;have HW:=Hd (aP w (qn (bF 7 u 0 z m 0 q) 129) (qn bG 126));have zB: ∀(fn:Fn) (first cap:Array qp) (w:qo),(Instr.makeFunc fn first cap).run qx w= .ok (.func fn first cap) w:=fun _ _ _ _=>rfl;clear h ht;go_enter func39,ntmps39;go_wp2_with fail
 generalize(w.alloc (qn (bF 7 u 0 z m 0 q) 129)).alloc (qn bG 126)=W at HW⊢;obtain⟨hA,hB,hb,hz⟩:=HW.o;have HB:=Hd hb;have fu:=Hd hB;have HZ:=Hd hz;clear hA hB hb HW hz;refine(Lj ob t HT.o u z m q _ (HH.o.ag (Ch.af (M:=[]) HB.o) qc)).mono ?_;rintro e2 w2⟨rfl,h6⟩;have rC:ob<w.heap.size:=qK HH.o;have oE:=Hd (ae h6 fu.o);have HC:=Hd (ai HB.o h6);have HO:qy (km w2 ob t):=Hd (ae HC.o HH.o);have dY:w.heap.size+2≤w2.heap.size:=by have:=h6.size;have:=HZ.o;omega
 obtain⟨p0,_,_⟩:=bS HO.o;have p3: ∀O:Obj,(w2.alloc O).cell? ⟨ob,0,none⟩=some (U Z 0):=fun O=>aA p0;have aN:ob<w2.heap.size:=Y;have Ui: ¬w2.heap.size=ob:=Y;have zk: ¬ob=w2.heap.size:=Y;clear h6 zB;have HE:qy ((w2.alloc (qn (nM t) 126)).heap[w.heap.size+1]? =some (qn bG 126 (0,0))):=Hd (ae (aa _ _) oE.o);go_wp2_with(refine qE rfl 126 (Operand.tmp 4) _ rfl (w.heap.size+1) _ rfl rfl 126 _ HE.o bp rfl (by simp[Value.oneCell']) ?_)
 refine aR rfl rfl rfl (qJ _ _ _ _ _ _ HE.o) underlying126 rfl bp ?_;exact⟨rfl,aj (HC.o.alloc HC.o.size _) Y _⟩
structure NB where
 n:Nat
 h:Nat
 o:Nat
 l:Nat
 r:Nat
 u:Nat→Nat
 p:Nat→Nat
 m:Nat→Nat
def NB.soft(N:NB):List Nat:=[N.o,N.m 0,N.m 1,N.m 2,N.m 3]
structure jX(w:qo)(N:NB)(t:Int)(k:Nat)(pg:Nat→Int→Option ByteArray):Prop where
 nodes: ∃cap,16≤cap∧cap≤maxLen∧w.heap[N.n]? =some (qn #[qh (some ⟨N.r,0,none⟩) 16 cap,qi (some ⟨N.o,0,none⟩),qi (some ⟨N.l,0,none⟩)] 121 (0,0))
 row: ∃x,w.heap[N.r]? =some (qn x 122 (0,0))∧ ∀i,i<4→x[i]? =some (qi (some ⟨N.u i,0,none⟩))
 unit: ∀i,i<4→w.heap[N.u i]? =some (qn #[qi (some ⟨N.p i,0,none⟩),U Z 0,qk false] 166 (0,0))
 ig: ∀i,i<4→eh w (N.p i) (N.m i) k (pg i)
 ord:km w N.o t
 hand:w.heap[N.h]? =some (qn #[qi (some ⟨N.n,0,none⟩),qh none 0 0] 132 (0,0))
 mK: ∀i j,i<4→j<4→i≠j→N.m i≠N.m j
variable{w:qo}{N:NB}{t:Int}{k:Nat}{pg:Nat→Int→Option ByteArray}
theorem NB.PK{i:Nat}(h:i<4):N.m i∈N.soft:=by
 have:i=0∨i=1∨i=2∨i=3:=Y;rcases this with rfl|rfl|rfl|rfl<;>simp[NB.soft]
theorem jX.ag{J:qo}{M:List Nat}(h:jX w N t k pg)(c:Ch M w J)(hn: ∀x∈N.soft,x∉M):jX J N t k pg where
 nodes:=by obtain⟨cap,h1,h2,h3⟩:=h.nodes;exact⟨cap,h1,h2,c.bC _ _ _ _ h3 qa⟩
 row:=by obtain⟨x,h1,h2⟩:=h.row;exact⟨x,c.bC _ _ _ _ h1 qa,h2⟩
 unit i hi:=c.bC _ _ _ _ (h.unit i hi) qa
 ig i hi:=(h.ig i hi).ag c (hn _ (NB.PK hi))
 ord:=h.ord.ag c (hn _ (by simp[NB.soft]))
 hand:=c.bC _ _ _ _ h.hand qa
 mK:=h.mK
theorem jX.YS(h:jX w N t k pg){i:Nat}(hi:i<4):N.o≠N.m i:=by
 intro e;obtain⟨es,clock,hm,_⟩:=(h.ig i hi).map;have:=h.ord;unfold km at this;rw[e,hm]at this;cases this
theorem Lk(i:Nat)(hi:i<4)(w:qo)(h:jX w N t k pg):
 qw qx 92 #[qi (some ⟨N.n,0,none⟩),U Z (i:Nat)] w fun e J=>e=qm (qi (some ⟨N.u i,0,none⟩))∧w=J:=by
 obtain⟨cap,c1,c2,hn⟩:=h.nodes;obtain⟨x,hx,hxi⟩:=h.row;obtain⟨n0,n1,n2⟩:=bS hn
 have hr:w.cell? ⟨N.r,i,none⟩=some (qi (some ⟨N.u i,0,none⟩)):=by
  rw[qI hx];simpa using hxi i hi
 have b1: ¬((i:Nat):Int)<0:=Y;have b2: ¬(16:Int)≤((i:Nat):Int):=Y;have b3:((i:Nat):Int)<16:=Y;clear h hn hx hxi;go_enter func92,ntmps92;go_wp2
 go_ret;exact⟨rfl,rfl⟩
theorem yq(i:Nat)(hi:i<4)(kd e p z m:Int)(hk:kd=1∨kd=3)(q:ByteArray)(w:qo)(h:jX w N t k pg):
 qw qx 215 #[qi (some ⟨N.n,0,none⟩),ql #[U Z kd,U Z (i:Nat),U Z e,U Z p,U Z z,U Z m,qg q,U Z 0,qh none 0 0]] w fun e J=>
  e=qm (.iface 122 (qi (some ⟨N.u i,0,none⟩)))∧qz w.heap.size w J:=by
 have H1:qy (jX (w.alloc (qn (bF kd i e p z m q) 129)) N t k pg):=Hd (h.ag (Ch.af (M:=[]) (aa w _)) qc);have HI:=Hd hi;have HB:qy (qz w.heap.size w (w.alloc (qn (bF kd i e p z m q) 129))):=Hd (aa w _);clear h hi;rcases hk with rfl|rfl
 all_goals
  go_enter func215,ntmps215;go_wp2_with(go_at_call 92;refine(Lk i HI.o _ H1.o).mono ?_;rintro e w2 ⟨rfl,rfl⟩)
  go_ret;exact⟨rfl,HB.o⟩
theorem AP(u kd e p z m:Int)(hk:kd=6∨kd=7)(q:ByteArray)(w:qo)(h:jX w N t k pg):
 qw qx 215 #[qi (some ⟨N.n,0,none⟩),ql #[U Z kd,U Z u,U Z e,U Z p,U Z z,U Z m,qg q,U Z 0,qh none 0 0]] w fun e J=>
  e=qm (.iface 117 (qi (some ⟨N.o,0,none⟩)))∧qz w.heap.size w J:=by
 obtain⟨cap,c1,c2,hn⟩:=h.nodes;have p1: ∀A:Obj,(w.alloc A).cell? ⟨N.n,1,none⟩=some (qi (some ⟨N.o,0,none⟩)):=fun A=>aA (bS hn).2.1;have HB:qy (qz w.heap.size w (w.alloc (qn (bF kd u e p z m q) 129))):=Hd (aa w _);clear h hn;rcases hk with rfl|rfl
 all_goals
  go_enter func215,ntmps215;go_wp2
  go_ret;exact⟨rfl,HB.o⟩
theorem WB(v:qp)(w:qo):(Instr.typeAssert (.iface 122 v) 339 122 true).run qx w= .ok (qj #[v,qk true]) w:=qd
theorem WC(v:qp)(w:qo):(Instr.typeAssert (.iface 117 v) 339 122 true).run qx w= .ok (qj #[qi none,qk false]) w:=qd
theorem WD(v:qp)(w:qo):(Instr.typeAssert (.iface 117 v) 339 117 true).run qx w= .ok (qj #[v,qk true]) w:=qd
def mg(pg:Nat→Int→Option ByteArray)(i:Nat)(p:Int)(s:ByteArray):Nat→Int→Option ByteArray:=fun j=>if j=i then(fun z=>if z=p then some s else pg i z)else pg j
theorem jX.Uj{J:qo}{i:Nat}(hi:i<4){p:Int}{s:ByteArray}(h:jX w N t k pg)(hp:eh J (N.p i) (N.m i) (k+1) (fun z=>if z=p then some s else pg i z))(c:Ch [N.m i] w J):jX J N t (k+1) (mg pg i p s) where
 nodes:=by obtain⟨cap,h1,h2,h3⟩:=h.nodes;exact⟨cap,h1,h2,c.bC _ _ _ _ h3 qa⟩
 row:=by obtain⟨x,h1,h2⟩:=h.row;exact⟨x,c.bC _ _ _ _ h1 qa,h2⟩
 unit j hj:=c.bC _ _ _ _ (h.unit j hj) qa
 ig j hj:=by
  by_cases e:j=i
  ·subst e;rw[show mg pg j p s j=_ from qH rfl];exact hp
  ·rw[show mg pg i p s j=_ from qB e];have:=(h.ig j hj).ag c (by simp;exact h.mK j i hj hi e);exact⟨this.head,this.map.mono Y⟩
 ord:=h.ord.ag c (by simp;exact h.YS hi)
 hand:=c.bC _ _ _ _ h.hand qa
 mK:=h.mK
theorem jX.Uk{J:qo}{t':Int}(h:jX w N t k pg)(ho:km J N.o t')(c:Ch [N.o] w J):jX J N t' k pg where
 nodes:=by obtain⟨cap,h1,h2,h3⟩:=h.nodes;exact⟨cap,h1,h2,c.bC _ _ _ _ h3 qa⟩
 row:=by obtain⟨x,h1,h2⟩:=h.row;exact⟨x,c.bC _ _ _ _ h1 qa,h2⟩
 unit j hj:=c.bC _ _ _ _ (h.unit j hj) qa
 ig j hj:=(h.ig j hj).ag c (by simp;exact fun e=>h.YS hj e.symm)
 ord:=ho
 hand:=c.bC _ _ _ _ h.hand qa
 mK:=h.mK
theorem Ll(i:Nat)(hi:i<4)(p:Int)(hp:0≤p∧p<4096)(s:ByteArray)(hs:s.size≤4096)(hk:k<3000)(hg:pg i p=none)(z m:Int)(w:qo)(h:jX w N t k pg):
 qw qx 139 #[qi (some ⟨N.n,0,none⟩),ql #[U Z 1,U Z (i:Nat),U Z 0,U Z p,U Z z,U Z m,qg s,U Z 0,qh none 0 0]] w fun e J=>
  e=qm (ql #[U Z 0,U Z 0,qg ⟨#[]⟩,U Z 0,qh none 0 0,U Z 0,U Z 0,U Z 0])∧jX J N t (k+1) (mg pg i p s)∧Ch [N.m i] w J:=by
 have HH:=Hd h;have HI:=Hd hi;have HP:=Hd hp;have HS:=Hd hs;have HK:=Hd hk;have HG:=Hd hg;have HW:=Hd (aP w (qn (bF 1 (i:Nat) 0 p z m s) 129) (qn bG 126));have hta:=WB;clear h hi hp hs hk hg;go_enter func139,ntmps139;go_wp2_with fail
 generalize(w.alloc (qn (bF 1 (i:Nat) 0 p z m s) 129)).alloc (qn bG 126)=W at HW⊢;obtain⟨hA,hB,hb,hz⟩:=HW.o;have HB:=Hd hb;have HA:=Hd hA;have fu:=Hd hB;clear hA hB hb HW hz;refine(yq i HI.o 1 0 p z m (.inl rfl) s _ (HH.o.ag (Ch.af (M:=[]) HB.o) qc)).mono ?_;rintro e1 w1⟨rfl,h1⟩;have cq:=Hd (ai HB.o h1);have Lm:=Hd (ae h1 HA.o);have uV:=Hd (ae h1 fu.o);have H1:=Hd (HH.o.ag (Ch.af (M:=[]) cq.o) qc);obtain⟨a0,a1,a2,a3,a4,a5,a6,a7,a8⟩:=eX Lm.o;clear h1;go_wp2_with fail
 refine(Lh (N.u i) (N.p i) (N.m i) k (pg i) p HP.o s HS.o HK.o HG.o i z m _ (H1.o.unit i HI.o) (H1.o.ig i HI.o)).mono ?_;rintro e2 w2⟨rfl,h5,h6⟩;have aN:N.m i<w.heap.size:=an.lt (HH.o.ig i HI.o).map;have lh:=Hd (h6.heap uV.o (by simp;omega));have HN:=Hd (H1.o.Uj HI.o h5 h6);have HC:=Hd ((Ch.af (M:=[N.m i]) cq.o).aq h6);have hoo:N.o<w.heap.size:=qK HH.o.ord;have Ul: ∀j,j<4→N.m j<w.heap.size:=fun j hj=>an.lt (HH.o.ig j hj).map;clear h5 h6 a0 a1 a2 a3 a4 a5 a6 a7 a8;go_wp2_with(refine qE rfl 126 (Operand.tmp 4) _ rfl (w.heap.size+1) _ rfl rfl 126 _ lh.o bp rfl (by simp[Value.oneCell']) ?_)
 refine aR rfl rfl rfl (qJ _ _ _ _ _ _ lh.o) underlying126 rfl bp ?_;refine⟨rfl,HN.o.ag (Ch.kj lh.o qa bG) ?_,HC.o.row Y _⟩;have q0:=Ul 0 Y;have q1:=Ul 1 Y;have q2:=Ul 2 Y;have q3:=Ul 3 Y;intro x hx;simp[NB.soft]at hx⊢;omega
theorem PL(i:Nat)(hi:i<4)(p:Int)(hp:0≤p∧p<4096)(s:ByteArray)(hg:pg i p=some s)(z m:Int)(q:ByteArray)(w:qo)(h:jX w N t k pg):
 qw qx 139 #[qi (some ⟨N.n,0,none⟩),ql #[U Z 3,U Z (i:Nat),U Z 0,U Z p,U Z z,U Z m,qg q,U Z 0,qh none 0 0]] w fun e J=>
  e=qm (ql #[U Z 0,U Z 0,qg s,U Z 0,qh none 0 0,U Z 0,U Z 0,U Z 0])∧qz w.heap.size w J:=by
 have HH:=Hd h;have HI:=Hd hi;have HP:=Hd hp;have HG:=Hd hg;have HW:=Hd (aP w (qn (bF 3 (i:Nat) 0 p z m q) 129) (qn bG 126));have hta:=WB;clear h hi hp hg;go_enter func139,ntmps139;go_wp2_with fail
 generalize(w.alloc (qn (bF 3 (i:Nat) 0 p z m q) 129)).alloc (qn bG 126)=W at HW⊢;obtain⟨hA,hB,hb,hz⟩:=HW.o;have HB:=Hd hb;have HA:=Hd hA;have fu:=Hd hB;clear hA hB hb HW hz;refine(yq i HI.o 3 0 p z m (.inr rfl) q _ (HH.o.ag (Ch.af (M:=[]) HB.o) qc)).mono ?_;rintro e1 w1⟨rfl,h1⟩;have cq:=Hd (ai HB.o h1);have Lm:=Hd (ae h1 HA.o);have uV:=Hd (ae h1 fu.o);have H1:=Hd (HH.o.ag (Ch.af (M:=[]) cq.o) qc);obtain⟨a0,a1,a2,a3,a4,a5,a6,a7,a8⟩:=eX Lm.o;clear h1;go_wp2_with fail
 refine(PH (N.u i) (N.p i) (N.m i) k (pg i) p HP.o s HG.o i z m q _ (H1.o.unit i HI.o) (H1.o.ig i HI.o)).mono ?_;rintro e2 w2⟨rfl,h6⟩;have lh:=Hd (ae h6 uV.o);have HC:=Hd (ai cq.o h6);clear h6 a0 a1 a2 a3 a4 a5 a6 a7 a8;go_wp2_with(refine qE rfl 126 (Operand.tmp 4) _ rfl (w.heap.size+1) _ rfl rfl 126 _ lh.o bp rfl (by simp[Value.oneCell']) ?_)
 refine aR rfl rfl rfl (qJ _ _ _ _ _ _ lh.o) underlying126 rfl bp ?_;exact⟨rfl,aj HC.o Y _⟩
theorem PM(ht:0≤t∧t<16384)(u z m:Int)(q:ByteArray)(w:qo)(h:jX w N t k pg):
 qw qx 139 #[qi (some ⟨N.n,0,none⟩),ql #[U Z 6,U Z u,U Z 0,U Z z,U Z m,U Z 0,qg q,U Z 0,qh none 0 0]] w fun e J=>
  e=qm (ql #[U Z 0,U Z t,qg ⟨#[]⟩,U Z 0,qh none 0 0,U Z 0,U Z 0,U Z 0])∧jX J N (t+1) k pg∧Ch [N.o] w J:=by
 have HH:=Hd h;have HT:=Hd ht;have HW:=Hd (aP w (qn (bF 6 u 0 z m 0 q) 129) (qn bG 126));have hta:=WC;have htb:=WD;clear h ht;go_enter func139,ntmps139;go_wp2_with fail
 generalize(w.alloc (qn (bF 6 u 0 z m 0 q) 129)).alloc (qn bG 126)=W at HW⊢;obtain⟨hA,hB,hb,hz⟩:=HW.o;have HB:=Hd hb;have HA:=Hd hA;have fu:=Hd hB;clear hA hB hb HW hz;refine(AP u 6 0 z m 0 (.inl rfl) q _ (HH.o.ag (Ch.af (M:=[]) HB.o) qc)).mono ?_;rintro e1 w1⟨rfl,h1⟩;have cq:=Hd (ai HB.o h1);have Lm:=Hd (ae h1 HA.o);have uV:=Hd (ae h1 fu.o);have H1:=Hd (HH.o.ag (Ch.af (M:=[]) cq.o) qc);obtain⟨a0,a1,a2,a3,a4,a5,a6,a7,a8⟩:=eX Lm.o;clear h1;go_wp2_with fail
 refine(PI N.o t HT.o u z m q _ H1.o.ord).mono ?_;rintro e2 w2⟨rfl,h5,h6⟩;have hoo:N.o<w.heap.size:=qK HH.o.ord;have lh:=Hd (h6.heap uV.o (by simp;omega));have HN:=Hd (H1.o.Uk h5 h6);have HC:=Hd ((Ch.af (M:=[N.o]) cq.o).aq h6);have Ul: ∀j,j<4→N.m j<w.heap.size:=fun j hj=>an.lt (HH.o.ig j hj).map;clear h5 h6 a0 a1 a2 a3 a4 a5 a6 a7 a8;go_wp2_with(refine qE rfl 126 (Operand.tmp 4) _ rfl (w.heap.size+1) _ rfl rfl 126 _ lh.o bp rfl (by simp[Value.oneCell']) ?_)
 refine aR rfl rfl rfl (qJ _ _ _ _ _ _ lh.o) underlying126 rfl bp ?_;refine⟨rfl,HN.o.ag (Ch.kj lh.o qa (nM t)) ?_,HC.o.row Y _⟩;have q0:=Ul 0 Y;have q1:=Ul 1 Y;have q2:=Ul 2 Y;have q3:=Ul 3 Y;intro x hx;simp[NB.soft]at hx⊢;omega
theorem PN(ht:0≤t∧t≤16384)(u z m:Int)(q:ByteArray)(w:qo)(h:jX w N t k pg):
 qw qx 139 #[qi (some ⟨N.n,0,none⟩),ql #[U Z 7,U Z u,U Z 0,U Z z,U Z m,U Z 0,qg q,U Z 0,qh none 0 0]] w fun e J=>
  e=qm (ql #[U Z 0,U Z t,qg ⟨#[]⟩,U Z 0,qh none 0 0,U Z 0,U Z 0,U Z 0])∧qz w.heap.size w J:=by
 have HH:=Hd h;have HT:=Hd ht;have HW:=Hd (aP w (qn (bF 7 u 0 z m 0 q) 129) (qn bG 126));have hta:=WC;have htb:=WD;clear h ht;go_enter func139,ntmps139;go_wp2_with fail
 generalize(w.alloc (qn (bF 7 u 0 z m 0 q) 129)).alloc (qn bG 126)=W at HW⊢;obtain⟨hA,hB,hb,hz⟩:=HW.o;have HB:=Hd hb;have HA:=Hd hA;have fu:=Hd hB;clear hA hB hb HW hz;refine(AP u 7 0 z m 0 (.inr rfl) q _ (HH.o.ag (Ch.af (M:=[]) HB.o) qc)).mono ?_;rintro e1 w1⟨rfl,h1⟩;have cq:=Hd (ai HB.o h1);have Lm:=Hd (ae h1 HA.o);have uV:=Hd (ae h1 fu.o);have H1:=Hd (HH.o.ag (Ch.af (M:=[]) cq.o) qc);obtain⟨a0,a1,a2,a3,a4,a5,a6,a7,a8⟩:=eX Lm.o;clear h1;go_wp2_with fail
 refine(PJ N.o t HT.o u z m q _ H1.o.ord).mono ?_;rintro e2 w2⟨rfl,h6⟩;have lh:=Hd (ae h6 uV.o);have HC:=Hd (ai cq.o h6);clear h6 a0 a1 a2 a3 a4 a5 a6 a7 a8;go_wp2_with(refine qE rfl 126 (Operand.tmp 4) _ rfl (w.heap.size+1) _ rfl rfl 126 _ lh.o bp rfl (by simp[Value.oneCell']) ?_)
 refine aR rfl rfl rfl (qJ _ _ _ _ _ _ lh.o) underlying126 rfl bp ?_;exact⟨rfl,aj HC.o Y _⟩
theorem Ln(w:qo)(h:jX w N t k pg):qw qx 138 #[qi (some ⟨N.h,0,none⟩)] w fun e J=>e=qm (qk false)∧w=J:=by
 obtain⟨h0,_⟩:=cp h.hand;clear h;go_enter func138,ntmps138;go_wp2
 go_ret;exact⟨rfl,rfl⟩
theorem sx(kd u e p z m:Int)(q:ByteArray)(b0 b1 b2 b3 b4 b5 b6 b7:qp)(ho:(#[b0,b1,b2,b3,b4,b5,b6,b7]:Array qp).all (·.oneCell')=true)(R:qo→Prop)(w:qo)(h:jX w N t k pg)
 (hR: ∀w2 b cs old,R w2→w2.heap[b]? =some (qn old 126 (0,0))→w.heap.size≤b→R (w2.setRow b cs))
 (HD: ∀w1,qz w.heap.size w w1→qw qx 139 #[qi (some ⟨N.n,0,none⟩),ql (bF kd u e p z m q)] w1 fun r J=>r=qm (ql #[b0,b1,b2,b3,b4,b5,b6,b7])∧R J∧ ∀b o,w.heap.size≤b→w1.heap[b]? =some o→J.heap[b]? =some o):
 qw qx 86 #[qi (some ⟨N.h,0,none⟩),ql (bF kd u e p z m q),U Z 0] w fun r J=>r=qm (qj #[ql #[b0,b1,b2,b3,b4,b5,b6,b7],qk true])∧R J:=by
 have HW:=Hd (aP w (qn (bF kd u e p z m q) 129) (qn bG 126));have HH:=Hd h;have HR:=Hd hR;have mO:=Hd HD;have HO:=Hd ho;clear h hR HD ho;go_enter func86,ntmps86;go_wp2_with fail
 generalize(w.alloc (qn (bF kd u e p z m q) 129)).alloc (qn bG 126)=W at HW⊢;obtain⟨hA,hB,hb,hz⟩:=HW.o;have HB:=Hd hb;have HA:=Hd hA;have fu:=Hd hB;have H1:=Hd (HH.o.ag (Ch.af (M:=[]) HB.o) qc);obtain⟨a0,a1,a2,a3,a4,a5,a6,a7,a8⟩:=eX HA.o;obtain⟨h0,_⟩:=cp H1.o.hand;clear hA hB hb HW hz;refine(Ln _ H1.o).mono ?_;rintro e1 w1⟨rfl,rfl⟩;go_wp2_with fail
 go_still_tail 5,qd
 have az:qy (qz w.heap.size w W.drew):=Hd HB.o.drew;have oE:qy (W.drew.heap[w.heap.size+1]? =some (qn bG 126)):=Hd fu.o;change wpList _ _ _ _ _ W.drew
 generalize W.drew=W1 at az oE⊢;clear a0 a1 a2 a3 a4 a5 a6 a7 a8 h0;go_wp2_with fail
 refine(mO.o _ az.o).mono ?_;rintro e2 w2⟨rfl,h5,h6⟩;have Ss:=Hd (h6 _ _ Y oE.o);have H5:=Hd (HR.o w2 _ #[b0,b1,b2,b3,b4,b5,b6,b7] _ h5 Ss.o Y);clear h5 h6;go_wp2_with(refine qE rfl 126 (Operand.tmp 6) _ rfl (w.heap.size+1) _ rfl rfl 126 _ Ss.o bp rfl HO.o ?_)
 refine aY rfl rfl rfl (qJ _ _ _ _ _ _ Ss.o) underlying126 rfl bp ?_;exact⟨rfl,H5.o⟩
theorem jX.lt(h:jX w N t k pg): ∀x∈N.soft,x<w.heap.size:=by
 have h0:N.o<w.heap.size:=qK h.ord;have hm: ∀j,j<4→N.m j<w.heap.size:=fun j hj=>an.lt (h.ig j hj).map;intro x hx;simp[NB.soft]at hx;rcases hx with rfl|rfl|rfl|rfl|rfl
 ·exact h0
 all_goals exact hm _ Y
theorem jX.fO(h:jX w N t k pg){b:Nat}(hb:w.heap.size≤b): ∀x∈N.soft,x∉[b]:=fun x hx=>by have:=h.lt x hx;simp;omega
theorem yr(i:Nat)(hi:i<4)(p:Int)(hp:0≤p∧p<4096)(s:ByteArray)(hs:s.size≤4096)(hk:k<3000)(hg:pg i p=none)(z m:Int)(w:qo)(h:jX w N t k pg):
 qw qx 86 #[qi (some ⟨N.h,0,none⟩),ql (bF 1 (i:Nat) 0 p z m s),U Z 0] w fun r J=>r=qm (qj #[ql bG,qk true])∧jX J N t (k+1) (mg pg i p s)∧Ch N.soft w J:=by
 refine sx 1 (i:Nat) 0 p z m s _ _ _ _ _ _ _ _ (by simp[Value.oneCell']) (fun J=>jX J N t (k+1) (mg pg i p s)∧Ch N.soft w J) w h ?_ ?_
 ·rintro w2 b cs old⟨h1,h2⟩hb AL;exact⟨h1.ag (Ch.kj hb qa cs) (h.fO AL),h2.row AL cs⟩
 ·intro w1 hb1;have h1:=h.ag (Ch.af (M:=[]) hb1) qc;refine(Ll i hi p hp s hs hk hg z m w1 h1).mono ?_;rintro e w2⟨rfl,h5,h6⟩;refine⟨rfl,⟨h5,(Ch.af hb1).aq (h6.mono (by simp;exact NB.PK hi))⟩,fun b o AL ho=>h6.heap ho ?_⟩;have:=h.lt _ (NB.PK hi);simp;omega
theorem Lo(ht:0≤t∧t<16384)(u z m:Int)(q:ByteArray)(w:qo)(h:jX w N t k pg):
 qw qx 86 #[qi (some ⟨N.h,0,none⟩),ql (bF 6 u 0 z m 0 q),U Z 0] w fun r J=>r=qm (qj #[ql (nM t),qk true])∧jX J N (t+1) k pg∧Ch N.soft w J:=by
 refine sx 6 u 0 z m 0 q _ _ _ _ _ _ _ _ (by simp[Value.oneCell']) (fun J=>jX J N (t+1) k pg∧Ch N.soft w J) w h ?_ ?_
 ·rintro w2 b cs old⟨h1,h2⟩hb AL;exact⟨h1.ag (Ch.kj hb qa cs) (h.fO AL),h2.row AL cs⟩
 ·intro w1 hb1;have h1:=h.ag (Ch.af (M:=[]) hb1) qc;refine(PM ht u z m q w1 h1).mono ?_;rintro e w2⟨rfl,h5,h6⟩;refine⟨rfl,⟨h5,(Ch.af hb1).aq (h6.mono (by simp[NB.soft]))⟩,fun b o AL ho=>h6.heap ho ?_⟩;have:=h.lt N.o (by simp[NB.soft]);simp;omega
theorem AQ(i:Nat)(hi:i<4)(p:Int)(hp:0≤p∧p<4096)(s:ByteArray)(hg:pg i p=some s)(z m:Int)(q:ByteArray)(w:qo)(h:jX w N t k pg):
 qw qx 86 #[qi (some ⟨N.h,0,none⟩),ql (bF 3 (i:Nat) 0 p z m q),U Z 0] w fun r J=>r=qm (qj #[ql (tT s),qk true])∧qz w.heap.size w J:=by
 refine sx 3 (i:Nat) 0 p z m q _ _ _ _ _ _ _ _ (by simp[Value.oneCell']) (fun J=>qz w.heap.size w J) w h ?_ ?_
 ·rintro w2 b cs old h1 hb AL;exact aj h1 AL cs
 ·intro w1 hb1;have h1:=h.ag (Ch.af (M:=[]) hb1) qc;refine(PL i hi p hp s hg z m q w1 h1).mono ?_;rintro e w2⟨rfl,h6⟩;exact⟨rfl,ai hb1 h6,fun b o AL ho=>ae h6 ho⟩
theorem Lp(ht:0≤t∧t≤16384)(u z m:Int)(q:ByteArray)(w:qo)(h:jX w N t k pg):
 qw qx 86 #[qi (some ⟨N.h,0,none⟩),ql (bF 7 u 0 z m 0 q),U Z 0] w fun r J=>r=qm (qj #[ql (nM t),qk true])∧qz w.heap.size w J:=by
 refine sx 7 u 0 z m 0 q _ _ _ _ _ _ _ _ (by simp[Value.oneCell']) (fun J=>qz w.heap.size w J) w h ?_ ?_
 ·rintro w2 b cs old h1 hb AL;exact aj h1 AL cs
 ·intro w1 hb1;have h1:=h.ag (Ch.af (M:=[]) hb1) qc;refine(PN ht u z m q w1 h1).mono ?_;rintro e w2⟨rfl,h6⟩;exact⟨rfl,ai hb1 h6,fun b o AL ho=>ae h6 ho⟩
