/- Part 36 of the texts that the law's walk needs. -/
import Derived.Test.YtimabpfjjpjfjaaGreatDoorM20
import Derived.Test.YtimabpfjjpjfjaaGreatDoorM35
set_option maxHeartbeats 3200000
set_option maxRecDepth 100000
set_option linter.all false
open Go renaming World→qo
open Go.Value renaming pointer→qi,agg→ql,int→U,slice→qh
open Go.Obj renaming cells→qn
open Go.Ending renaming returned→qm
open Go.IntKind renaming i64→Z
open Go.RowKit renaming Hid→qy
namespace Go.Proofs.YtimabpfjjpjfjaaGreatDoor
open Tryz
namespace TopW
open Go.RowKit OpW OpP
variable{w J:qo}{M:List Nat}{B:SB}{V:SV}
theorem zJ{fn:Func}{p u v:Tmp}{ty:TypeId}(h:fn.results=#[.cell p ty,.tmp u,.tmp v])(tmps:Array Value)(P:Program)(w:qo):
 (results fn tmps).run P w=
  ((asAddr (tmps.getD p undef)).run P w).andThen fun a w₁=>((loadVar ty a).run P w₁).andThen fun x w₂=> .ok (.tuple #[x,tmps.getD u undef,tmps.getD v undef]) w₂:=by
 simp only[results,h];simp[Sem.run_bind,Result.andThen]
theorem QS{P:Program}{fn:Func}{R:Ending→qo→Prop}{a:Act}{w:qo}{p u v:Tmp}{ty:TypeId}{g:Nat}{cs:Array Value}{d:TypeDesc}{t:TypeId}{fr:Nat×Nat}(Bz:fn.results=#[.cell p ty,.tmp u,.tmp v])
 (hp:a.tmps.getD p undef=qi (some ⟨g,0,none⟩)) (hd0:a.defers=[]) (hg:w.heap[g]? =some (qn cs t fr)) (hu:P.underlying ty=some d) (hd:(match d with| .struct _| .array _ _=>true|_=>false)=true)
 (hi:(P.info? ty).map (·.size)=some cs.size) (hR:R (qm (.tuple #[ql cs,a.tmps.getD u undef,a.tmps.getD v undef])) w):bodyPost P fn R .ret a w:=
 xB (by rw[zJ Bz,hp];simp[asAddr,Result.andThen,run_loadVar_row w g t ty cs fr d hg hu hd hi]) hd0 hR
def Ce(s:ByteArray)(r:Rec):Prop:=s.size≤100000∧mI (gG fq s.data.toList)=some r
theorem GR(w:qo):(zeroValue 443).run prog w= .ok (.nilFunc) w:=by rfl
theorem LS(r:Rec)(s:ByteArray)(ht:Ce s r)(vi:0≤r.cl∧r.cl<8)(hk:InoW.kI r.k)(K:FuncId)(hK:doG r.k=some K)(CD: ∀args W,(callFunc K args).run prog W= .ok (.enter K args) W)
 (V':SV) (jJ:(dQ V.O r.cl).s<r.sq) (rc rh n:Int) (hn:0≤n∧n<16384) (hVn:V.n=n) (hO:V'.O=V.O)
 (HK: ∀(mv:Value) (w:qo),eH w B {V with n:=n+1}→Calls prog K #[qi (some ⟨B.st,0,none⟩),U Z n,ql (ju r.cl r.sq r.k r.p r.t r.sz r.h r.o r.d r.tk r.i mv)] w fun e J=>e=qm (ql #[U Z rc,U Z rh])∧eH J B V'∧Ch B.soft w J)
 (w:qo) (hf:Fl w) (hB: ∀x∈B.soft,10≤x) (h:eH w B V):
 Calls prog 250 #[qi (some ⟨B.st,0,none⟩),U Z n,U Z 1,.string s] w fun e J=>e=qm (.tuple #[ql #[U Z rc,U Z rh],.bool true,U Z 0])∧
  eH J B {V' with O:=fun z=>if z=r.cl then some ⟨r.sq,rc,rh⟩else V.O z}∧Ch B.soft w J:=by
 subst hVn;have ZK:=jJ;have HS:=Hd h;have dO:=Hd h.lt;have HK':=Hd HK;have HT:=Hd ht;have HSE:=Hd jJ;have Lc:=Hd hK;have Ti:=Hd CD;have bu:=Hd (aa w (qn #[U Z 0,U Z 0] 279));have yz:=Hd (qA w (qn #[U Z 0,U Z 0] 279));have au:=Hd (HS.o.grow bu.o);have HF0:=Hd (hf.ag bu.o);obtain⟨s0,s1,s2,s3⟩:=au.o.cells;have e3:=cn au.o.head 3;have uY: ¬16384≤V.n:=Y;clear h ht jJ hK CD HK;go_enter func250,ntmps250;go_wp2_with fail
 generalize w.alloc (qn #[U Z 0,U Z 0] 279)=W at bu yz au HF0 s0 s1 s2 s3 e3⊢;have sT:w.heap.size≠B.st:=by have:=dO.o B.st (by simp[SB.soft]);omega
 have zw:=Hd (av (i:=3) au.o.head (U Z (V.n+1)));have fF:qy (Ch [B.st] W (W.setCell ⟨B.st,3,none⟩ (U Z (V.n+1)))):=Hd (Ch.dn au.o.head qa 3 _);have dZ:=Hd (au.o.Jb fF.o (by have:=zw.o;simpa [stC]using this));have oG:=Hd (fF.o.heap yz.o (by simpa using sT))
 have Zp:qy (Fl (W.setCell ⟨B.st,3,none⟩ (U Z (V.n+1)))):=Hd (fun k h1 h2=>by
  rw[←HF0.o k h1 h2]
  obtain⟨hx,_⟩: ∃o,W.heap[7]? =some o:=by
   have:=xv _ _ (HF0.o k h1 h2);exact⟨_,Array.getElem?_eq_getElem this⟩
  unfold World.cell?;rw[fF.o.block _ (xv _ _ (HF0.o k h1 h2)) (by have:=hB B.st (by simp[SB.soft]);simp;omega)])
 have BP:qy (Ch B.soft w (W.setCell ⟨B.st,3,none⟩ (U Z (V.n+1)))):=Hd (Ch.pre bu.o (fF.o.mono (by simp[SB.soft])));clear s0 s1 s2 s3 e3 zw fF au yz HF0;generalize W.setCell ⟨B.st,3,none⟩ (U Z (V.n+1))=W1 at dZ oG Zp BP⊢;refine(eU s HT.o.1 W1 Zp.o).mono ?_;rintro e w2⟨r',x,oa,nn,cc,rfl,Iq,Eu,oQ,hb2,gU⟩;rw[HT.o.2]at gU;rcases gU with⟨h1,h2⟩|⟨h1,_⟩
 rotate_left
 ·cases h1
 injection h1 with h1
 subst h1 h2;have cX:=Hd (dZ.o.grow hb2);have eB:=Hd (ae hb2 oG.o);have mC:=Hd (BP.o.step hb2);clear Iq Eu oQ hb2 dZ oG BP Zp;go_wp2_with fail
 obtain⟨ob,rC⟩: ∃ob,w2.heap.size=ob:=⟨_,rfl⟩;have mx:qy ((w2.alloc (qn (ju r.cl r.sq r.k r.p r.t r.sz r.h r.o r.d r.tk r.i (qh oa nn cc)) 61)).heap[w2.heap.size]? =some (qn (ju r.cl r.sq r.k r.p r.t r.sz r.h r.o r.d r.tk r.i (qh oa nn cc)) 61 (0,0))):=Hd (qA _ _);have eP:=Hd (cX.o.grow (aa w2 (qn (ju r.cl r.sq r.k r.p r.t r.sz r.h r.o r.d r.tk r.i (qh oa nn cc)) 61)));have eE:=Hd (ae (aa w2 (qn (ju r.cl r.sq r.k r.p r.t r.sz r.h r.o r.d r.tk r.i (qh oa nn cc)) 61)) eB.o);have fY:=Hd (mC.o.alloc (qn (ju r.cl r.sq r.k r.p r.t r.sz r.h r.o r.d r.tk r.i (qh oa nn cc)) 61))
 generalize w2.alloc (qn (ju r.cl r.sq r.k r.p r.t r.sz r.h r.o r.d r.tk r.i (qh oa nn cc)) 61)=W3 at mx eP eE fY⊢;rw[rC]at mx⊢;clear rC cX eB mC;obtain⟨s0,s1,s2,s3⟩:=eP.o.cells;obtain⟨o0,o1,o2,o3,o4,o5,o6,o7,o8,o9,o10,o11⟩:=bP mx.o;have adX:qy (∀m,zH (W3.drewN m) B.ob B.om V.O):=Hd fun m=>eP.o.o.ag (M:=[]) ((Ch.af (below_drewN (Below.refl _ _) m))) qc;have sX:qy (decide (r.sq≤(dQ V.O r.cl).s)=false):=Hd (by have:=HSE.o;simp;omega)
 go_quiet ((go_at_call 318;exact vF (Eg r.cl r.sq vi false sX.o _ (adX.o _))))
 go_wp2_with fail
 have gH:qy ((W3.drewN nq).heap[ob]? =some (qn (ju r.cl r.sq r.k r.p r.t r.sz r.h r.o r.d r.tk r.i (qh oa nn cc)) 61 (0,0))):=Hd mx.o;have cA:qy (eH (W3.drewN nq) B {V with n:=V.n+1}):=Hd (eP.o.ag (M:=[]) (Ch.af (below_drewN (Below.refl _ _) nq)) qc);have pj:qy ((W3.drewN nq).heap[w.heap.size]? =some (qn #[U Z 0,U Z 0] 279 (0,0))):=Hd eE.o;have eM:qy (Ch B.soft w (W3.drewN nq)):=Hd (fY.o.step (below_drewN (Below.refl _ _) nq));clear eP mx eE fY adX s0 s1 s2 s3 o0 o1 o2 o3 o4 o5 o6 o7 o8 o9 o10 o11;generalize W3.drewN nq=W4 at gH cA pj eM⊢
 have ZL:qy (∀X,Ch B.soft W4 X→X.cell? ⟨ob,2,none⟩=some (U Z r.k)∧X.heap[ob]? =some (qn (ju r.cl r.sq r.k r.p r.t r.sz r.h r.o r.d r.tk r.i (qh oa nn cc)) 61 (0,0))):=Hd fun X hX=>by
  have hh:=hX.bC _ _ _ _ gH.o qa;exact⟨(bP hh).2.2.1,hh⟩
 have au:qy (Ch B.soft W4 W4.drew):=Hd (Ch.refl _ _).drew;refine aB 9 10 (fun X=>Ch B.soft W4 X) qd rfl ?_;refine tL 1 68 ?_ au.o ?_ (tL 2 69 ?_ au.o ?_ (tL 4 71 ?_ au.o ?_ (tL 5 72 ?_ au.o ?_ (tL 6 73 ?_ au.o ?_ ?_))))
 iterate 5
  rotate_left
  ·intro wq hq;obtain⟨o2,oh⟩:=ZL.o wq hq;obtain⟨o0,o1,o2,o3,o4,o5,o6,o7,o8,o9,o10,o11⟩:=bP oh;exact bJ
 simp only[pS,aS,sZ,sS];have QT:=Hd cA.o.lt;have HSd:qy (eH W4.drew B {V with n:=V.n+1}):=Hd (cA.o.ag (M:=[]) (Ch.refl _ _).drew qc);refine oP 0 8 qd rfl rfl rfl rfl (al (some 67) (f:=319) (args:=#[]) rfl qf (fun u X=> ∃m n,u= .map (some m)∧an InoW.iV InoW.kI ZJ X m n doG∧Below (W4.drew).heap.size (W4.drew) X) ((yD (W4.drew)).mono fun e J ⟨m,n,h1,h2,h3⟩=>⟨_,h1,m,n,rfl,h2,h3⟩) ?zqc) (aw (some 13) (v:=qi (some ⟨(W4.drew).heap.size,0,none⟩)) (J:=(W4.drew).alloc (qn #[U Z 0,U Z 0] 279)) rfl qf ⟨fun _=>au.o.alloc _,?zqa⟩)
 case' zqc=>
  rintro u w5⟨m,mn,rfl,hm,hb5⟩;have ou:=Hd hm;have dP:qy (Ch B.soft W4 w5):=Hd (au.o.step hb5);have br:qy (eH w5 B {V with n:=V.n+1}):=Hd (HSd.o.grow hb5);clear hm hb5;refine⟨fun _=>dP.o,?_⟩;simp only[pS,aS,sZ,sS];refine oP 3 8 qd rfl rfl rfl rfl (aw (some 70) (v:=ZJ K) (J:=w5) rfl (by go_simp;have hL:=an.look ou.o InoW.sW underlying444 (GR w5) r.k hk false;rw[Lc.o]at hL;unfold InoW.iV at hL;rw[hL];rfl) ⟨fun _=>dP.o,?zql⟩) (aw (some 13) (v:=qi (some ⟨(w5).heap.size,0,none⟩)) (J:=(w5).alloc (qn #[U Z 0,U Z 0] 279)) rfl qf ⟨fun _=>dP.o.alloc _,?zqb⟩)
  case' zql=>
   simp only[pS,aS,sZ,sS];clear ou;refine oP 7 8 qd rfl rfl rfl rfl (al (some 74) (f:=K) (args:=#[qi (some ⟨B.st,0,none⟩),U Z V.n,ql (ju r.cl r.sq r.k r.p r.t r.sz r.h r.o r.d r.tk r.i (qh oa nn cc))]) rfl (by go_simp;exact Ti.o _ _) (fun u X=>u=ql #[U Z rc,U Z rh]∧eH X B V'∧Ch B.soft (w5) X) ((HK'.o _ (w5) br.o).mono fun e J ⟨h1,h2⟩=>⟨_,h1,rfl,h2⟩) ?zqd) (aw (some 13) (v:=qi (some ⟨(w5).heap.size,0,none⟩)) (J:=(w5).alloc (qn #[U Z 0,U Z 0] 279)) rfl qf ⟨fun _=>dP.o.alloc _,?zqe⟩)
   case' zqd=>
    rintro u w7⟨rfl,QU,Jf⟩;have EG:qy (Ch B.soft W4 w7):=Hd (dP.o.aq Jf);have HSy:=Hd QU;clear QU Jf;refine⟨fun _=>EG.o,?_⟩;simp only[pS,aS,sZ,sS];refine ay 8 qd rfl rfl (aw (some 13) (v:=qi (some ⟨(w7).heap.size,0,none⟩)) (J:=(w7).alloc (qn #[U Z 0,U Z 0] 279)) rfl qf ⟨fun _=>EG.o.alloc _,?zqf⟩);simp only[pS,aS,sZ,sS]
    have oF:qy ((w7.alloc (qn #[U Z 0,U Z 0] 279)).heap[w7.heap.size]? =some (qn #[U Z 0,U Z 0] 279 (0,0))∧Ch B.soft W4 (w7.alloc (qn #[U Z 0,U Z 0] 279))∧W4.heap.size≤w7.heap.size∧eH (w7.alloc (qn #[U Z 0,U Z 0] 279)) B V'):=Hd ⟨qA _ _,EG.o.alloc _,EG.o.size,HSy.o.grow (aa _ _)⟩;clear EG HSy;generalize w7.alloc (qn #[U Z 0,U Z 0] 279)=wy at oF⊢;generalize w7.heap.size=pb at oF⊢
   case' zqe=>
    simp only[pS,aS,sZ,sS];have ee:qy (Ch B.soft W4 ((w5).alloc (qn #[U Z 0,U Z 0] 279))):=Hd (dP.o.alloc _);have dT:qy (eH ((w5).alloc (qn #[U Z 0,U Z 0] 279)) B {V with n:=V.n+1}):=Hd (br.o.grow (aa _ _));have za:qy (((w5).alloc (qn #[U Z 0,U Z 0] 279)).heap[(w5).heap.size]? =some (qn #[U Z 0,U Z 0] 279 (0,0))∧W4.heap.size≤(w5).heap.size):=Hd ⟨qA _ _,dP.o.size⟩;generalize(w5).alloc (qn #[U Z 0,U Z 0] 279)=w6 at ee dT za⊢;generalize(w5).heap.size=pb at za⊢
    refine ay 7 qd rfl rfl (al (some 74) (f:=K) (args:=#[qi (some ⟨B.st,0,none⟩),U Z V.n,ql (ju r.cl r.sq r.k r.p r.t r.sz r.h r.o r.d r.tk r.i (qh oa nn cc))]) rfl (by go_simp;exact Ti.o _ _) (fun u X=>u=ql #[U Z rc,U Z rh]∧eH X B V'∧Ch B.soft (w6) X) ((HK'.o _ (w6) dT.o).mono fun e J ⟨h1,h2⟩=>⟨_,h1,rfl,h2⟩) ?zqg);rintro u wy⟨rfl,QU,Jf⟩;have EG:qy (Ch B.soft W4 wy):=Hd (ee.o.aq Jf);have oF:qy (wy.heap[pb]? =some (qn #[U Z 0,U Z 0] 279 (0,0))∧Ch B.soft W4 wy∧W4.heap.size≤pb∧eH wy B V'):=Hd ⟨Jf.heap za.o.1 (fun hx=>qZ (QT.o _ hx) (by have:=za.o.2;omega)),EG.o,za.o.2,QU⟩;clear QU Jf
    refine⟨fun _=>EG.o,?_⟩;simp only[pS,aS,sZ,sS];clear EG
  case' zqb=>
   simp only[pS,aS,sZ,sS];have ee:qy (Ch B.soft W4 ((w5).alloc (qn #[U Z 0,U Z 0] 279))):=Hd (dP.o.alloc _);have dT:qy (eH ((w5).alloc (qn #[U Z 0,U Z 0] 279)) B {V with n:=V.n+1}):=Hd (br.o.grow (aa _ _));have za:qy (((w5).alloc (qn #[U Z 0,U Z 0] 279)).heap[(w5).heap.size]? =some (qn #[U Z 0,U Z 0] 279 (0,0))∧W4.heap.size≤(w5).heap.size):=Hd ⟨qA _ _,dP.o.size⟩;have Wi:=Hd (ou.o.alloc (qn #[U Z 0,U Z 0] 279));generalize(w5).alloc (qn #[U Z 0,U Z 0] 279)=w6 at ee dT za Wi⊢;generalize(w5).heap.size=pb at za⊢
   refine ay 3 qd rfl rfl (aw (some 70) (v:=ZJ K) (J:=w6) rfl (by go_simp;have hL:=an.look Wi.o InoW.sW underlying444 (GR w6) r.k hk false;rw[Lc.o]at hL;unfold InoW.iV at hL;rw[hL];rfl) ⟨fun _=>ee.o,?zqh⟩);simp only[pS,aS,sZ,sS];refine ay 7 qd rfl rfl (al (some 74) (f:=K) (args:=#[qi (some ⟨B.st,0,none⟩),U Z V.n,ql (ju r.cl r.sq r.k r.p r.t r.sz r.h r.o r.d r.tk r.i (qh oa nn cc))]) rfl (by go_simp;exact Ti.o _ _) (fun u X=>u=ql #[U Z rc,U Z rh]∧eH X B V'∧Ch B.soft (w6) X) ((HK'.o _ (w6) dT.o).mono fun e J ⟨h1,h2⟩=>⟨_,h1,rfl,h2⟩) ?zqi);rintro u wy⟨rfl,QU,Jf⟩
   have EG:qy (Ch B.soft W4 wy):=Hd (ee.o.aq Jf);have oF:qy (wy.heap[pb]? =some (qn #[U Z 0,U Z 0] 279 (0,0))∧Ch B.soft W4 wy∧W4.heap.size≤pb∧eH wy B V'):=Hd ⟨Jf.heap za.o.1 (fun hx=>qZ (QT.o _ hx) (by have:=za.o.2;omega)),EG.o,za.o.2,QU⟩;clear QU Jf;refine⟨fun _=>EG.o,?_⟩;simp only[pS,aS,sZ,sS];clear EG
 case' zqa=>
  simp only[pS,aS,sZ,sS];have ee:qy (Ch B.soft W4 ((W4.drew).alloc (qn #[U Z 0,U Z 0] 279))):=Hd (au.o.alloc _);have dT:qy (eH ((W4.drew).alloc (qn #[U Z 0,U Z 0] 279)) B {V with n:=V.n+1}):=Hd (HSd.o.grow (aa _ _));have za:qy (((W4.drew).alloc (qn #[U Z 0,U Z 0] 279)).heap[(W4.drew).heap.size]? =some (qn #[U Z 0,U Z 0] 279 (0,0))∧W4.heap.size≤(W4.drew).heap.size):=Hd ⟨qA _ _,au.o.size⟩;generalize(W4.drew).alloc (qn #[U Z 0,U Z 0] 279)=w6 at ee dT za⊢;generalize(W4.drew).heap.size=pb at za⊢
  refine ay 0 qd rfl rfl (al (some 67) (f:=319) (args:=#[]) rfl qf (fun u X=> ∃m n,u= .map (some m)∧an InoW.iV InoW.kI ZJ X m n doG∧Below (w6).heap.size (w6) X) ((yD (w6)).mono fun e J ⟨m,n,h1,h2,h3⟩=>⟨_,h1,m,n,rfl,h2,h3⟩) ?zqj);rintro u w5⟨m,mn,rfl,hm,hb5⟩;have ou:=Hd hm;have dP:qy (Ch B.soft W4 w5):=Hd (ee.o.step hb5);have br:qy (eH w5 B {V with n:=V.n+1}):=Hd (dT.o.grow hb5);have Iu:qy (w5.heap[pb]? =some (qn #[U Z 0,U Z 0] 279 (0,0))∧W4.heap.size≤pb):=Hd ⟨ae hb5 za.o.1,za.o.2⟩;clear hm hb5;refine⟨fun _=>dP.o,?_⟩;simp only[pS,aS,sZ,sS]
  refine ay 3 qd rfl rfl (aw (some 70) (v:=ZJ K) (J:=w5) rfl (by go_simp;have hL:=an.look ou.o InoW.sW underlying444 (GR w5) r.k hk false;rw[Lc.o]at hL;unfold InoW.iV at hL;rw[hL];rfl) ⟨fun _=>dP.o,?zqk⟩);simp only[pS,aS,sZ,sS];refine ay 7 qd rfl rfl (al (some 74) (f:=K) (args:=#[qi (some ⟨B.st,0,none⟩),U Z V.n,ql (ju r.cl r.sq r.k r.p r.t r.sz r.h r.o r.d r.tk r.i (qh oa nn cc))]) rfl (by go_simp;exact Ti.o _ _) (fun u X=>u=ql #[U Z rc,U Z rh]∧eH X B V'∧Ch B.soft (w5) X) ((HK'.o _ (w5) br.o).mono fun e J ⟨h1,h2⟩=>⟨_,h1,rfl,h2⟩) ?zqo);rintro u wy⟨rfl,QU,Jf⟩
  have EG:qy (Ch B.soft W4 wy):=Hd (dP.o.aq Jf);have oF:qy (wy.heap[pb]? =some (qn #[U Z 0,U Z 0] 279 (0,0))∧Ch B.soft W4 wy∧W4.heap.size≤pb∧eH wy B V'):=Hd ⟨Jf.heap Iu.o.1 (fun hx=>qZ (QT.o _ hx) (by have:=Iu.o.2;omega)),EG.o,Iu.o.2,QU⟩;clear QU Jf;refine⟨fun _=>EG.o,?_⟩;simp only[pS,aS,sZ,sS];clear EG
 all_goals
  clear HK' HT HSE Lc Ti au HSd;refine ay 9 qd rfl rfl (dG rfl 279 _ _ rfl pb #[U Z rc,U Z rh] rfl rfl 279 _ oF.o.1 cZ rfl (by simp[Value.oneCell']) ⟨fun h=>qZ rfl h,?_⟩);refine aU qd ?_;have HRY:qy ((wy.setRow pb #[U Z rc,U Z rh]).heap[pb]? =some (qn #[U Z rc,U Z rh] 279 (0,0))):=Hd (qJ _ _ _ _ _ _ oF.o.1);have PA:qy (Ch B.soft W4 (wy.setRow pb #[U Z rc,U Z rh])):=Hd (oF.o.2.1.row oF.o.2.2.1 _);have HSY:qy (eH (wy.setRow pb #[U Z rc,U Z rh]) B V'):=Hd (oF.o.2.2.2.ag (Ch.kj oF.o.1 qa _) (fun x hx=>by have:=QT.o x hx;have:=oF.o.2.2.1;simp;omega));have HZY:=Hd oF.o.2.2.1;clear oF
  generalize wy.setRow pb #[U Z rc,U Z rh]=W5 at HRY PA HSY⊢
  have eV:qy (∀X,Ch [B.om] W5 X→X.cell? ⟨B.st,2,none⟩=some (qi (some ⟨B.ob,0,none⟩))∧X.cell? ⟨ob,0,none⟩=some (U Z r.cl)∧X.cell? ⟨ob,1,none⟩=some (U Z r.sq)∧X.cell? ⟨pb,0,none⟩=some (U Z rc)∧X.cell? ⟨pb,1,none⟩=some (U Z rh)):=Hd fun X hX=>by
   have n1:B.st∉[B.om]:=by
    have nd1:=HSY.o.nd;simp only[SB.soft,xC,qG,qQ,xt,not_or]at nd1;simp[nd1]
   have hs:=hX.heap HSY.o.head n1;have hh:=hX.bC _ _ _ _ (PA.o.bC _ _ _ _ gH.o qa) qa;have hp:=hX.heap HRY.o (by have:=QT.o B.om (by simp[SB.soft]);have:=HZY.o;simp;omega);exact⟨(kE hs).2.2.1,(bP hh).1,(bP hh).2.1,(cp hp).1,(cp hp).2⟩
  have br:qy (Ch [B.om] W5 W5.drew):=Hd (Ch.refl _ _).drew;have HSR:qy (eH W5.drew B V'):=Hd (HSY.o.ag (M:=[]) (Ch.refl _ _).drew qc);go_wp2_with fail
  refine aB 10 10 (fun X=>Ch [B.om] W5 X) qd rfl ?_;refine tN 0 75 ?_ br.o ?_ (tN 1 76 ?_ br.o ?_ (tN 2 77 ?_ br.o ?_ (tN 3 78 ?_ br.o ?_ (tN 4 79 ?_ br.o ?_ (tN 5 80 ?_ br.o ?_ (tN 6 81 ?_ br.o ?_ (tN 7 82 ?_ br.o ?_ (tN 8 83 ?_ br.o ?_ ?_))))))))
  iterate 9
   rotate_left
   ·intro wq hq;obtain⟨s2,q0,q1,p0,p1⟩:=eV.o wq hq;exact bJ
  simp only[pS,aS,sZ,sS];have QV:(dQ V'.O r.cl).s<r.sq:=by rw[hO];exact ZK
  refine ay 9 qd rfl rfl (al (some 84) (f:=320) (args:=#[qi (some ⟨B.ob,0,none⟩),U Z r.cl,U Z r.sq,ql #[U Z rc,U Z rh]]) rfl qf (fun u X=>u=U Z 0∧zH X B.ob B.om (fun z=>if z=r.cl then some ⟨r.sq,rc,rh⟩else V'.O z)∧Ch [B.om] W5.drew X) ((PF r.cl r.sq rc rh vi QV W5.drew HSR.o.o).mono fun e J ⟨h1,h2⟩=>⟨_,h1,rfl,h2⟩) ?_);rintro u w8⟨rfl,ho8,hc8⟩;have IQ:=Hd (br.o.aq hc8);have Jg:=Hd (HSR.o.QK hc8 ho8);have HP8:=Hd (eV.o w8 IQ.o);have HR8:=Hd (IQ.o.heap (PA.o.heap pj.o (fun hx=>qZ (dO.o _ hx) Y)) (by have:=dO.o B.om (by simp[SB.soft]);simp;omega))
  have fw:qy (Ch B.soft w w8):=Hd ((eM.o.aq PA.o).aq (IQ.o.mono (by simp[SB.soft])));refine⟨fun _=>IQ.o,?_⟩;simp only[pS,aS,sZ,sS];refine aU qd ?_;obtain⟨s2,q0,q1,p0,p1⟩:=HP8.o;clear ho8 hc8 IQ HSR br eV HSY PA HRY pj eM cA gH QV HP8;go_wp2_with(refine qE rfl 279 (Operand.tmp 8) _ rfl w.heap.size _ rfl rfl 279 _ HR8.o cZ rfl (by simp[Value.oneCell']) ?_)
  try simp only[Act.put]
  refine QS rfl rfl rfl (qJ _ _ _ _ _ _ HR8.o) underlying279 rfl cZ ?_;refine⟨rfl,?_,fw.o.row (Nat.le_refl _) _⟩;rw[←hO];exact Jg.o.ag (Ch.kj HR8.o qa _) (fun x hx=>by have:=dO.o x hx;simp;omega)
