/- Part 26 of the texts that the law's walk needs. -/
import Derived.Test.YtimabpfjjpjfjaaGreatDoorM11
import Derived.Test.YtimabpfjjpjfjaaGreatDoorM25
import Derived.Great.BuildSlice
set_option maxHeartbeats 3200000
set_option maxRecDepth 100000
set_option linter.all false
open Go renaming Value→qp,World→qo,Calls→qw,Addr→qt
open Go.Value renaming string→qg,int→U,slice→qh,agg→ql,tuple→qj,bool→qk
open Go.IntKind renaming i64→Z
open Go.Obj renaming cells→qn
open Go.RowKit renaming Below→qz,Hid→qy
open Go.Ending renaming returned→qm
namespace Go.Proofs.YtimabpfjjpjfjaaGreatDoor
open Tryz
open Tryz renaming prog→qx
namespace ConW
open Go.RowKit ConP
def da(x:Fm):List qp:=[qg (bs x.w),U Z x.k,U Z x.c,U Z x.o,qg (bs x.fs)]
def gB:Array qp:=(jk.flatMap da).toArray
structure PV(w:qo):Prop where
 cv:CV w
 fv: ∃t fr,w.heap[0]? =some (qn gB t fr)
theorem PV.ag{w J:qo}(h:PV w)(k:qz w.heap.size w J):PV J:=by
 obtain⟨h1,t,fr,h2⟩:=h;exact⟨h1.ag k,t,fr,(k.block _ (qK h2)).trans h2⟩
theorem PV.only{w J:qo}{b:Nat}(h:PV w)(k:ax b w J)(hb:Far b):PV J:=by
 obtain⟨h1,t,fr,h2⟩:=h;exact⟨h1.only k hb,t,fr,k.heap h2 (fun e=>hb.2.2.2 e.symm)⟩
theorem CV.fO{w:qo}(h:CV w){b:Nat}(hb:w.heap.size≤b):Far b:=by
 obtain⟨⟨t1,p1,h1⟩,⟨t2,p2,h2⟩,h3⟩:=h;have l1:=xv _ _ h1;have l2:=xv _ _ h2;simp only at l1 l2;refine⟨?_,?_,?_,?_⟩<;>omega
def dE:qp:=qh none 0 0
theorem BX:(prog.info? 106).map (·.size)=some 5:=qd
theorem dj{B g:Nat}{w J:qo}(h:qz B w J)(hg:B≤g)(cs:Array qp):qz B w (J.setRow g cs):=
 ⟨h.os,h.tape,h.output,by rw[setRow_size];exact h.size,fun k hk=>(xl J g k cs Y).trans (h.block k hk)⟩
theorem gV(w:qo)(o:Obj)(n:Nat)(hn:n=w.heap.size):(w.alloc o).heap[n]? =some o:=by subst hn;exact qA w o
theorem dX.load{w:qo}{b:Nat}{s:dK}{m c:qp}{z:Int}(h:dX w b s m z c):(loadVar 65 ⟨b,0,none⟩).run qx w= .ok (ql (aG s m z c)) w:=
 run_loadVar_row w b _ _ _ _ _ h underlying65 rfl stepSize
def vd(w:qo)(b:Nat)(x:Fm):Prop:=w.heap[b]? =some (qn (da x).toArray 106 (0,0))
theorem vd.ag{w J:qo}{b:Nat}{x:Fm}(h:vd w b x)(k:qz w.heap.size w J):vd J b x:=(k.block b (qK h)).trans h
theorem vd.load{w:qo}{b:Nat}{x:Fm}(h:vd w b x):(loadVar 106 ⟨b,0,none⟩).run qx w= .ok (ql (da x).toArray) w:=
 run_loadVar_row w b _ _ _ _ _ h underlying106 rfl BX
theorem vd.cells{w:qo}{b:Nat}{x:Fm}(h:vd w b x):w.cell? ⟨b,0,none⟩=some (qg (bs x.w))∧w.cell? ⟨b,1,none⟩=some (U Z x.k)∧w.cell? ⟨b,2,none⟩=some (U Z x.c)∧w.cell? ⟨b,3,none⟩=some (U Z x.o)∧w.cell? ⟨b,4,none⟩=some (qg (bs x.fs)):=
 ⟨by rw[qI h];rfl,by rw[qI h];rfl,by rw[qI h];rfl,by rw[qI h];rfl,by rw[qI h];rfl⟩
theorem Zm(x:Fm):(da x).toArray.all (·.oneCell')=true:=by simp[da,Value.oneCell']
theorem cells_one(s:dK)(z:Int):(aG s dE z dE).all (·.oneCell')=true:=by simp[aG,dE,Value.oneCell']
theorem AT(x:Fm)(w:qo):qw qx 50 #[ql (da x).toArray] w fun e J=>e=qm (ql (aG (fQ x.k x.c x.o) dE 0 dE))∧qz w.heap.size w J:=by
 show qw _ _ #[ql #[qg (bs x.w),U Z x.k,U Z x.c,U Z x.o,qg (bs x.fs)]] _ _;go_enter func50,ntmps50;go_wp2_with(((with_reducible(refine wpList_store_rowTo rfl 65 (Operand.tmp 3) (Operand.tmp 6) rfl rfl (w.heap.size+1+1) (aG (fQ x.k 0 0) dE 0 dE) ?_ ?_ 65 (aG (fQ 0 0 0) dE 0 dE) ?_ ?_ ?_ ?_ ?_));(·rfl);(·rfl);(·exact gV _ _ _ qc);(·exact stepSize);(·rfl);(·exact cells_one _ _)))
 obtain⟨A,hA⟩: ∃A:Obj,A=qn (da x).toArray 106:=⟨_,rfl⟩;obtain⟨Zq,hZ⟩: ∃Zq:Obj,Zq=qn (aG (fQ 0 0 0) dE 0 dE) 65:=⟨_,rfl⟩;obtain⟨W3,hW⟩: ∃W3,W3=(((w.alloc A).alloc Zq).alloc Zq).setRow (w.heap.size+1+1) (aG (fQ x.k 0 0) dE 0 dE):=⟨_,rfl⟩
 have HG:qy (dX W3 (w.heap.size+1+1) (fQ x.k 0 0) dE 0 dE):=Hd (by
  rw[hW];exact qJ _ _ _ _ _ _ ((gV _ _ _ qc).trans (qX some hZ)))
 have HR:qy (dX W3 (w.heap.size+1) (fQ 0 0 0) dE 0 dE):=Hd (by
  rw[hW];refine(xl _ _ _ _ Y).trans ((xm _ _ qc).trans ?_);exact(gV _ _ _ qc).trans (qX some hZ))
 have HF:qy (vd W3 w.heap.size x):=Hd (by
  rw[hW];refine(xl _ _ _ _ Y).trans ((xm _ _ (by simp;omega)).trans ((xm _ _ qc).trans ?_));exact(gV _ _ _ rfl).trans (qX some hA))
 have HB:qy (qz w.heap.size w W3):=Hd (by
  rw[hW];exact dj ((((Below.refl _ w).alloc (Nat.le_refl _) A).alloc qc Zq).alloc (by simp;omega) Zq) Y _)
 rw[hA,hZ]at hW;change Code.wp _ _ _ _ ((((w.alloc (qn (da x).toArray 106)).alloc (qn (aG (fQ 0 0 0) dE 0 dE) 65)).alloc (qn (aG (fQ 0 0 0) dE 0 dE) 65)).setRow (w.heap.size+1+1) (aG (fQ x.k 0 0) dE 0 dE))
 rw[←hW];clear hW hA hZ;obtain⟨g,hg⟩: ∃g,g=w.heap.size+1+1:=⟨_,rfl⟩;obtain⟨rb,rk⟩: ∃rb,rb=w.heap.size+1:=⟨_,rfl⟩;obtain⟨fb,mJ⟩: ∃fb,fb=w.heap.size:=⟨_,rfl⟩;rw[←hg]at HG;rw[←rk]at HR;rw[←mJ]at HF;have lS:qy (g≠rb∧w.heap.size≤g∧w.heap.size≤rb∧g≠fb):=Hd Y;rw[←hg,←rk,←mJ];clear hg rk mJ;obtain⟨f0,f1,f2,f3,f4⟩:=HF.o.cells;have g4:W3.cell? ⟨g,4,none⟩=some (U Z 0):=HG.o.cell 4 _ rfl;have g7:W3.cell? ⟨g,7,none⟩=some (U Z 0):=HG.o.cell 7 _ rfl;have k4:=HG.o.free 4;have k7:=HG.o.free 7;have bd:=lS.o.2.2.2
 go_region
 have gH:qy (ax g W3 ((W3.setCell ⟨g,4,none⟩ (U Z x.c)).setCell ⟨g,7,none⟩ (U Z x.o)).drew):=Hd (((ax.refl g W3).setCell 4 _).setCell 7 _).drew
 have HG4:qy (dX ((W3.setCell ⟨g,4,none⟩ (U Z x.c)).setCell ⟨g,7,none⟩ (U Z x.o)).drew g (fQ x.k x.c x.o) dE 0 dE):=Hd (by
  have h1:=heap_setCell_same W3 g 4 _ _ (U Z x.c) HG.o;exact heap_setCell_same _ g 7 _ _ (U Z x.o) h1)
 generalize((W3.setCell ⟨g,4,none⟩ (U Z x.c)).setCell ⟨g,7,none⟩ (U Z x.o)).drew=W4 at*;have pj:qy (dX W4 rb (fQ 0 0 0) dE 0 dE):=Hd (gH.o.heap HR.o (fun e=>lS.o.1 e.symm));have dp:qy (qz w.heap.size w W4):=Hd (HB.o.trans (gH.o.below lS.o.2.1 HB.o.size));have hld:=HG4.o.load;clear f0 f1 f2 f3 f4 g4 g7 k4 k7 bd;obtain⟨cs,ff⟩: ∃cs,cs=aG (fQ x.k x.c x.o) dE 0 dE:=⟨_,rfl⟩;have h1:cs.all (·.oneCell')=true:=by rw[ff];exact cells_one _ _
 have h2:(prog.info? 65).map (·.size)=some cs.size:=by rw[ff];exact stepSize
 have h3:(aG (fQ 0 0 0) dE 0 dE).size=cs.size:=by rw[ff];rfl
 have gx:qy (qz w.heap.size w (W4.setRow rb cs)):=Hd (dj dp.o lS.o.2.2.1 _);have kS:qy ((W4.setRow rb cs).heap[rb]? =some (qn cs 65 (0,0))):=Hd (qJ _ _ _ _ _ _ pj.o);have Lu:=Hd ff;have MG:qy (W4.heap[g]? =some (qn cs 65 (0,0))):=Hd (by rw[ff];exact HG4.o);clear ff hld;have H1:=Hd h1;have H2:=Hd h2;have H3:=Hd h3;clear h1 h2 h3
 go_wp2_with(first|((with_reducible(refine wpList_load_row rfl 65 (Operand.tmp 3) rfl g ?_ 65 cs (0,0) _ ?_ underlying65 ?_ ?_ ?_));(·rfl);(·exact MG.o);(·rfl);(·exact H2.o))|((with_reducible(refine wpList_store_rowTo rfl 65 (Operand.tmp 2) (Operand.tmp 16) rfl rfl rb cs ?_ ?_ 65 (aG (fQ 0 0 0) dE 0 dE) ?_ ?_ ?_ ?_ ?_));(·rfl);(·rfl);(·exact pj.o);(·exact H2.o);(·exact H3.o);(·exact H1.o)))
 refine OpW.aR results50 rfl rfl kS.o underlying65 rfl H2.o ?_;exact⟨by rw[Lu.o],gx.o⟩
open PathW (Strs gF ky sc lp iQ dH mN)
theorem sG{P:Program}{ops:Array Oper}{o:Oper}{a:Act}{K:Act→qo→Prop}{Q:Exit→Act→qo→Prop}{E:Prop}(uR:o.guard=none)(s x:Operand)(t:TypeId)
 (ho:o.op= .call {callee:= .builtin .append,args:=#[s,x],argTypes:=#[t,t]})
 (base:Nat) (e:TypeId) (i:TypeInfo) (z:qp) (size bytes:Nat) (ht:P.underlying t=some (.slice e)) (hi:P.info? e=some i) (hz:i.zero=some z)
 (iq:i.size=size) (CA:i.bytes=bytes) (FD:z.cells.size=size) (dY:0<size)
 {W:qo} (v:qp) (n:Nat) (xs:List qp) (hs:a.eval s=v) (aT:W.ownsRow base e size v n xs)
 (ad:qt) (m c:Nat) (news:List qp) (hx:a.eval x=qh (some ad) m c)
 (hl:news.length=m*size) (ji: ∀j u,news[j]? =some u→W.cell? (ad.add j)=some u) (h1: ∀u∈news,u.oneCell'=true)
 (h63:n+m≤maxLen) (fh:(n+m)*bytes≤140737488355328) (ir:base≤W.heap.size)
 (h: ∀oa' cap' J,J.ownsRow base e size (qh oa' (n+m) cap') (n+m) (xs++news)→qz base W J→K (a.put o.dst (qh oa' (n+m) cap')) J):
 if Region.wanted o (yielded ops a.tmps)=true then Oper.wp P o a W K Q else E:=by
 have hw:Region.wanted o (yielded ops a.tmps)=true:=by simp[Region.wanted,uR]
 rw[qH hw];refine wp_append_own W s x t ho base e i z size bytes ht hi hz iq CA FD dY v n xs hs aT ad m c news hx hl ji h1 h63 fh ir ?_;intro v' J h2 h3 _;obtain⟨oa',cap',rfl⟩:=fg h2;exact h oa' cap' J h2 (eu h3 aT ir)
theorem vq(W:qo)(base:Nat)(v:qp)(hb:base≤W.heap.size):(W.alloc (qn #[v] 9)).ownsRow base 9 1 (qh (some ⟨W.heap.size,0,none⟩) 1 1) 1 [v]:=
 ⟨rfl,.inr ⟨W.heap.size,1,#[v],rfl,hb,qA W _,Nat.le_refl _,by unfold maxLen;omega,rfl,rfl⟩⟩
theorem Qt(W:qo)(base:Nat)(v:qp)(hb:base≤W.heap.size):(W.alloc (qn #[v] 9)).drew.ownsRow base 9 1 (qh (some ⟨W.heap.size,0,none⟩) 1 1) 1 [v]:=vq W base v hb
def fL(x:Fm)(l:List Bs):qp:=qj #[ql (aG ((bY x l).getD (fQ 0 0 0)) dE 0 dE),qk (bY x l).isSome]
theorem mj{B:Nat}{w:qo}{oa:Option qt}{l:List Bs}(h:mN B w oa l){i:Nat}{y:Bs}(hy:l[i]? =some y): ∃a,oa=some a∧a.block<B∧w.cell? (a.add i)=some (qg (bs y)):=by
 obtain⟨hi,e⟩:=xb.1 hy;obtain⟨a,h1,h2,h3⟩:=h i hi;exact⟨a,h1,h2,by rw[h3,e];rfl⟩
theorem yx{w J:qo}{oa:Option qt}{l:List Bs}(h:mN w.heap.size w oa l)(k:qz w.heap.size w J):mN J.heap.size J oa l:=by
 intro i hi;obtain⟨a,h1,h2,h3⟩:=(h.below k) i hi;exact⟨a,h1,xH h2 k.size,h3⟩
theorem gi{w w1 w2:qo}(h:qz w.heap.size w w1)(k:qz w1.heap.size w1 w2):qz w.heap.size w w2:=h.trans (k.mono h.size)
theorem gW(l:Bs):(bs l).size=l.length:=by simp[bs,ByteArray.size]
theorem add_zero'(a:qt):a.add 0=a:=by unfold Addr.add;cases a;simp
theorem Er(a:qt):a.add 2=⟨a.block,a.off+2,none⟩:=rfl
theorem Qu(a:qt):a.add 1=⟨a.block,a.off+1,none⟩:=rfl
theorem Gz{a b:Bs}(h:a≠b):((bs a).toList==b)=false:=by rw[xq,lW,qP];exact h
theorem mS{a b:Bs}(h:a=b):((bs a).toList==b)=true:=by rw[xq,lW,beq_iff_eq];exact h
def bN:Array qp:=aG (fQ 0 0 0) dE 0 dE
theorem iX{x:Fm}{l:List Bs}(h:bY x l=none):fL x l=qj #[ql bN,qk false]:=by unfold fL;rw[h];rfl
theorem Es{x:Fm}{l:List Bs}{t:dK}(h:bY x l=some t):fL x l=qj #[ql (aG t dE 0 dE),qk true]:=by unfold fL;rw[h];rfl
theorem jC:bN.all (·.oneCell')=true:=cells_one _ _
theorem dr:(prog.info? 65).map (·.size)=some bN.size:=stepSize
def Low(B:Nat):Prop:=3<B∧4<B∧1<B
theorem CV.stay{w J:qo}(h:CV w)(B:Nat)(k:qz B w J)(hb:Low B):CV J:=by
 obtain⟨⟨t1,p1,h1⟩,⟨t2,p2,h2⟩,h3⟩:=h;refine⟨⟨t1,p1,(k.cell hb.1).trans h1⟩,⟨t2,p2,(k.cell hb.2.1).trans h2⟩,?_⟩;have e:=k.block _ hb.2.2;unfold Lib.TabIs World.var? at h3⊢;rw[Gw]at h3⊢;simp only[Option.bind_some]at h3⊢;rw[e];exact h3
theorem CV.low{w:qo}(h:CV w):Low w.heap.size:=by
 obtain⟨⟨t1,p1,h1⟩,⟨t2,p2,h2⟩,h3⟩:=h;have l1:=xv _ _ h1;have l2:=xv _ _ h2;simp only at l1 l2;exact⟨l1,l2,Y⟩
def W0(w:qo)(x:Fm):qo:=(w.alloc (qn (da x).toArray 106)).alloc (qn bN 65)
theorem pro(w:qo)(x:Fm):vd (W0 w x) w.heap.size x∧dX (W0 w x) (w.heap.size+1) (fQ 0 0 0) dE 0 dE∧qz w.heap.size w (W0 w x):=
 ⟨(xm _ _ qc).trans (gV _ _ _ rfl),gV _ _ _ qc,((Below.refl _ w).alloc (Nat.le_refl _) _).alloc qc _⟩
theorem Et(x:Fm)(hk:x.k=1)(l:List Bs)(hl:l.length<3)(oa:Option qt)(cap:Nat)(w:qo):
 qw qx 31 #[ql (da x).toArray,qh oa l.length cap] w fun e J=>e=qm (fL x l)∧qz w.heap.size w J:=by
 have Qv:qy (fL x l=qj #[ql bN,qk false]):=Hd (iX (by
  unfold bY mB;rw[qH hk]
  match l,hl with
  |[],_=>rfl
  |[_],_=>rfl
  |[_,_],_=>rfl))
 have h3:(l.length:Int)<3:=Y;have hk1:(x.k==1)=true:=by rw[hk];rfl
 clear hl hk;show qw _ _ #[ql #[qg (bs x.w),U Z x.k,U Z x.c,U Z x.o,qg (bs x.fs)],_] _ _;go_enter func31,ntmps31;go_wp2_with fail
 change Code.wp _ _ _ _ (W0 w x)
 obtain⟨hf,hr,hb⟩:=pro w x;have HB:=Hd hb;have HR:=Hd hr;have HF:=Hd hf;obtain⟨rb,rk⟩: ∃rb,rb=w.heap.size+1:=⟨_,rfl⟩;obtain⟨fb,mJ⟩: ∃fb,fb=w.heap.size:=⟨_,rfl⟩;have lS:qy (fb≠rb∧w.heap.size≤rb∧w.heap.size≤fb):=Hd Y;rw[←rk]at HR;rw[←mJ]at HF;rw[←rk,←mJ];clear hf hr hb rk mJ;generalize W0 w x=W1 at*;obtain⟨f0,f1,f2,f3,f4⟩:=HF.o.cells
 go_region
 go_wp2_with(((with_reducible(refine wpList_store_rowTo rfl 65 (Operand.tmp 4) (Operand.tmp 30) rfl rfl rb bN ?_ ?_ 65 bN ?_ ?_ ?_ ?_ ?_));(·rfl);(·rfl);(·exact HR.o);(·exact dr);(·rfl);(·exact jC)))
 refine OpW.aY results31 rfl rfl (qJ _ _ _ _ _ _ (HR.o)) underlying65 rfl dr ?_;exact⟨qX Ending.returned Qv.o.symm,dj HB.o.drew lS.o.2.1 _⟩
theorem GA(x:Fm)(hk:x.k=1)(l:List Bs)(a b c:Bs)(r:List Bs)(hl:l=a::b::c::r)(hn: ¬(a=[99]∧c=x.w))(oa:Option qt)(cap:Nat)(w:qo)(rU:mN w.heap.size w oa l):
 qw qx 31 #[ql (da x).toArray,qh oa l.length cap] w fun e J=>e=qm (fL x l)∧qz w.heap.size w J:=by
 have Qv:qy (fL x l=qj #[ql bN,qk false]):=Hd (iX (by
  unfold bY mB;rw[qH hk,hl];simp only;rw[qB hn];rfl))
 have h3:decide ((l.length:Int)<3)=false:=qD (by rw[hl];simp;omega);have h30:0<l.length:=by rw[hl];simp
 have h32:2<l.length:=by rw[hl];simp
 have h33:2<(l.length:Int):=Y;have hk1:(x.k==1)=true:=by rw[hk];rfl
 obtain⟨ad,Eu,AU,c0⟩:=mj rU (i:=0) (y:=a) (by rw[hl];rfl);obtain⟨ad',Qw,_,c2⟩:=mj rU (i:=2) (y:=c) (by rw[hl];rfl);subst Eu;obtain rfl:ad=ad':=by injection Qw
 have ff:((bs a).toList==[99])=false∨(((bs a).toList==[99])=true∧((bs c).toList==(bs x.w).toList)=false):=by
  by_cases h:a=[99]
  ·right;refine⟨mS h,?_⟩;rw[xq (bs x.w),lW];exact Gz (fun e=>hn ⟨h,e⟩)
  ·left;exact Gz h
 have fP:=Hd c0;have dD:=Hd c2;have uP:=Hd AU;clear hl hk hn rU c0 c2 Qw AU;rcases ff with h4|⟨h4,h5⟩
 all_goals
  show qw _ _ #[ql #[qg (bs x.w),U Z x.k,U Z x.c,U Z x.o,qg (bs x.fs)],_] _ _;go_enter func31,ntmps31;go_wp2_with fail
  change Code.wp _ _ _ _ (W0 w x)
  obtain⟨hf,hr,hb⟩:=pro w x;have HB:=Hd hb;have HR:=Hd hr;have HF:=Hd hf;obtain⟨rb,rk⟩: ∃rb,rb=w.heap.size+1:=⟨_,rfl⟩;obtain⟨fb,mJ⟩: ∃fb,fb=w.heap.size:=⟨_,rfl⟩;have lS:qy (fb≠rb∧w.heap.size≤rb∧w.heap.size≤fb):=Hd Y;rw[←rk]at HR;rw[←mJ]at HF;rw[←rk,←mJ];clear hf hr hb rk mJ;generalize W0 w x=W1 at*;obtain⟨f0,f1,f2,f3,f4⟩:=HF.o.cells;have c0:=(HB.o.cell (by rw[bA];exact uP.o)).trans fP.o;rw[add_zero']at c0;have c2:=(HB.o.cell (by rw[bA];exact uP.o)).trans dD.o;rw[Er]at c2
  go_region
  go_wp2_with(((with_reducible(refine wpList_store_rowTo rfl 65 (Operand.tmp 4) (Operand.tmp 30) rfl rfl rb bN ?_ ?_ 65 bN ?_ ?_ ?_ ?_ ?_));(·rfl);(·rfl);(·exact HR.o);(·exact dr);(·rfl);(·exact jC)))
  refine OpW.aY results31 rfl rfl (qJ _ _ _ _ _ _ (HR.o)) underlying65 rfl dr ?_;exact⟨qX Ending.returned Qv.o.symm,dj HB.o.drew lS.o.2.1 _⟩
theorem Ev(x:Fm)(hk:x.k≠1)(l:List Bs)(a:Bs)(r:List Bs)(hl:l=a::r)(hn:a≠x.w)(oa:Option qt)(cap:Nat)(w:qo)(rU:mN w.heap.size w oa l):
 qw qx 31 #[ql (da x).toArray,qh oa l.length cap] w fun e J=>e=qm (fL x l)∧qz w.heap.size w J:=by
 have Qv:qy (fL x l=qj #[ql bN,qk false]):=Hd (iX (by
  unfold bY mB;rw[qB hk,hl];simp only;rw[qB hn];rfl))
 have h30:0<l.length:=by rw[hl];simp
 have hk1:(x.k==1)=false:=qP.2 hk;obtain⟨ad,Eu,AU,c0⟩:=mj rU (i:=0) (y:=a) (by rw[hl];rfl);subst Eu
 have h4:((bs a).toList==(bs x.w).toList)=false:=by
  rw[xq (bs x.w),lW];exact Gz hn
 have fP:=Hd c0;have uP:=Hd AU;clear hl hk hn rU c0 AU;show qw _ _ #[ql #[qg (bs x.w),U Z x.k,U Z x.c,U Z x.o,qg (bs x.fs)],_] _ _;go_enter func31,ntmps31;go_wp2_with fail
 change Code.wp _ _ _ _ (W0 w x)
 obtain⟨hf,hr,hb⟩:=pro w x;have HB:=Hd hb;have HR:=Hd hr;have HF:=Hd hf;obtain⟨rb,rk⟩: ∃rb,rb=w.heap.size+1:=⟨_,rfl⟩;obtain⟨fb,mJ⟩: ∃fb,fb=w.heap.size:=⟨_,rfl⟩;have lS:qy (fb≠rb∧w.heap.size≤rb∧w.heap.size≤fb):=Hd Y;rw[←rk]at HR;rw[←mJ]at HF;rw[←rk,←mJ];clear hf hr hb rk mJ;generalize W0 w x=W1 at*;obtain⟨f0,f1,f2,f3,f4⟩:=HF.o.cells;have c0:=(HB.o.cell (by rw[bA];exact uP.o)).trans fP.o;rw[add_zero']at c0
 go_region
 go_wp2_with(((with_reducible(refine wpList_store_rowTo rfl 65 (Operand.tmp 4) (Operand.tmp 44) rfl rfl rb bN ?_ ?_ 65 bN ?_ ?_ ?_ ?_ ?_));(·rfl);(·rfl);(·exact HR.o);(·exact dr);(·rfl);(·exact jC)))
 refine OpW.aY results31 rfl rfl (qJ _ _ _ _ _ _ (HR.o)) underlying65 rfl dr ?_;exact⟨qX Ending.returned Qv.o.symm,dj HB.o.drew lS.o.2.1 _⟩
theorem Ew(x:Fm)(l:List Bs)(hD:(x.k≠1∧ ∃r2,l=x.w::r2)∨(x.k=1∧ ∃b r,l=[99]::b::x.w::r))(UD:l.length≤1000001)(oa:Option qt)(cap:Nat)(rY:l.length≤cap)(w:qo)(hv:CV w)(rU:mN w.heap.size w oa l)(Zn: ∀y∈l,y.length≤1000000)(hfs:x.fs.length≤10):
 qw qx 31 #[ql (da x).toArray,qh oa l.length cap] w fun e J=>e=qm (fL x l)∧qz w.heap.size w J:=by
 rcases hD with hD|hD
 case' inl=>
  obtain⟨hk,r2,hl⟩:=hD;have lH:qy (mB x l=some r2):=Hd (by unfold mB;rw[qB hk,hl];simp);have NO:qy (x.all=x.fs.map (place (x.c==1))):=Hd (by unfold Fm.all Fm.ps;rw[qB hk]);have h30:0<l.length:=by rw[hl];simp
  have h31:1≤(l.length:Int):=Y;have h32:(l.length:Int)-1=(r2.length:Int):=by rw[hl];simp
  have h33:l.length-1=r2.length:=by rw[hl];simp
  have hk1:(x.k==1)=false:=qP.2 hk;obtain⟨ad,Eu,AU,c0⟩:=mj rU (i:=0) (y:=x.w) (by rw[hl];rfl)
  have UE: ∃oa2 dd,mN w.heap.size w oa2 r2∧((cap=1∧oa2=some ad∧dd=0)∨(cap≠1∧oa2=some ⟨ad.block,ad.off+1,none⟩∧dd=cap-1)):=by
   by_cases hc:cap=1
   ·refine⟨_,_,?_,.inl ⟨hc,rfl,rfl⟩⟩;have:r2=[]:=xe Y;rw[this];intro i hi;simp at hi
   ·refine⟨_,_,?_,.inr ⟨hc,rfl,rfl⟩⟩;intro i hi;obtain⟨a',h1,h2,h3⟩:=rU (i+1) (by rw[hl];simpa using hi);rw[Eu]at h1;injection h1 with h1
    subst h1;refine⟨_,rfl,h2,?_⟩
    have e:(⟨ad.block,ad.off+1,none⟩:qt).add i=ad.add (i+1):=by
     unfold Addr.add;by_cases h:i=0
     ·subst h;simp
     ·simp[h];omega
    rw[e,h3]
    congr 1
    simp[hl]
  subst Eu;have h4:((bs x.w).toList==(bs x.w).toList)=true:=qc;have fP:=Hd c0;have uP:=Hd AU;obtain⟨oa2,dd,UE,CJ⟩:=UE;have adp:=Hd UE;have HLS:qy (∀y∈r2,y.length≤1000000):=Hd fun y hy=>Zn y (by rw[hl];simp[hy]);have HV:=Hd hv;have HFS:=Hd hfs;have HLR:qy (r2.length≤1000001):=Hd Y;obtain⟨ws,MM⟩: ∃ws,ws=x.fs:=⟨_,rfl⟩;rw[←MM]at NO;have ahc:qy (ws.length≤11):=Hd (by rw[MM];omega);have Zo:=Hd MM;clear hl hk rU UE c0 AU Zn hv rY MM hfs;rcases CJ with⟨hc,rfl,rfl⟩|⟨hc,rfl,rfl⟩
  first|subst hc|skip
  all_goals
   show qw _ _ #[ql #[qg (bs x.w),U Z x.k,U Z x.c,U Z x.o,qg (bs x.fs)],_] _ _;go_enter func31,ntmps31;go_wp2_with fail
   change Code.wp _ _ _ _ (W0 w x)
   obtain⟨hf,hr,hb⟩:=pro w x;have HB:=Hd hb;have HR:=Hd hr;have HF:=Hd hf;obtain⟨rb,rk⟩: ∃rb,rb=w.heap.size+1:=⟨_,rfl⟩;obtain⟨fb,mJ⟩: ∃fb,fb=w.heap.size:=⟨_,rfl⟩;have lS:qy (fb≠rb∧w.heap.size≤rb∧w.heap.size≤fb):=Hd Y;rw[←rk]at HR;rw[←mJ]at HF;rw[←rk,←mJ];clear hf hr hb rk mJ;generalize W0 w x=W1 at*;obtain⟨f0,f1,f2,f3,f4⟩:=HF.o.cells;have c0:=(HB.o.cell (by rw[bA];exact uP.o)).trans fP.o;rw[add_zero']at c0
   go_region
   have az:qy (qz w.heap.size w W1.drew):=Hd HB.o.drew;have nz:qy (vd W1.drew fb x):=Hd HF.o;have eB:qy (dX W1.drew rb (fQ 0 0 0) dE 0 dE):=Hd HR.o;have WM:=Hd (yx adp.o az.o);have Qn:=Hd (HV.o.ag az.o);clear c0 fP adp HV HB HF HR f0 f1 f2 f3 f4;generalize W1.drew=W2 at*;obtain⟨f0,f1,f2,f3,f4⟩:=nz.o.cells;rw[←Zo.o]at f4;go_wp2_with fail
   try generalize(⟨ad.block,ad.off+1,none⟩:qt)=a2 at*
   refine(AT ⟨x.w,x.k,x.c,x.o,ws⟩ _).mono ?_
 case' inr=>
  obtain⟨hk,b,r,hl⟩:=hD;obtain⟨i0,hi,hz0,hz1,hz2⟩:=info_parts ky;obtain⟨r2,hr2⟩: ∃r2,r2=b::r:=⟨_,rfl⟩;obtain⟨ws,MM⟩: ∃ws,ws=99::x.fs:=⟨_,rfl⟩;have lH:qy (mB x l=some r2):=Hd (by unfold mB;rw[qH hk,hl,hr2];simp);have NO:qy (x.all=ws.map (place (x.c==1))):=Hd (by unfold Fm.all Fm.ps;rw[qH hk,MM];rfl);have h3:decide ((l.length:Int)<3)=false:=qD (by rw[hl];simp;omega);have h30:0<l.length:=by rw[hl];simp
  have h32:2<l.length:=by rw[hl];simp
  have h33:2<(l.length:Int):=Y;have h34:1<(l.length:Int):=Y;have h35:3≤(l.length:Int):=Y;have hl3:l.length-3=r.length:=by rw[hl];simp
  have hl4:(l.length:Int)-3=(r.length:Int):=Y;have hk1:(x.k==1)=true:=by rw[hk];rfl
  obtain⟨ad,Eu,AU,c0⟩:=mj rU (i:=0) (y:=[99]) (by rw[hl];rfl);obtain⟨ad',Qw,_,c1⟩:=mj rU (i:=1) (y:=b) (by rw[hl];rfl);obtain⟨ad'',hoa'',_,c2⟩:=mj rU (i:=2) (y:=x.w) (by rw[hl];rfl)
  have CJ: ∃a3 c3,(∀j u,(r.map gF)[j]? =some u→a3.block<w.heap.size∧w.cell? (a3.add j)=some u)∧((cap=3∧a3=ad∧c3=0)∨(cap≠3∧a3=⟨ad.block,ad.off+3,none⟩∧c3=cap-3)):=by
   by_cases hc:cap=3
   ·refine⟨_,_,?_,.inl ⟨hc,rfl,rfl⟩⟩;have:r=[]:=xe Y;rw[this];intro j u hu;simp at hu
   ·refine⟨_,_,?_,.inr ⟨hc,rfl,rfl⟩⟩;intro j u hu;rw[List.getElem?_map]at hu;obtain⟨y,hy,rfl⟩:=xG.1 hu;obtain⟨a',h1,h2,h3⟩:=mj rU (i:=j+3) (y:=y) (by rw[hl];simpa using hy);rw[Eu]at h1;injection h1 with h1
    subst h1;refine⟨h2,?_⟩
    have e:(⟨ad.block,ad.off+3,none⟩:qt).add j=ad.add (j+3):=by
     unfold Addr.add;by_cases h:j=0
     ·subst h;simp
     ·simp[h];omega
    rw[e,h3];rfl
  subst Eu;obtain rfl:ad=ad':=by injection Qw
  obtain rfl:ad=ad'':=by injection hoa''
  have h4:((bs [99]).toList==[99])=true:=mS rfl;have h5:((bs x.w).toList==(bs x.w).toList)=true:=qc;have fP:=Hd c0;have fF:=Hd c1;have dD:=Hd c2;have uP:=Hd AU;obtain⟨a3,c3,ji,CJ⟩:=CJ;have WN:=Hd ji;have HLS:qy (∀y∈r2,y.length≤1000000):=Hd fun y hy=>Zn y (by rw[hl];rw[hr2]at hy;rcases qG.1 hy with rfl|hy<;>simp[*]);have HV:=Hd hv;have HLR:qy (r2.length≤1000001):=Hd (by rw[hr2];simp;omega);have hrl:r.length≤1000001:=Y;have ahc:qy (ws.length≤11):=Hd (by rw[MM];simp;omega)
  have Zo:qy (bs ws=(⟨#[99]⟩:ByteArray)++bs x.fs):=Hd (by
   rw[MM];apply ByteArray.ext;rw[ByteArray.data_append];apply Array.toList_inj.1;rw[Array.toList_append];rfl)
  have hov: ¬9223372036854775807<1+(bs x.fs).size:=by rw[gW];omega
  have UF:=Hd hr2;obtain⟨qs,hqs⟩: ∃qs,qs=bs [99]:=⟨_,rfl⟩;rw[←hqs]at fP h4;clear hl hk rU c0 c1 c2 AU Zn hv rY MM hr2 ji Qw hoa'' hqs hfs;rcases CJ with⟨hc,ha3,hc3⟩|⟨hc,ha3,hc3⟩
  first|subst hc|skip
  all_goals
   show qw _ _ #[ql #[qg (bs x.w),U Z x.k,U Z x.c,U Z x.o,qg (bs x.fs)],_] _ _;go_enter func31,ntmps31;go_wp2_with fail
   change Code.wp _ _ _ _ (W0 w x)
   obtain⟨hf,hr,hb⟩:=pro w x;have HB:=Hd hb;have HR:=Hd hr;have HF:=Hd hf;obtain⟨rb,rk⟩: ∃rb,rb=w.heap.size+1:=⟨_,rfl⟩;obtain⟨fb,mJ⟩: ∃fb,fb=w.heap.size:=⟨_,rfl⟩;have lS:qy (fb≠rb∧w.heap.size≤rb∧w.heap.size≤fb):=Hd Y;rw[←rk]at HR;rw[←mJ]at HF;rw[←rk,←mJ];clear hf hr hb rk mJ;generalize W0 w x=W1 at*;obtain⟨f0,f1,f2,f3,f4⟩:=HF.o.cells;have c0:=(HB.o.cell (by rw[bA];exact uP.o)).trans fP.o;rw[add_zero']at c0;have c1:=(HB.o.cell (by rw[bA];exact uP.o)).trans fF.o;rw[Qu]at c1;have c2:=(HB.o.cell (by rw[bA];exact uP.o)).trans dD.o;rw[Er]at c2
   go_region
   go_wp2_with fail
   have cq:qy (qz w.heap.size w W1.drew):=Hd HB.o.drew;have Zp:qy (vd W1.drew fb x):=Hd HF.o;have oG:qy (dX W1.drew rb (fQ 0 0 0) dE 0 dE):=Hd HR.o;have d1:W1.drew.cell? ⟨ad.block,ad.off+1,none⟩=some (qg (bs b)):=c1;clear c0 c1 c2 f0 f1 f2 f3 f4 HB HF HR;generalize W1.drew=W2 at*
   have BF:qy (∀j u,(r.map gF)[j]? =some u→W2.cell? (a3.add j)=some u):=Hd fun j u hu=>by
    obtain⟨h1,h2⟩:=WN.o j u hu;exact(cq.o.cell (by rw[bA];exact h1)).trans h2
   obtain⟨wb,Sj⟩: ∃wb,wb=W2.heap.size:=⟨_,rfl⟩;have FQ:=Hd Sj;clear Sj;subst ha3 hc3
   go_region_law ((refine sG rfl _ _ 22 rfl wb 9 i0 (qg ⟨#[]⟩) 1 16 underlying22 hi hz0 hz1 hz2 rfl qa _ 1 [qg (bs b)] (by rfl) (by rw[FQ.o];first|exact vq _ _ _ qc|exact Qt _ _ _ qc) _ r.length _ (r.map gF) (by rfl) qc (fun j u hu=>by have h:=BF.o j u hu;exact(World.cell?_alloc_lt _ _ _ (xv _ _ h)).trans h) (by intro u hu;simp only[List.mem_map]at hu;obtain⟨y,_,rfl⟩:=hu;rfl) (by unfold maxLen;omega) Y (by rw[FQ.o];simp) ?_;intro oa5 kF w5 bT bK;have br:=Hd bT;have Lv:=Hd bK;clear bT bK))
   have UG:qy (qz wb W2 w5):=Hd ((((Below.refl wb W2).alloc (by rw[FQ.o];exact Nat.le_refl _) _).drew).trans Lv.o);have az:qy (qz w.heap.size w w5):=Hd (cq.o.trans (UG.o.mono (by rw[FQ.o];exact cq.o.size)));have nz:qy (vd w5 fb x):=Hd ((UG.o.block fb (by rw[FQ.o];exact qK Zp.o)).trans Zp.o);have eB:qy (dX w5 rb (fQ 0 0 0) dE 0 dE):=Hd ((UG.o.block rb (by rw[FQ.o];exact qK oG.o)).trans oG.o)
   have WM:qy (mN w5.heap.size w5 oa5 r2):=Hd (by
    rw[UF.o];have e:(b::r).map gF=[qg (bs b)]++r.map gF:=rfl;refine mN.sa (B:=wb) (n:=1+r.length) (cap:=kF) ?_;unfold Strs;rw[e,show(b::r).length=1+r.length by simp;omega];exact br.o)
   have Qn:=Hd (HV.o.ag az.o);have hn1:(1:Int)+(r.length:Int)=(r2.length:Int):=by rw[UF.o];simp;omega
   have hn2:1+r.length=r2.length:=by rw[UF.o];simp;omega
   rw[hn2];clear cq Zp oG d1 BF FQ br Lv UG hn1 UF WN HV fP fF dD;generalize w5=W2 at*;obtain⟨f0,f1,f2,f3,f4⟩:=nz.o.cells;have Qx:=Zo.o.symm;go_wp2_with fail
   clear Qx hov hn2;try generalize(⟨ad.block,ad.off+1,none⟩:qt)=a2 at*
   refine(AT x _).mono ?_
 all_goals
  as_aux_lemma=>
   rintro e W3⟨rfl,hb3⟩;have cu:=Hd (gi az.o hb3);have eE:=Hd (eB.o.ag hb3);have adr:=Hd (yx WM.o hb3);have WL:=Hd (Qn.o.ag hb3);clear hb3 f0 f1 f2 f3 f4 az eB WM Qn;simp only;obtain⟨cs,ff⟩: ∃cs,cs=aG (fQ x.k x.c x.o) dE 0 dE:=⟨_,rfl⟩;have Lu:=Hd ff;have H1:qy (cs.all (·.oneCell')=true):=Hd (by rw[ff];exact cells_one _ _);have H2:qy ((prog.info? 65).map (·.size)=some cs.size):=Hd (by rw[ff];exact stepSize);have H3:qy (bN.size=cs.size):=Hd (by rw[ff];rfl);rw[←ff];clear ff;obtain⟨sb,uK⟩: ∃sb,sb=W3.heap.size:=⟨_,rfl⟩;have sX:=Hd uK
   obtain⟨W5,hW5⟩: ∃W5,W5=(W3.alloc (qn bN 65)).setRow sb cs:=⟨_,rfl⟩;have Qy:qy (qz sb W3 W5):=Hd (by rw[hW5,uK];exact dj ((Below.refl _ W3).alloc (Nat.le_refl _) _) (Nat.le_refl _) _);have br:qy (dX W5 sb (fQ x.k x.c x.o) dE 0 dE):=Hd (by rw[hW5];unfold dX;rw[←Lu.o];exact qJ _ _ _ _ _ _ (gV _ _ _ uK));have Qb:=Hd hW5;clear hW5;by_cases hlen:ws.length=r2.length
   ·have hle:((r2.length:Int)==((bs ws).size:Int))=true:=by rw[beq_iff_eq,gW,hlen]
    have dY:(bs ws).size=r2.length:=by rw[gW,hlen]
    have sR:=Hd dY;have ea:=Hd hlen
    have ads:qy (∀(k:Nat) (h:k<(bs ws).size),∃f,(bs ws)[k]'h=f∧ws[k]? =some f):=Hd fun k h=>⟨_,rfl,by
     rw[gW]at h;rw[qN h];rfl⟩
    generalize bs ws=wsS at*;go_wp2_with(((with_reducible(refine wpList_store_rowTo rfl 65 (Operand.tmp 7) (Operand.tmp 55) rfl rfl W3.heap.size cs ?_ ?_ 65 bN ?_ ?_ ?_ ?_ ?_));(·rfl);(·rfl);(·exact gV _ _ _ rfl);(·exact H2.o);(·exact H3.o);(·exact H1.o)))
    have hw5:(W3.alloc (qn bN 65)).setRow W3.heap.size cs=W5:=by rw[Qb.o,sX.o]
    change Code.wp _ _ _ _ ((W3.alloc (qn bN 65)).setRow W3.heap.size cs)
    rw[hw5,←sX.o];clear hw5 hle hlen dY uK;have kS:=Hd ((Qy.o.block rb (by have:=qK eE.o;rw[sX.o];exact this)).trans eE.o);have HV5:=Hd (WL.o.stay sb Qy.o (by rw[sX.o];exact WL.o.low));have ahd:=Hd ((by rw[sX.o];exact adr.o:mN sb W3 _ r2).below Qy.o);have gx:qy (qz w.heap.size w W5):=Hd (cu.o.trans (Qy.o.mono (by rw[sX.o];exact cu.o.size)));have HLV:qy (Low sb):=Hd (by rw[sX.o];exact WL.o.low);have ahe:qy (Far sb):=Hd (WL.o.fO (by rw[sX.o];exact Nat.le_refl _))
    have dO:qy (rb<sb∧w.heap.size≤sb∧sb<W5.heap.size):=Hd (by
     have h1:=qK eE.o;have h2:=cu.o.size;have h3:=qK br.o;have h4:=sX.o;omega)
    clear Qb Qy cu eE adr WL nz sX Lu H1 H3
    go_loopw [8,9,64] (fun _ _ c wr=> ∃(k:Nat) (t:dK),k≤r2.length∧c=U Z (k:Int)∧bh (fQ x.k x.c x.o) ((ws.take k).map (place (x.c==1))) (r2.take k)=some t∧dX wr sb t dE 0 dE∧qz sb W5 wr) (fun _ _ c _=>((r2.length:Int)-intOf c).toNat)
    case atStart=>exact⟨0,_,Y,rfl,rfl,br.o,Below.refl _ _⟩
    case round=>
     obtain⟨k,t,hk,rfl,adt,rB,rm⟩:=hrel;have hlr:=HLR.o;have kG:=Hd adt;have fu:=Hd rB;have IM:=Hd rm;have ahf:=Hd (HV5.o.stay sb rm HLV.o);have tc:=Hd ((rm.block rb dO.o.1).trans kS.o);have MN:qy (qz w.heap.size w wr):=Hd (gx.o.trans (rm.mono dO.o.2.1));have ahg:=Hd (ahd.o.below rm);clear adt rB rm;by_cases aN:k<r2.length
     ·have hk1:(k:Int)<(r2.length:Int):=by omega
      obtain⟨y,hy⟩: ∃y,r2[k]? =some y:=⟨_,qN aN⟩;obtain⟨a3,ha3,_,hc3⟩:=mj ahg.o hy;first|(injection ha3 with ha3;subst ha3)|subst ha3
      have hks:k<wsS.size:=by rw[sR.o];exact aN
      obtain⟨f,hf,IX⟩:=ads.o k hks;have NG:qy (y.length≤1000000):=Hd (HLS.o y (xp hy));have HTK:qy (t.a.k=x.c):=Hd (sf kG.o).2.1
      have HNX:qy (bh (fQ x.k x.c x.o) ((ws.take (k+1)).map (place (x.c==1))) (r2.take (k+1))=eF t (place (x.c==1) f) y):=Hd (by
       rw[xA,xA,hy,IX,List.map_append];show bh _ (_++[place (x.c==1) f]) (_++[y])=_;rw[uA _ _ _ _ _ (pZ kG.o),kG.o];rfl)
      have ahh:qy (eF t (place (x.c==1) f) y=none→bY x l=none):=Hd (fun hn=>by
       unfold bY;rw[lH.o,NO.o];show bh _ _ _=none;have h1:bh (fQ x.k x.c x.o) ((ws.take (k+1)).map (place (x.c==1))) (r2.take (k+1))=none:=by rw[HNX.o,hn]
       have h2:=uB _ ((ws.drop (k+1)).map (place (x.c==1))) _ (r2.drop (k+1)) _ (by simp[ea.o]) h1;rw[←List.map_append,List.take_append_drop,List.take_append_drop]at h2;exact h2)
      clear hy IX;go_wp2_with fail
      have rU:=wc f (bs y) (by rw[gW];exact NG.o) sb t dE dE 0 ahe.o wr fu.o ahf.o;rw[HTK.o]at rU;refine rU.mono ?_;rintro e w6⟨he,Zr,yy⟩;rw[lW]at he Zr;subst he;have BV:=Hd Zr;have Zs:qy (qz sb W5 w6):=Hd (IM.o.trans (yy.below (Nat.le_refl _) (by have:=IM.o.size;have:=dO.o;omega)));clear rU Zr yy
      cases WO:eF t (place (x.c==1) f) y with
      |none=>
       have Qv:qy (fL x l=qj #[ql bN,qk false]):=Hd (iX (ahh.o WO));have tW:=Hd ((Zs.o.block rb dO.o.1).trans kS.o);have jd:qy (qz w.heap.size w w6):=Hd (gx.o.trans (Zs.o.mono dO.o.2.1));simp only[Option.isSome_none];clear WO;go_wp2_with(((with_reducible(refine wpList_store_rowTo rfl 65 (Operand.tmp 4) (Operand.tmp 75) rfl rfl rb bN ?_ ?_ 65 bN ?_ ?_ ?_ ?_ ?_));(·rfl);(·rfl);(·exact tW.o);(·exact dr);(·rfl);(·exact jC)))
       refine OpW.aY results31 rfl rfl (qJ _ _ _ _ _ _ (tW.o)) underlying65 rfl dr ?_
       exact⟨qX Ending.returned Qv.o.symm,dj jd.o lS.o.2.1 _⟩
      |some t2=>
       have Qd:=Hd (BV.o t2 WO);have HP7:=Hd (HNX.o.trans WO);simp only[Option.isSome_some];clear WO;go_wp2_with fail
       exact⟨⟨k+1,t2,Y,qc,HP7.o,Qd.o,Zs.o⟩,by simp[intOf];omega⟩
     ·obtain rfl:k=r2.length:=by omega
      have Dc:qy (fL x l=qj #[ql (aG t dE 0 dE),qk true]):=Hd (Es (by
       unfold bY;rw[lH.o,NO.o];have:=kG.o;have e1:ws.take r2.length=ws:=qT (by rw[ea.o];exact Nat.le_refl _);rw[e1,List.take_length]at this;exact this))
      have hk1:decide ((r2.length:Int)<(r2.length:Int))=false:=qD Y;obtain⟨ct,sv⟩: ∃ct,ct=aG t dE 0 dE:=⟨_,rfl⟩;have HCT:=Hd sv;have C1:qy (ct.all (·.oneCell')=true):=Hd (by rw[sv];exact cells_one _ _);have C2:qy ((prog.info? 65).map (·.size)=some ct.size):=Hd (by rw[sv];exact stepSize);have C3:qy (bN.size=ct.size):=Hd (by rw[sv];rfl);have C4:qy (wr.heap[sb]? =some (qn ct 65 (0,0))):=Hd (by rw[sv];exact fu.o);clear sv aN
      go_wp2_with(first|((with_reducible(refine wpList_load_row rfl 65 (Operand.tmp 7) rfl sb ?_ 65 ct (0,0) _ ?_ underlying65 ?_ ?_ ?_));(·rfl);(·exact C4.o);(·rfl);(·exact C2.o))|((with_reducible(refine wpList_store_rowTo rfl 65 (Operand.tmp 4) (Operand.tmp 77) rfl rfl rb ct ?_ ?_ 65 bN ?_ ?_ ?_ ?_ ?_));(·rfl);(·rfl);(·exact tc.o);(·exact C2.o);(·exact C3.o);(·exact C1.o)))
      refine OpW.aY results31 rfl rfl (qJ _ _ _ _ _ _ tc.o) underlying65 rfl C2.o ?_;exact⟨by rw[Dc.o,HCT.o];rfl,dj MN.o lS.o.2.1 _⟩
   ·have hle:((r2.length:Int)==((bs ws).size:Int))=false:=by rw[qP,gW];omega
    have Qv:qy (fL x l=qj #[ql bN,qk false]):=Hd (iX (by
     unfold bY;rw[lH.o,NO.o]
     cases hp:bh (fQ x.k x.c x.o) (ws.map (place (x.c==1))) r2 with
     |none=>exact hp
     |some t=>exact qZ (by have:=pZ hp;rw[List.length_map]at this;exact this) hlen))
    clear hlen uK;generalize bs ws=wsS at*;go_wp2_with(first|((with_reducible(refine wpList_store_rowTo rfl 65 (Operand.tmp 7) (Operand.tmp 55) rfl rfl W3.heap.size cs ?_ ?_ 65 bN ?_ ?_ ?_ ?_ ?_));(·rfl);(·rfl);(·exact gV _ _ _ rfl);(·exact H2.o);(·exact H3.o);(·exact H1.o))|((with_reducible(refine wpList_store_rowTo rfl 65 (Operand.tmp 4) (Operand.tmp 61) rfl rfl rb bN ?_ ?_ 65 bN ?_ ?_ ?_ ?_ ?_));(·rfl);(·rfl);(·exact(xl _ _ _ _ (by have:=qK eE.o;omega)).trans ((xm _ _ (qK eE.o)).trans eE.o));(·exact dr);(·rfl);(·exact jC)))
    refine OpW.aY results31 rfl rfl (qJ _ _ _ _ _ _ ((xl _ _ _ _ (by have:=qK eE.o;omega)).trans ((xm _ _ (qK eE.o)).trans eE.o))) underlying65 rfl dr ?_;exact⟨qX Ending.returned Qv.o.symm,dj (dj (cu.o.alloc cu.o.size _) cu.o.size _) lS.o.2.1 _⟩
theorem Lw(x:Fm)(hfs:x.fs.length≤10)(l:List Bs)(bd:l≠[])(UD:l.length≤1000001)(Zn: ∀y∈l,y.length≤1000000)(oa:Option qt)(cap:Nat)(rY:l.length≤cap)(w:qo)(hv:CV w)(rU:mN w.heap.size w oa l):
 qw qx 31 #[ql (da x).toArray,qh oa l.length cap] w fun e J=>e=qm (fL x l)∧qz w.heap.size w J:=by
 by_cases hk:x.k=1
 ·by_cases h3:l.length<3
  ·exact Et x hk l h3 oa cap w
  ·match l,h3 with
   |[],h=>simp at h
   |[_],h=>simp at h
   |[_,_],h=>simp at h
   |a::b::c::r,_=>
    by_cases hm:a=[99]∧c=x.w
    ·obtain⟨rfl,rfl⟩:=hm;exact Ew x _ (.inr ⟨hk,b,r,rfl⟩) UD oa cap rY w hv rU Zn hfs
    ·exact GA x hk _ a b c r rfl hm oa cap w rU
 ·obtain⟨a,r,rfl⟩:=List.exists_cons_of_ne_nil bd;by_cases ha:a=x.w
  ·subst ha;exact Ew x _ (.inl ⟨hk,r,rfl⟩) UD oa cap rY w hv rU Zn hfs
  ·exact Ev x hk _ a r rfl ha oa cap w rU
theorem IY: ∀p:Bs,(jz p).length≤p.length+1∧ ∀y∈jz p,y.length≤p.length
 |[]=>by simp[jz]
 |c::p=>by
  obtain⟨h1,h2⟩:=IY p;by_cases hc:c=32
  ·subst hc;rw[Ao];refine⟨by simp;omega,fun y hy=>?_⟩;rcases qG.1 hy with rfl|hy
   ·simp
   ·have:=h2 y hy;simp;omega
  ·obtain⟨s,r,e1,e2⟩:=wV c p hc;rw[e2];rw[e1]at h1 h2;refine⟨by simp at h1⊢;omega,fun y hy=>?_⟩;rcases qG.1 hy with rfl|hy
   ·have:=h2 s qc;simp;omega
   ·have:=h2 y (by simp[hy]);simp;omega
theorem AV{α:Type}(f:α→List qp)(n:Nat)(hf: ∀x,(f x).length=n): ∀(l:List α) (k:Nat) (x:α),l[k]? =some x→((l.flatMap f).drop (k*n)).take n=f x
 |[],k,x,h=>by simp at h
 |y::l,0,x,h=>by
  simp at h;subst h
  rw[qU,Nat.zero_mul,List.drop_zero,List.take_append_of_le_length (by rw[hf];exact Nat.le_refl _),qT (by rw[hf];exact Nat.le_refl _)]
 |y::l,k+1,x,h=>by
  have ih:=AV f n hf l k x (by simpa using h);rw[qU,Nat.succ_mul,Nat.add_comm,←List.drop_drop]
  have e:(f y++l.flatMap f).drop n=l.flatMap f:=by
   have:=hf y;rw[←this];simp
  rw[e,ih]
theorem Lx{k:Nat}{x:Fm}(h:jk[k]? =some x):gB.extract (k*5) (k*5+5)=(da x).toArray:=by
 apply Array.toList_inj.1;rw[xJ,xE];have e:=AV da 5 (fun _=>rfl) jk k x h;rw[show k*5+5-k*5=5 by omega];exact e
theorem Qz(k:Nat)(hk:k<27)(x:Fm)(hx:jk[k]? =some x)(w:qo):(Instr.index 107 (ql gB) (U Z (k:Int))).run qx w= .ok (ql (da x).toArray) w:=by
 have h1:(0:Int)≤(k:Int)∧(k:Int)<27:=Y
 have hi:prog.info? 106≠none:=by
  intro e;have:=BX;rw[e]at this;cases this
 cases hq:prog.info? 106 with
 |none=>exact qZ hq hi
 |some i=>
  have hs:i.size=5:=by have:=BX;rw[hq]at this;simpa using this
  have e:=Lx hx;simp[Instr.index,run_underlying underlying107,run_underlying underlying106,asIntOf,part,isAgg,sizeOf,typeInfo,hq,hs];rw[qH hk,e]
def AW:Array qp:=#[qg ⟨#[]⟩,U Z 0,U Z 0,U Z 0,qg ⟨#[]⟩]
theorem GB: ∀x∈jk,x.fs.length≤10:=qa
def nN(l:Bs):qp:=match cI (jz l)with|some t=>qj #[ql (aG t dE 0 dE),U Z 0]|none=>qj #[ql bN,U Z 320]
theorem Ly(s:ByteArray)(hs:s.size≤1000000)(w:qo)(hv:PV w):
 qw qx 19 #[qg s] w fun e J=>e=qm (nN s.data.toList)∧qz w.heap.size w J:=by
 have HV:=Hd hv;clear hv;go_enter func19,ntmps19;go_wp2_with fail
 change qw _ _ _ (w.alloc (qn bN 65)) _
 have ha:=aa w (qn bN 65);have hr0:=qA w (qn bN 65);have HA:=Hd ha;have yz:=Hd hr0;clear ha hr0;generalize w.alloc (qn bN 65)=w1 at*;refine(Bv s hs w1).mono ?_;rintro e w2⟨v,rfl,np,hb2⟩;obtain⟨l,hl⟩: ∃l,l=jz s.data.toList:=⟨_,rfl⟩;have HL:=Hd hl;have hlw:=IY s.data.toList;rw[dH]at hlw;rw[←hl]at np hlw;obtain⟨oa,cap,rfl⟩:=np.form;have Zt:qy (l.length≤cap):=Hd (Strs.cap np).2;have WM:=Hd (mN.sa np);have lS:qy (l≠[]):=Hd (by rw[hl];exact Oc _);have Ee:qy (l.length≤1000001∧ ∀y∈l,y.length≤1000000):=Hd ⟨Y,fun y hy=>by have:=hlw.2 y hy;omega⟩;have az:=Hd (gi HA.o hb2)
 have HRB:qy (w2.heap[w.heap.size]? =some (qn bN 65 (0,0))):=Hd ((hb2.block _ (qK yz.o)).trans yz.o);have Qn:=Hd (HV.o.ag az.o);obtain⟨t0,fr,hfv⟩:=Qn.o.fv;have HFV:=Hd hfv;obtain⟨rb,rk⟩: ∃rb,rb=w.heap.size:=⟨_,rfl⟩;rw[←rk]at HRB;have HRW:qy (w.heap.size≤rb∧rb<w2.heap.size):=Hd ⟨Y,qK HRB.o⟩;have sR:qy ((prog.info? 107).map (·.size)=some gB.size):=Hd (by rw[show gB.size=135 from rfl];kernel_rfl);rw[←rk];clear hl np hb2 hlw rk hfv HV HA yz;obtain⟨fc,zA⟩: ∃fc,fc=gB:=⟨_,rfl⟩;rw[←zA]at HFV sR;have Pu:=Hd zA;clear zA
 go_wp2_with((with_reducible(refine wpList_load_row rfl 107 (Operand.global 0) rfl 0 ?_ t0 fc fr _ ?_ underlying107 ?_ ?_ ?_));(·rfl);(·exact HFV.o);(·rfl);(·exact sR.o))
 go_loopw [12] (fun c wr=> ∃k:Nat,k≤27∧c=U Z (k:Int)∧(jk.take k).findSome? (bY · l)=none∧qz w2.heap.size w2 wr) (fun c _=>((27:Int)-intOf c).toNat)
 case atStart=>exact⟨0,Y,rfl,rfl,Below.refl _ _⟩
 case round=>
  obtain⟨k,hk,rfl,ux,rm⟩:=hrel;have HNO:=Hd ux;have IM:=Hd rm;clear ux rm;by_cases aN:k<27
  ·have hk1:(k:Int)<27:=by omega
   obtain⟨x,hx⟩: ∃x,jk[k]? =some x:=⟨_,qN (by rw[Aq];exact aN)⟩
   have HX:qy ((jk.take (k+1)).findSome? (bY · l)=bY x l):=Hd (by
    rw[xA,hx,List.findSome?_append,HNO.o];simp)
   have Zu:qy (x.fs.length≤10):=Hd (GB x (xp hx))
   have yu:qy (∀t,bY x l=some t→nN s.data.toList=qj #[ql (aG t dE 0 dE),U Z 0]):=Hd fun t ht=>by
    unfold nN;rw[←HL.o]
    have:cI l=some t:=by
     unfold cI
     conv=>lhs;rw[←List.take_append_drop (k+1) jk]
     rw[List.findSome?_append,HX.o,ht];rfl
    rw[this]
   have hix:=Qz k aN x hx wr;rw[←Pu.o]at hix;obtain⟨xc,hxc⟩: ∃xc,xc=(da x).toArray:=⟨_,rfl⟩;have HXC:=Hd hxc;have X1:qy (xc.all (·.oneCell')=true):=Hd (by rw[hxc];exact Zm x);have X2:qy ((prog.info? 106).map (·.size)=some xc.size):=Hd (by rw[hxc];exact BX);have X3:qy (AW.size=xc.size):=Hd (by rw[hxc];rfl);rw[←hxc]at hix;clear hx hxc;have UH:qy (qz w2.heap.size w2 ((wr.alloc (qn AW 106)).setRow wr.heap.size xc)):=Hd (dj (IM.o.alloc IM.o.size _) IM.o.size _);have vr:qy (((wr.alloc (qn AW 106)).setRow wr.heap.size xc).heap[wr.heap.size]? =some (qn xc 106 (0,0))):=Hd (qJ _ _ _ _ _ _ (qA _ _))
   go_wp2_with(first
    |((with_reducible(refine wpList_store_rowTo rfl 106 (Operand.tmp 6) (Operand.tmp 14) rfl rfl wr.heap.size xc ?_ ?_ 106 AW ?_ ?_ ?_ ?_ ?_));(·rfl);(·rfl);(·exact qA _ _);(·exact X2.o);(·exact X3.o);(·exact X1.o))
    |((with_reducible(refine wpList_load_row rfl 106 (Operand.tmp 6) rfl wr.heap.size ?_ 106 xc (0,0) _ ?_ underlying106 ?_ ?_ ?_));(·rfl);(·exact vr.o);(·rfl);(·exact X2.o)))
   change qw _ _ _ ((wr.alloc (qn AW 106)).setRow wr.heap.size xc) _
   have hpa:=Lw x Zu.o l lS.o Ee.o.1 Ee.o.2 oa cap Zt.o ((wr.alloc (qn AW 106)).setRow wr.heap.size xc) (Qn.o.cv.ag UH.o) (yx WM.o UH.o);rw[←HXC.o]at hpa;refine hpa.mono ?_;rintro e w4⟨rfl,hb4⟩;have Zv:qy (qz w2.heap.size w2 w4):=Hd (gi UH.o hb4);clear hpa hb4 UH vr HXC X1 X2 X3 hix;obtain⟨ct,ok,hv,sv⟩: ∃ct ok,fL x l=qj #[ql ct,qk ok]∧ct=aG ((bY x l).getD (fQ 0 0 0)) dE 0 dE∧ok=(bY x l).isSome:=⟨_,_,rfl,rfl,rfl⟩;have HCT:=Hd sv;have C1:qy (ct.all (·.oneCell')=true):=Hd (by rw[sv.1];exact cells_one _ _);have C2:qy ((prog.info? 65).map (·.size)=some ct.size):=Hd (by rw[sv.1];exact stepSize)
   have C3:qy (bN.size=ct.size):=Hd (by rw[sv.1];rfl);rw[hv];clear hv sv;have Lv:qy (qz w2.heap.size w2 ((w4.alloc (qn bN 65)).setRow w4.heap.size ct)):=Hd (dj (Zv.o.alloc Zv.o.size _) Zv.o.size _);have sX:qy (((w4.alloc (qn bN 65)).setRow w4.heap.size ct).heap[w4.heap.size]? =some (qn ct 65 (0,0))):=Hd (qJ _ _ _ _ _ _ (qA _ _))
   cases ok with
   |false=>
    have HNF:qy (bY x l=none):=Hd (by
     have:=HCT.o.2
     cases hp:bY x l with
     |none=>rfl
     |some t=>rw[hp]at this;cases this)
    go_wp2_with((with_reducible(refine wpList_store_rowTo rfl 65 (Operand.tmp 7) (Operand.tmp 19) rfl rfl w4.heap.size ct ?_ ?_ 65 bN ?_ ?_ ?_ ?_ ?_));(·rfl);(·rfl);(·exact qA _ _);(·exact C2.o);(·exact C3.o);(·exact C1.o))
    exact⟨⟨k+1,Y,qc,by rw[HX.o];exact HNF.o,Lv.o⟩,by simp[intOf];omega⟩
   |true=>
    have jg:qy (nN s.data.toList=qj #[ql ct,U Z 0]):=Hd (by
     have h2:=HCT.o
     cases hp:bY x l with
     |none=>rw[hp]at h2;cases h2.2
     |some t=>rw[yu.o t hp,h2.1,hp];rfl)
    have SU:qy (((w4.alloc (qn bN 65)).setRow w4.heap.size ct).heap[rb]? =some (qn bN 65 (0,0))):=Hd ((Lv.o.block rb HRW.o.2).trans HRB.o);have jd:qy (qz w.heap.size w ((w4.alloc (qn bN 65)).setRow w4.heap.size ct)):=Hd (gi az.o Lv.o)
    go_wp2_with(first
     |((with_reducible(refine wpList_store_rowTo rfl 65 (Operand.tmp 7) (Operand.tmp 19) rfl rfl w4.heap.size ct ?_ ?_ 65 bN ?_ ?_ ?_ ?_ ?_));(·rfl);(·rfl);(·exact qA _ _);(·exact C2.o);(·exact C3.o);(·exact C1.o))
     |((with_reducible(refine wpList_load_row rfl 65 (Operand.tmp 7) rfl w4.heap.size ?_ 65 ct (0,0) _ ?_ underlying65 ?_ ?_ ?_));(·rfl);(·exact sX.o);(·rfl);(·exact C2.o))
     |((with_reducible(refine wpList_store_rowTo rfl 65 (Operand.tmp 2) (Operand.tmp 22) rfl rfl rb ct ?_ ?_ 65 bN ?_ ?_ ?_ ?_ ?_));(·rfl);(·rfl);(·exact SU.o);(·exact C2.o);(·exact C3.o);(·exact C1.o)))
    refine OpW.aY results19 rfl rfl (qJ _ _ _ _ _ _ SU.o) underlying65 rfl C2.o ?_;exact⟨qX Ending.returned jg.o.symm,dj jd.o HRW.o.1 _⟩
  ·obtain rfl:k=27:=by omega
   have jg:qy (nN s.data.toList=qj #[ql bN,U Z 320]):=Hd (by
    unfold nN;rw[←HL.o]
    have:cI l=none:=by
     have h:=HNO.o;rw[qT (by rw[Aq];exact Nat.le_refl _)]at h;exact h
    rw[this])
   have adv:qy (wr.heap[rb]? =some (qn bN 65 (0,0))):=Hd ((IM.o.block rb HRW.o.2).trans HRB.o);have jd:qy (qz w.heap.size w wr):=Hd (gi az.o IM.o);clear aN hk;go_wp2_with((with_reducible(refine wpList_store_rowTo rfl 65 (Operand.tmp 2) (Operand.tmp 24) rfl rfl rb bN ?_ ?_ 65 bN ?_ ?_ ?_ ?_ ?_));(·rfl);(·rfl);(·exact adv.o);(·exact dr);(·rfl);(·exact jC))
   refine OpW.aY results19 rfl rfl (qJ _ _ _ _ _ _ adv.o) underlying65 rfl dr ?_;exact⟨qX Ending.returned jg.o.symm,dj jd.o HRW.o.1 _⟩
theorem oH{w J:qo}{B n size:Nat}{e:TypeId}{v:qp}{xs:List qp}(h:w.ownsRow B e size v n xs)(k:qz w.heap.size w J):J.ownsRow B e size v n xs:=by
 rcases h.2 with⟨h1,h2⟩|⟨g,cap',cur,h1,h2,h3,h4⟩
 ·exact⟨h.1,.inl ⟨h1,h2⟩⟩
 ·exact⟨h.1,.inr ⟨g,cap',cur,h1,h2,(k.block g (qK h3)).trans h3,h4⟩⟩
theorem AX(l:List Bs)(hl:l.length≤1000)(hj:(jj l).length≤1000000000)(oa:Option qt)(cap:Nat)(rY:l.length≤cap)(w:qo)(h:mN w.heap.size w oa l):
 qw qx 29 #[qh oa l.length cap,qg ⟨#[32]⟩] w fun e J=>e=qm (qg (bs (jj l)))∧qz w.heap.size w J:=by
 by_cases h0:l=[]
 ·subst h0;exact(Tryz.strings_Join_none oa cap ⟨#[32]⟩ w).mono fun e J ⟨h1,h2⟩=>⟨h1,by rw[h2];exact Below.refl _ _⟩
 ·have FW:0<l.length:=List.length_pos_iff.2 h0;obtain⟨a,rfl,oW,hc0⟩:=h 0 FW
  have hsp:a.spot=none:=by
   have:=World.cell?_spot hc0;simpa [Addr.add]using this
  obtain⟨b,o,sp⟩:=a;obtain rfl:sp=none:=hsp
  have wU:(l.map fun x=>(⟨x.toArray⟩:ByteArray)).map (·.data.toList)=l:=by
   rw[List.map_map];conv=>rhs;rw[←List.map_id l]
   rfl
  have key:=Tryz.strings_Join b o cap (l.map fun x=>(⟨x.toArray⟩:ByteArray)) ⟨#[32]⟩ w (by
   intro j s hs;rw[List.getElem?_map]at hs;obtain⟨x,hx,rfl⟩:=xG.1 hs;obtain⟨hj,rfl⟩:=xb.1 hx;obtain⟨a',ha',_,hc⟩:=h j hj;injection ha' with ha'
   subst ha'
   have he:(⟨b,o,none⟩:qt).add j=⟨b,o+j,none⟩:=by
    unfold Addr.add;split
    ·rename_i hj0;subst hj0;rfl
    ·rfl
   rw[he]at hc;exact hc) oW (by rw[List.length_map];omega) (by simpa using rY) (by rw[wU];show(Lib.join l [32]).length≤_;rw[sd];omega)
  rw[wU,List.length_map]at key;exact key.mono fun e J ⟨h1,h2⟩=>⟨by rw[h1];show Ending.returned (qg ⟨(Lib.join l [32]).toArray⟩)=_;rw[sd];rfl,h2⟩
abbrev iv(n:Int)(s:ByteArray):Array qp:=#[U Z n,U Z 0,U Z 0,U Z 0,U Z 0,U Z 0,qh none 0 0,qg s]
theorem gC{w:qo}{b:Nat}{n:Int}{s:ByteArray}(h:w.heap[b]? =some (qn (iv n s) 30 (0,0))):w.cell? ⟨b,0,none⟩=some (U Z n)∧w.cell? ⟨b,1,none⟩=some (U Z 0)∧w.cell? ⟨b,2,none⟩=some (U Z 0)∧w.cell? ⟨b,3,none⟩=some (U Z 0)∧w.cell? ⟨b,4,none⟩=some (U Z 0)∧w.cell? ⟨b,5,none⟩=some (U Z 0)∧w.cell? ⟨b,6,none⟩=some (qh none 0 0)∧w.cell? ⟨b,7,none⟩=some (qg s):=by
 have e: ∀i v,(iv n s)[i]? =some v→w.cell? ⟨b,i,none⟩=some v:=fun i v hv=>by rw[qI h];exact hv
 exact⟨e 0 _ rfl,e 1 _ rfl,e 2 _ rfl,e 3 _ rfl,e 4 _ rfl,e 5 _ rfl,e 6 _ rfl,e 7 _ rfl⟩
theorem QA(n:Int)(l:Bs)(hl:Lib.itoa n=l)(h0: -9223372036854775808≤n)(h1:n≤9223372036854775807)(UD:l.length≤100){w:qo}(hv:CV w):
 qw qx 18 #[ql (iv n ⟨#[]⟩)] w fun e J=>e=qm (qg (bs l))∧qz w.heap.size w J:=by
 have HV:=Hd hv;have HL:=Hd hl;have H0:=Hd h0;have H1:=Hd h1;have Ee:=Hd UD;have bu:=Hd (aa w (qn (iv n ⟨#[]⟩) 30));have IZ:qy ((w.alloc (qn (iv n ⟨#[]⟩) 30)).heap[w.heap.size]? =some (qn (iv n ⟨#[]⟩) 30 (0,0))):=Hd (qA _ _);have g:=gC IZ.o;obtain⟨g0,g1,g2,g3,g4,g5,g6,g7⟩:=g;obtain⟨w1,hw1⟩: ∃w1,w.alloc (qn (iv n ⟨#[]⟩) 30)=w1:=⟨_,rfl⟩;obtain⟨db,hdb⟩: ∃db,w.heap.size=db:=⟨_,rfl⟩;rw[hw1]at bu IZ g0 g1 g2 g3 g4 g5 g6 g7;rw[hdb]at IZ g0 g1 g2 g3 g4 g5 g6 g7;clear hv hl h0 h1 UD;go_enter func18,ntmps18;go_wp2_with fail
 refine(sD n H0.o H1.o w1 (HV.o.ag bu.o)).mono ?_;rintro e w2⟨rfl,hb2⟩;rw[HL.o];have az:=Hd (gi bu.o hb2);have mC:qy (w2.heap[db]? =some (qn (iv n ⟨#[]⟩) 30 (0,0))):=Hd ((hb2.block _ (qK IZ.o)).trans IZ.o);clear hb2 g0 g1 g2 g3 g4 g5 g6 g7 hw1 hdb;obtain⟨w3,hw3⟩: ∃w3,w2.alloc (qn #[qg (bs l)] 9)=w3:=⟨_,rfl⟩;have HST:qy (Strs w2.heap.size w3 (qh (some ⟨w2.heap.size,0,none⟩) 1 1) [l]):=Hd (by rw[←hw3];exact vq w2 w2.heap.size _ (Nat.le_refl _));have cu:qy (qz w2.heap.size w2 w3):=Hd (by rw[←hw3];exact aa w2 _)
 have fY:qy (w3.heap[db]? =some (qn (iv n ⟨#[]⟩) 30 (0,0))):=Hd ((cu.o.block _ (qK mC.o)).trans mC.o);obtain⟨g0,g1,g2,g3,g4,g5,g6,g7⟩:=gC fY.o;have dp:qy (qz w3.heap.size w3 (w3.alloc (qn #[U Z 0,U Z 0,U Z 0,U Z 0] 28))):=Hd (aa _ _);have eM:qy ((w3.alloc (qn #[U Z 0,U Z 0,U Z 0,U Z 0] 28)).heap[db]? =some (qn (iv n ⟨#[]⟩) 30 (0,0))):=Hd ((dp.o.block _ (qK fY.o)).trans fY.o);obtain⟨k0,k1,k2,k3,k4,k5,k6,k7⟩:=gC eM.o;go_wp2_with fail
 clear k0 k1 k2 k3 k4 k5 k6 k7 g0 g1 g2 g3 g4 g5 g6 g7;have UI:=Hd (oH HST.o dp.o);have pj:=Hd (mN.sa (B:=w2.heap.size) UI.o);have rU:mN (w3.alloc (qn #[U Z 0,U Z 0,U Z 0,U Z 0] 28)).heap.size (w3.alloc (qn #[U Z 0,U Z 0,U Z 0,U Z 0] 28)) (some ⟨w2.heap.size,0,none⟩) [l]:=pj.o;refine(AX [l] qc (by simp only[jj];have:=Ee.o;omega) (some ⟨w2.heap.size,0,none⟩) 1 qc _ rU).mono ?_;rintro e w9⟨rfl,hb9⟩;have zF:=Hd (gi (gi (gi az.o cu.o) dp.o) hb9);clear hb9;go_wp2_with fail
 go_ret;exact⟨rfl,zF.o⟩
theorem Lz(s:ByteArray)(hs:1≤s.size∧s.size≤1000){w:qo}(hv:CV w):
 qw qx 18 #[ql (iv 0 s)] w fun e J=>e=qm (qg (bs ([48,32,100,32]++fm s.data.toList)))∧qz w.heap.size w J:=by
 obtain⟨i0,hi,hz0,hz1,hz2⟩:=info_parts ky;have HV:=Hd hv;have HS:=Hd hs
 have bd:(s.toList==[])=false:=by
  rw[xq]
  cases h:s.data.toList with
  |nil=>exfalso;have h2:s.data.toList.length=s.size:=Array.length_toList;rw[h]at h2;have:=hs.1;simp at h2;omega
  |cons x l=>rfl
 have bu:=Hd (aa w (qn (iv 0 s) 30));have IZ:qy ((w.alloc (qn (iv 0 s) 30)).heap[w.heap.size]? =some (qn (iv 0 s) 30 (0,0))):=Hd (qA _ _);obtain⟨g0,g1,g2,g3,g4,g5,g6,g7⟩:=gC IZ.o;obtain⟨w1,hw1⟩: ∃w1,w.alloc (qn (iv 0 s) 30)=w1:=⟨_,rfl⟩;obtain⟨db,hdb⟩: ∃db,w.heap.size=db:=⟨_,rfl⟩;rw[hw1]at bu IZ g0 g1 g2 g3 g4 g5 g6 g7;rw[hdb]at IZ g0 g1 g2 g3 g4 g5 g6 g7;clear hv hs;go_enter func18,ntmps18;go_wp2_with fail
 have hi0:Lib.itoa 0=[48]:=by rw[show(0:Int)=((0:Nat):Int)from rfl,nt,Lib.decDigits,dif_pos qa];rfl
 refine(sD 0 Y Y w1 (HV.o.ag bu.o)).mono ?_;rintro e w2⟨rfl,hb2⟩;rw[hi0];clear hi0;have az:=Hd (gi bu.o hb2);have mC:qy (w2.heap[db]? =some (qn (iv 0 s) 30 (0,0))):=Hd ((hb2.block _ (qK IZ.o)).trans IZ.o);clear hb2 g0 g1 g2 g3 g4 g5 g6 g7 hw1 hdb;obtain⟨w3,hw3⟩: ∃w3,w2.alloc (qn #[qg (bs [48])] 9)=w3:=⟨_,rfl⟩;obtain⟨B,hB⟩: ∃B,w2.heap.size=B:=⟨_,rfl⟩;have HST:qy (Strs B w3 (qh (some ⟨B,0,none⟩) 1 1) [[48]]):=Hd (by rw[←hw3,←hB];exact vq w2 w2.heap.size _ (Nat.le_refl _));have cu:qy (qz w2.heap.size w2 w3):=Hd (by rw[←hw3];exact aa w2 _)
 have fY:qy (w3.heap[db]? =some (qn (iv 0 s) 30 (0,0))):=Hd ((cu.o.block _ (qK mC.o)).trans mC.o);have Zw:qy (B≤w3.heap.size):=Hd (by rw[←hB];exact cu.o.size);have adx:=Hd (gi az.o cu.o);have FQ:qy (w.heap.size≤B):=Hd (by rw[←hB];exact az.o.size);obtain⟨g0,g1,g2,g3,g4,g5,g6,g7⟩:=gC fY.o;have dp:qy (qz w3.heap.size w3 (w3.alloc (qn #[U Z 0,U Z 0,U Z 0,U Z 0] 28))):=Hd (aa _ _);have eM:qy ((w3.alloc (qn #[U Z 0,U Z 0,U Z 0,U Z 0] 28)).heap[db]? =some (qn (iv 0 s) 30 (0,0))):=Hd ((dp.o.block _ (qK fY.o)).trans fY.o);obtain⟨k0,k1,k2,k3,k4,k5,k6,k7⟩:=gC eM.o;go_wp2_with fail
 clear k0 k1 k2 k3 k4 k5 k6 k7 g0 g1 g2 g3 g4 g5 g6 g7;have UI:=Hd (oH HST.o dp.o);have ady:=Hd (gi adx.o dp.o);have adz:qy (B≤(w3.alloc (qn #[U Z 0,U Z 0,U Z 0,U Z 0] 28)).heap.size):=Hd (qM Zw.o dp.o.size);clear HST cu fY Zw adx hw3 hB dp az mC bu IZ;generalize w3.heap.size=sb at*;generalize w3.alloc (qn #[U Z 0,U Z 0,U Z 0,U Z 0] 28)=w4 at*;refine(UC s (by have:=HS.o;omega) w4).mono ?_;rintro e w5⟨rfl,hb5⟩;have ahj:=Hd (oH UI.o hb5);have ahk:=Hd (gi ady.o hb5);have ahl:qy (B≤w5.heap.size):=Hd (qM adz.o hb5.size);clear hb5 UI ady adz eM;obtain⟨hx,hhx⟩: ∃hx,fm s.data.toList=hx:=⟨_,rfl⟩
 have HHX:=Hd hhx;rw[hhx];clear hhx;obtain⟨w6,hw6⟩: ∃w6,w5.alloc (qn #[qg ⟨#[100]⟩,qg (bs hx)] 9)=w6:=⟨_,rfl⟩;obtain⟨g6,hg6⟩: ∃g6,w5.heap.size=g6:=⟨_,rfl⟩;have Ja:qy (w6.heap[g6]? =some (qn #[qg ⟨#[100]⟩,qg (bs hx)] 9 (0,0))):=Hd (by rw[←hw6,←hg6];exact qA _ _);have jd:qy (qz w5.heap.size w5 w6):=Hd (by rw[←hw6];exact aa _ _);have ahn:=Hd (oH ahj.o jd.o);have aho:=Hd (gi ahk.o jd.o);have ahp:qy (B≤w6.heap.size):=Hd (qM ahl.o jd.o.size)
 go_wp2_with(at_builtin;go_loud (refine jG rfl _ _ 22 rfl B 9 i0 (qg ⟨#[]⟩) 1 16 underlying22 hi hz0 hz1 hz2 rfl qa (qh (some ⟨B,0,none⟩) 1 1) 1 ([[48]].map gF) (by rfl) ahn.o (some ⟨g6,0,none⟩) 2 2 ([qg ⟨#[100]⟩,qg (bs hx)]) (by rfl) qc (by rfl) (fun ad AU j u hu=>by injection AU with AU;subst AU;exact World.news_of_block Ja.o j u hu) (by simp[Value.oneCell']) (by unfold maxLen;omega) Y ahp.o ?_;intro oa7 adA w7 WR WT _;have adB:=Hd WR;have Kk:=Hd (aho.o.trans (WT.mono FQ.o));clear WR WT))
 have adC:qy (Strs B w7 (qh oa7 3 adA) [[48],[100],hx]):=Hd adB.o;have HR7:=Hd (mN.sa adC.o);have Zt:=Hd (Strs.cap adC.o).2
 have HLX:qy (hx.length≤2000):=Hd (by
  rw[←HHX.o];unfold fm;split
  ·simp
  ·have h1:=nK (Ga s.data.toList);have h2:s.data.toList.length=s.size:=Array.length_toList;have:=HS.o;omega)
 have HLJ:qy ((jj [[48],[100],hx]).length≤1000000000):=Hd (by
  show([48]++32::([100]++32::hx):Bs).length≤_;have:=HLX.o;simp only[qY,xf,List.length_nil];omega)
 refine(AX [[48],[100],hx] qc HLJ.o oa7 adA Zt.o w7 HR7.o).mono ?_;rintro e w9⟨rfl,hb9⟩;have zF:=Hd (gi Kk.o hb9);clear hb9;go_wp2_with fail
 go_ret;rw[HHX.o];exact⟨rfl,zF.o⟩
