/- Part 38 of the texts that the law's walk needs. -/
import Derived.Test.YtimabpfjjpjfjaaGreatDoorM37
set_option maxHeartbeats 3200000
set_option maxRecDepth 100000
set_option linter.all false
open Go renaming World→qo,Value→qp,Calls→qw
open Go.RowKit renaming Below→qz,Hid→qy
open Go.Value renaming agg→ql,bool→qk,tuple→qj,pointer→qi,int→U
open Go.Ending renaming returned→qm
open Go.Obj renaming cells→qn
open Go.IntKind renaming i64→Z
namespace Go.Proofs.YtimabpfjjpjfjaaGreatDoor
open Tryz
open Tryz renaming prog→qx
namespace TopW
open Go.RowKit OpW OpP
variable{w J:qo}{M:List Nat}{K:CK}{c:CS}
theorem jE(T:TypeId)(g:Nat)(F:FuncId)(n:Int)(d:ByteArray)(hcur:c.cur= .iface T (pV g))(hmt: ∀(v:qp) (w:qo),(method 723 T v "Hear").run qx w= .ok (F,v) w)(CD: ∀(args:Array qp) (W:qo),(callFunc F args).run qx W= .ok (.enter F args) W)
 (w:qo) (Q R:qo→Prop) (h:bt w K c) (hg:g∉K.soft) (hgw:g<w.heap.size)
 (HA: ∀w1,qz w.heap.size w w1→qw qx F #[pV g,ql (Pz 0 n d 0),qk true] w1 fun e w2=>e=qm (qj #[])∧R w2∧Ch [g] w1 w2)
 (HG: ∀w2,R w2→bt w2 K c→Ch [g] w w2→qw qx 137 #[pV K.cb] w2 fun e J=>e=qm (qj #[])∧Q J):
 qw qx 85 #[pV K.cb,ql (Pz 0 n d 0),qk true] w fun e J=>e=qm (qj #[])∧Q J:=by
 have HH:=Hd h;have HA':=Hd HA;have HG':=Hd HG;have oU:=Hd hcur;obtain⟨wA,p,hA,hp,h1,hb,l1⟩:=aD w (qn (Pz 0 n d 0) 126);have HB:=Hd hb;have HX:=Hd h1;have HL:=Hd l1;have fM:=Hd (h.grow hb);obtain⟨b0,n0,b1,n1,b2,n2,hr,dx⟩:=fM.o.row;have c26:wA.cell? ⟨K.cb,26,none⟩=some (.iface T (pV g)):=by rw[ar hr 26 _ rfl];exact qX some hcur
 clear h h1 hb l1 hr dx hcur HA HG;go_enter func85,ntmps85;go_wp2_with fail
 clear hA hp c26
 have eO:qy (∀X,Ch [g] wA X→X.cell? ⟨K.cb,26,none⟩=some (.iface T (pV g))∧X.heap[p]? =some (qn (Pz 0 n d 0) 126 (0,0))):=Hd fun X hX=>by
  obtain⟨b0,n0,b1,n1,b2,n2,hr,dx⟩:=fM.o.row;have hh:=hX.heap hr (by intro e;simp at e;exact hg (by simp[CK.soft,←e]));exact⟨by rw[ar hh 26 _ rfl];exact qX some oU.o,hX.heap HX.o (by have:=HL.o;simp;omega)⟩
 have au:qy (Ch [g] wA wA.drew):=Hd (Ch.refl _ _).drew;have FR:qy (qz w.heap.size w wA.drew):=Hd (ai HB.o (below_drewN (Below.refl _ _) 1));refine aB 7 7 (fun X=>Ch [g] wA X) qd rfl ?_;generalize wA.drew=W0 at au FR⊢;refine tN 0 15 ?_ au.o ?_ (tN 1 16 ?_ au.o ?_ (tN 2 17 ?_ au.o ?_ (tN 3 18 ?_ au.o ?_ (tN 4 19 ?_ au.o ?_ (tN 5 20 ?_ au.o ?_ ?_)))))
 iterate 6
  rotate_left
  ·intro wq hq;obtain⟨z0,z1⟩:=eO.o wq hq;obtain⟨x0,x1,x2,x3,x4,x5,x6,x7⟩:=tf z1;exact bJ
 simp only[pS,aS,sZ,sS];refine ay 6 qd rfl rfl (al (some 21) (f:=F) (args:=#[pV g,ql (Pz 0 n d 0),qk true]) rfl qf (fun v X=>R X∧Ch [g] W0 X) ((HA'.o W0 FR.o).mono fun e J ⟨h1,h2⟩=>⟨_,h1,h2⟩) ?_);rintro v w2⟨hr2,hc2⟩;have eB:=Hd hr2;have dD:=Hd (au.o.aq hc2);have mC:qy (Ch [g] w w2):=Hd (Ch.pre FR.o hc2);have Bc:=Hd (HH.o.ag mC.o (fun x hx e=>hg (by simp at e;exact e▸hx)));clear hr2 hc2;refine⟨fun _=>dD.o,?_⟩;simp only[pS,aS,sZ,sS];refine aU qd ?_;clear eO au dD;go_wp2_with fail
 refine(HG'.o w2 eB.o Bc.o mC.o).mono ?_;rintro e w3⟨rfl,hq⟩;have HQ:=Hd hq;clear hq;go_wp2_with fail
 go_end0
 exact⟨rfl,HQ.o⟩
theorem Rh(ho:c.over=false)(w:qo)(h:bt w K c):
 qw qx 44 #[pV K.cb] w fun e J=>e=qm (qj #[ql (bz 0 0 ⟨#[]⟩),qk false])∧qz w.heap.size w J:=by
 obtain⟨wA,p,hA,hp,h1,hb,l1⟩:=aD w (qn (bz 0 0 ⟨#[]⟩) 30);have HB:=Hd hb;have HX:=Hd h1;have l2:=l1;have fM:=Hd (h.grow hb);obtain⟨b0,n0,b1,n1,b2,n2,hr,dx⟩:=fM.o.row;have c28:wA.cell? ⟨K.cb,28,none⟩=some (qk false):=by rw[ar hr 28 _ rfl,←ho];rfl
 clear h h1 hb l1 hr dx ho;go_enter func44,ntmps44;go_wp2_with(refine qE rfl 30 (Operand.tmp 2) _ rfl p _ rfl rfl 30 _ HX.o cd rfl (by simp[Value.oneCell']) ?_)
 refine aY rfl rfl rfl (qJ _ _ _ _ _ _ HX.o) underlying30 rfl cd ?_;exact⟨rfl,aj HB.o l2 _⟩
theorem Ma(ho:c.over=true)(w:qo)(h:bt w K c):
 qw qx 44 #[pV K.cb] w fun e J=>e=qm (qj #[ql (bz c.rc c.rh c.rd),qk true])∧qz w.heap.size w J:=by
 obtain⟨wA,p,hA,hp,h1,hb,l1⟩:=aD w (qn (bz 0 0 ⟨#[]⟩) 30);have HB:=Hd hb;have HX:=Hd h1;have l2:=l1;have fM:=Hd (h.grow hb);obtain⟨b0,n0,b1,n1,b2,n2,hr,dx⟩:=fM.o.row;have c28:wA.cell? ⟨K.cb,28,none⟩=some (qk true):=(ar hr 28 _ rfl).trans (qX (fun b=>some (Value.bool b)) ho);have c29:=ar hr 29 _ rfl;have c30:=ar hr 30 _ rfl;have c31:=ar hr 31 _ rfl;have c32:=ar hr 32 _ rfl;have c33:=ar hr 33 _ rfl;have c34:=ar hr 34 _ rfl;have c35:=ar hr 35 _ rfl;have c36:=ar hr 36 _ rfl;have tc:=Hd hr;obtain⟨wB,hB⟩: ∃x,wA.alloc (qn (bz c.rc c.rh c.rd) 30)=x:=⟨_,rfl⟩;obtain⟨q,hq⟩: ∃q,wA.heap.size=q:=⟨_,rfl⟩
 have HY:qy (wB.heap[q]? =some (qn (bz c.rc c.rh c.rd) 30 (0,0))):=Hd (by rw[←hB,←hq];exact qA _ _);have Zw:qy (qz wA.heap.size wA wB):=Hd (by rw[←hB];exact aa _ _);obtain⟨wC,hC⟩: ∃x,wB.setCell ⟨q,6,none⟩ (.slice none 0 0)=x:=⟨_,rfl⟩;have HY2:qy (wC.heap[q]? =some (qn (bz c.rc c.rh c.rd) 30 (0,0))):=Hd (by rw[←hC];exact(av (i:=6) HY.o _).trans rfl);have HBC:qy (qz wA.heap.size wA wC):=Hd (by rw[←hC];exact((Ch.af (M:=[]) Zw.o).set (b:=q) 6 _ (.inr Y) (fun _ _ _ _=> .inr Y)).below qc (Nat.le_refl _));have aF:=Hd (ae HBC.o HX.o);obtain⟨y0,y1,y2,y3,y4,y5,y6,y7⟩:=tf HY.o
 obtain⟨v0,v1,v2,v3,v4,v5,v6,v7⟩:=tf HY2.o;have ye:=cn HY.o 6;clear h h1 hb l1 hr dx ho;go_enter func44,ntmps44;go_wp2_with((with_reducible(refine qE rfl 30 (Operand.tmp 2) (Operand.tmp 23) rfl p (bz c.rc c.rh c.rd) ?_ ?_ 30 (bz 0 0 ⟨#[]⟩) ?_ ?_ ?_ ?_ ?_));(·rfl);(·rfl);(·exact aF.o);(·exact cd);(·rfl);(·simp[Value.oneCell']))
 try simp only[Act.put]
 refine aY rfl rfl rfl (qJ _ _ _ _ _ _ aF.o) underlying30 rfl cd ?_;exact⟨rfl,aj (ai HB.o HBC.o) l2 _⟩
variable{w'':qo}
theorem vB{ops:Array Oper}{rest:List Oper}{op:Oper}{a:Act}{w:qo}{Q:Exit→Act→qo→Prop}(uR:op.guard=none)(x:Operand)(ho:op.op= .load 63 x)
 (b:Nat) (cs:Array qp) (hx:a.eval x=qi (some ⟨b,0,none⟩)) (hb:w.heap[b]? =some (qn cs 63 (0,0))) (ff:cs.size=18) (h:wpList qx ops Q rest (a.put op.dst (ql cs)) w):wpList qx ops Q (op::rest) a w:=by
 refine wpList_load_mid uR 63 x ho b 0 hx cs.toList _ (nP hb (fun j v hv=>by simpa using hv)) underlying63 rfl (uc.trans (by simp[ff])) ?_;simpa using h
abbrev CS.begin(c:CS)(a:ConP.MI)(mv:qp):CS:={c with a:=a,mv:=mv,busy:=true,app:=false,over:=false,rc:=0,rh:=0,rd:=⟨#[]⟩}
theorem ko.grow{r:Rec}{t:iI}(h:ko w J K c r t)(k:qz J.heap.size J w''):ko w w'' K c r t:=by
 obtain⟨ab,p,q,p1,p2,p3,h1,h2,h3,h4,h5,h6,h7,h8⟩:=h.ex;have kc:=Ch.af (M:=[]) k;exact⟨⟨ab,p,q,p1,p2,p3,h1.grow k,h2.ag kc qc,h3.grow k,h4.grow k,h5.grow k,LU.ag h6 kc,h7.grow k,h8⟩,h.ch.step k⟩
theorem ko.idle{r:Rec}{t:iI}(h:ko w J K c r t):qw qx 137 #[pV K.cb] J fun e w''=>e=qm (qj #[])∧qz J.heap.size J w'':=by
 obtain⟨ab,p,q,p1,p2,p3,h1,h2,h3,h4,h5,h6,h7,h8⟩:=h.ex;exact kO ab _ 2 0 0 false qa rfl J h1 h2
theorem oT.grow{t:iI}(h:oT w J K c t)(k:qz J.heap.size J w''):oT w w'' K c t:=by
 obtain⟨tb,p,q,h1,h2,h3,h4,h5⟩:=h.ex;have kc:=Ch.af (M:=[]) k;exact⟨⟨tb,p,q,h1.grow k,h2.ag kc qc,h3.grow k,h4.grow k,h5⟩,h.ch.step k⟩
theorem oT.pre{wm:qo}{t:iI}(k:qz w.heap.size w wm)(h:oT wm J K c t):oT w J K c t:=by
 obtain⟨tb,p,q,h1,h2,h3,h4,h5⟩:=h.ex;exact⟨⟨tb,p,q,h1,h2,h3,h4,qM k.size h5⟩,Ch.pre k h.ch⟩
theorem oT.idle{t:iI}(h:oT w J K c t):qw qx 137 #[pV K.cb] J fun e w''=>e=qm (qj #[])∧qz J.heap.size J w'':=by
 obtain⟨tb,p,q,h1,h2,h3,h4,h5⟩:=h.ex;exact zK tb 1 0 qa rfl J h1 h2
theorem ko.after{wm:qo}{r:Rec}{t:iI}(k:Ch [K.cb] w wm)(h:ko wm J K c r t):ko w J K c r t:=by
 obtain⟨ab,p,q,p1,p2,p3,h1,h2,h3,h4,h5,h6,h7,h8⟩:=h.ex;exact⟨⟨ab,p,q,p1,p2,p3,h1,h2,h3,h4,h5,h6,h7,qM k.size h8⟩,k.aq h.ch⟩
theorem oT.after{wm:qo}{t:iI}(k:Ch [K.cb] w wm)(h:oT wm J K c t):oT w J K c t:=by
 obtain⟨tb,p,q,h1,h2,h3,h4,h5⟩:=h.ex;exact⟨⟨tb,p,q,h1,h2,h3,h4,qM k.size h5⟩,k.aq h.ch⟩
abbrev GX(p:Nat):iI:=⟨184,#[pV p]⟩
theorem Ri(p:Nat):(GX p).ok:=fun args W=>by simp[GX,go_sem]
theorem Mb(w:qo)(h:bt w K c):
 qw qx 131 #[pV K.cb] w fun e J=>e=qm (qj #[])∧ ∃p,oT w J K c (GX p)∧Bx J p 39 (pV K.cb):=by
 obtain⟨wA,p,hA,hp,h1,hb,l1⟩:=aD w (qn #[pV K.cb] 39);have HB:=Hd hb;have HP:=Hd h1;have fM:=Hd (h.grow hb);have z0:=Bx.cell h1;have zB: ∀(fn:Fn) (first cap:Array qp) (w:qo),(Instr.makeFunc fn first cap).run qx w= .ok (.func fn first cap) w:=fun _ _ _ _=>rfl;clear h h1 hb l1;go_enter func131,ntmps131;go_wp2_with fail
 refine(EI (GX p) wA fM.o).mono ?_;rintro e w2⟨rfl,h1⟩;have H1:=Hd (oT.pre HB.o h1);have H2:=Hd (Bx.ag HP.o h1.ch qa);clear h1;go_wp2_with fail
 go_end0
 exact⟨rfl,p,H1.o,H2.o⟩
theorem oJ(a:ConP.MI)(mv:qp)(w:qo)(h:bt w K c): ∃wA p b0 n0 w2 w3 w4,w.alloc (qn (rD a mv) 63)=wA∧w.heap.size=p∧qy (wA.heap[p]? =some (qn (rD a mv) 63 (0,0)))∧qy (w.heap.size≤p)∧qy (wA.heap[K.cb]? =some (qn (rp K b0 n0 c) 80 (0,0)))∧
 wA.setCells K.cb 6 (rD a mv).toList=w2∧qy (w2.heap[K.cb]? =some (qn (rp K b0 n0 {c with a:=a,mv:=mv}) 80 (0,0)))∧((w2.setCell ⟨K.cb,24,none⟩ (qk true)).setCell ⟨K.cb,28,none⟩ (qk false)).setCell ⟨K.cb,25,none⟩ (qk false)=w3∧qy (w3.heap[K.cb]? =some (qn (rp K b0 n0 {c with a:=a,mv:=mv,busy:=true,over:=false,app:=false}) 80 (0,0)))∧w3.setCells K.cb 29 (bz 0 0 ⟨#[]⟩).toList=w4∧qy (w4.heap[K.cb]? =some (qn (rp K b0 n0 (c.begin a mv)) 80 (0,0)))∧qy (bt w4 K (c.begin a mv))∧qy (w4.heap[p]? =some (qn (rD a mv) 63 (0,0)))∧qy (Ch [K.cb] w w4):=by
 have HH:=Hd h;obtain⟨wA,p,hA,hp,h1,hb,l1⟩:=aD w (qn (rD a mv) 63);have HB:=Hd hb;have HX:=Hd h1;have HL:=Hd l1;have fM:=Hd (h.grow hb);obtain⟨b0,n0,b1,n1,b2,n2,hr,dx⟩:=fM.o.row;have HR:=Hd hr;have UR:=Hd dx;obtain⟨w2,hw2⟩: ∃x,wA.setCells K.cb 6 (rD a mv).toList=x:=⟨_,rfl⟩;have dD:qy (Ch [K.cb] wA w2):=Hd (by rw[←hw2];exact kC qa _ 6 _ _ hr);have eB:qy (w2.heap[K.cb]? =some (qn (rp K b0 n0 {c with a:=a,mv:=mv}) 80 (0,0))):=Hd (by rw[←hw2];exact(fR _ 6 _ _ hr).trans (by rw[ZN]))
 have R1:(w2.setCell ⟨K.cb,24,none⟩ (qk true)).heap[K.cb]? =some (qn (rp K b0 n0 {c with a:=a,mv:=mv,busy:=true}) 80 (0,0)):=(av (i:=24) eB.o (qk true)).trans rfl;have R2:((w2.setCell ⟨K.cb,24,none⟩ (qk true)).setCell ⟨K.cb,28,none⟩ (qk false)).heap[K.cb]? =some (qn (rp K b0 n0 {c with a:=a,mv:=mv,busy:=true,over:=false}) 80 (0,0)):=(av (i:=28) R1 (qk false)).trans rfl;obtain⟨w3,hw3⟩: ∃x,((w2.setCell ⟨K.cb,24,none⟩ (qk true)).setCell ⟨K.cb,28,none⟩ (qk false)).setCell ⟨K.cb,25,none⟩ (qk false)=x:=⟨_,rfl⟩
 have eE:qy (w3.heap[K.cb]? =some (qn (rp K b0 n0 {c with a:=a,mv:=mv,busy:=true,over:=false,app:=false}) 80 (0,0))):=Hd (by rw[←hw3];exact(av (i:=25) R2 (qk false)).trans rfl);have jY:qy (Ch [K.cb] w2 w3):=Hd (by rw[←hw3];exact((Ch.dn eB.o qa 24 _).aq (Ch.dn R1 qa 28 _)).aq (Ch.dn R2 qa 25 _));obtain⟨w4,hw4⟩: ∃x,w3.setCells K.cb 29 (bz 0 0 ⟨#[]⟩).toList=x:=⟨_,rfl⟩;have iH:qy (Ch [K.cb] w3 w4):=Hd (by rw[←hw4];exact kC qa _ 29 _ _ eE.o);have pj:qy (w4.heap[K.cb]? =some (qn (rp K b0 n0 (c.begin a mv)) 80 (0,0))):=Hd (by rw[←hw4];exact(fR _ 29 _ _ eE.o).trans (by rw[QX]))
 have HCA:qy (Ch [K.cb] wA w4):=Hd ((dD.o.aq jY.o).aq iH.o);have mL:qy (bt w4 K (c.begin a mv)):=Hd (fM.o.oX HCA.o ⟨b0,n0,b1,n1,b2,n2,pj.o,UR.o.ag HCA.o⟩ rfl rfl);have jA:=Hd (HCA.o.heap HX.o (by have:=HH.o.lt K.cb (by simp[CK.soft]);have:=HL.o;simp;omega));have eM:qy (Ch [K.cb] w w4):=Hd (Ch.pre HB.o HCA.o);exact⟨wA,p,b0,n0,w2,w3,w4,hA,hp,HX,HL,HR,hw2,eB,hw3,eE,hw4,pj,mL,jA,eM⟩
theorem Mc(a:ConP.MI)(mv:qp)(GY:mv.oneCell'=true)(hk:a.k=6)(nR:c.busy=false)(tick:Int)(y:zb)(kq:c.buf=some y)(hh:a.h=y.h)(jZ:Fit (Jk c y))(hs:(OpW.encS (Jk c y)).size≤4096)(ve:0≤c.sq∧c.sq≤4294967296)(w:qo)(h:bt w K c)(hf:Fl w)(hK: ∀x∈K.soft,10≤x):
 qw qx 83 #[pV K.cb,ql (rD a mv),U Z tick] w fun e J=>e=qm (U Z 0)∧ ∃q,ko w J K (c.begin a mv) (Jk c y) (GU q)∧Bx J q 39 (pV K.cb):=by
 have HH:=Hd h;obtain⟨wA,p,b0,n0,w2,w3,w4,hA,hp,HX,HL,HR,hw2,eB,hw3,eE,hw4,pj,mL,jA,eM⟩:=oJ a mv w h;have i24:wA.cell? ⟨K.cb,24,none⟩=some (qk false):=(ar HR.o 24 _ rfl).trans (qX (fun b=>some (Value.bool b)) nR);have j24:=ar eB.o 24 _ rfl;have j25:=ar eB.o 25 _ rfl;have j28:=ar eB.o 28 _ rfl;have k24:=cn eB.o 24;have k25:=cn eB.o 25;have k28:=cn eB.o 28;have x4: ∀i v,(rD a mv)[i]? =some v→w4.cell? ⟨p,i,none⟩=some v:=fun i v hv=>by rw[qI jA.o];exact hv
 have d_0:w4.cell? ⟨p,0,none⟩=some (U Z 6):=(x4 0 _ rfl).trans (qX (fun z=>some (U Z z)) hk);have UX:=x4 14 _ rfl;have UY:=x4 15 _ rfl;have UZ:=x4 16 _ rfl;have Va:=x4 17 _ rfl;have ahR:=Hd hh;clear hh;have GZ:=Hd kq;clear kq;have Hb:=Hd jZ;clear jZ;have aab:=Hd hs;clear hs;clear h nR x4 hk;go_enter func83,ntmps83
 go_wp2_with(first
  |((with_reducible(refine vB rfl (Operand.tmp 4) rfl p (rD a mv) ?_ ?_ ?_ ?_));(·rfl);(·exact HX.o);(·rfl))
  |((with_reducible(refine wpList_store_mid rfl 63 (Operand.tmp 23) (Operand.tmp 20) rfl K.cb 6 (rD a mv) ?_ ?_ ?_ ?_ ?_ ?_));(·rfl);(·rfl);(·exact fS HR.o qc);(·exact uc);(·simp[Value.oneCell'];exact GY);(rw[hw2]))
  |((with_reducible(refine wpList_store_mid rfl 30 (Operand.tmp 31) (Operand.tmp 21) rfl K.cb 29 (bz 0 0 ⟨#[]⟩) ?_ ?_ ?_ ?_ ?_ ?_));(·rfl);(·rfl);(·exact fS eE.o qc);(·exact cd);(·simp[Value.oneCell']);(rw[hw4])))
 have LZ:=Hd (mD hf eM.o (fun x hx=>hK x (bQ x hx)));refine(LX (c:=c.begin a mv) y GZ.o ahR.o Hb.o aab.o ve w4 LZ.o hK mL.o).mono ?_;rintro e w5⟨rfl,q,h1,h2⟩;have H1:=Hd (h1.after eM.o);have H2:=Hd h2;clear h1 h2;go_wp2_with fail
 refine H1.o.idle.mono ?_;rintro e w6⟨rfl,hb6⟩;have H3:=Hd (H1.o.grow hb6);have H4:=Hd (H2.o.grow hb6);clear hb6;go_wp2_with fail
 go_ret;exact⟨rfl,q,H3.o,H4.o⟩
theorem Vb(a:ConP.MI)(mv:qp)(GY:mv.oneCell'=true)(hk:a.k=1)(nR:c.busy=false)(tick:Int)(BG:0≤tick∧tick≤1000000000)(hm:(yI (c.begin a mv) tick).m=[])(oQ:mv= .slice none 0 0)(jZ:Fit (yI (c.begin a mv) tick))(hg:OpP.ck (yI (c.begin a mv) tick)=true)(hko:a.o.k=11∨a.o.k=12∨1≤a.o.k∧a.o.k≤9)(hs:(OpW.encS (yI (c.begin a mv) tick)).size≤4096)(ve:0≤c.sq∧c.sq≤4294967296)(w:qo)(h:bt w K c)(hf:Fl w)(hK: ∀x∈K.soft,10≤x):
 qw qx 83 #[pV K.cb,ql (rD a mv),U Z tick] w fun e J=>e=qm (U Z 0)∧ ∃q,ko w J K (c.begin a mv) (yI (c.begin a mv) tick) (yH q)∧Bx J q 39 (pV K.cb):=by
 have HH:=Hd h;obtain⟨wA,p,b0,n0,w2,w3,w4,hA,hp,HX,HL,HR,hw2,eB,hw3,eE,hw4,pj,mL,jA,eM⟩:=oJ a mv w h;have i24:wA.cell? ⟨K.cb,24,none⟩=some (qk false):=(ar HR.o 24 _ rfl).trans (qX (fun b=>some (Value.bool b)) nR);have j24:=ar eB.o 24 _ rfl;have j25:=ar eB.o 25 _ rfl;have j28:=ar eB.o 28 _ rfl;have k24:=cn eB.o 24;have k25:=cn eB.o 25;have k28:=cn eB.o 28;have x4: ∀i v,(rD a mv)[i]? =some v→w4.cell? ⟨p,i,none⟩=some v:=fun i v hv=>by rw[qI jA.o];exact hv
 have d_0:w4.cell? ⟨p,0,none⟩=some (U Z 1):=(x4 0 _ rfl).trans (qX (fun z=>some (U Z z)) hk);have UX:=x4 14 _ rfl;have UY:=x4 15 _ rfl;have UZ:=x4 16 _ rfl;have Va:=x4 17 _ rfl;have ahS:=Hd hm;clear hm;have aej:=Hd oQ;clear oQ;have Hb:=Hd jZ;clear jZ;have ahT:=Hd hg;clear hg;have aek:=Hd hko;clear hko;have aab:=Hd hs;clear hs;clear h nR x4 hk;go_enter func83,ntmps83
 go_wp2_with(first
  |((with_reducible(refine vB rfl (Operand.tmp 4) rfl p (rD a mv) ?_ ?_ ?_ ?_));(·rfl);(·exact HX.o);(·rfl))
  |((with_reducible(refine wpList_store_mid rfl 63 (Operand.tmp 23) (Operand.tmp 20) rfl K.cb 6 (rD a mv) ?_ ?_ ?_ ?_ ?_ ?_));(·rfl);(·rfl);(·exact fS HR.o qc);(·exact uc);(·simp[Value.oneCell'];exact GY);(rw[hw2]))
  |((with_reducible(refine wpList_store_mid rfl 30 (Operand.tmp 31) (Operand.tmp 21) rfl K.cb 29 (bz 0 0 ⟨#[]⟩) ?_ ?_ ?_ ?_ ?_ ?_));(·rfl);(·rfl);(·exact fS eE.o qc);(·exact cd);(·simp[Value.oneCell']);(rw[hw4])))
 have LZ:=Hd (mD hf eM.o (fun x hx=>hK x (bQ x hx)));refine(ZY (c:=c.begin a mv) tick BG ahS.o aej.o Hb.o ahT.o aek.o aab.o ve w4 LZ.o hK mL.o).mono ?_;rintro e w5⟨rfl,q,h1,h2⟩;have H1:=Hd (h1.after eM.o);have H2:=Hd h2;clear h1 h2;go_wp2_with fail
 refine H1.o.idle.mono ?_;rintro e w6⟨rfl,hb6⟩;have H3:=Hd (H1.o.grow hb6);have H4:=Hd (H2.o.grow hb6);clear hb6;go_wp2_with fail
 go_ret;exact⟨rfl,q,H3.o,H4.o⟩
theorem Bd(a:ConP.MI)(mv:qp)(GY:mv.oneCell'=true)(hk:a.k=4)(nR:c.busy=false)(tick:Int)(hf0:0≤a.f∧a.f≤8192)(hs0:0≤a.s∧a.s≤8192)(w:qo)(h:bt w K c):
 qw qx 83 #[pV K.cb,ql (rD a mv),U Z tick] w fun e J=>e=qm (U Z 0)∧ ∃q,oT w J K (c.begin a mv) (GX q)∧Bx J q 39 (pV K.cb):=by
 have HH:=Hd h;obtain⟨wA,p,b0,n0,w2,w3,w4,hA,hp,HX,HL,HR,hw2,eB,hw3,eE,hw4,pj,mL,jA,eM⟩:=oJ a mv w h;have i24:wA.cell? ⟨K.cb,24,none⟩=some (qk false):=(ar HR.o 24 _ rfl).trans (qX (fun b=>some (Value.bool b)) nR);have j24:=ar eB.o 24 _ rfl;have j25:=ar eB.o 25 _ rfl;have j28:=ar eB.o 28 _ rfl;have k24:=cn eB.o 24;have k25:=cn eB.o 25;have k28:=cn eB.o 28;have x4: ∀i v,(rD a mv)[i]? =some v→w4.cell? ⟨p,i,none⟩=some v:=fun i v hv=>by rw[qI jA.o];exact hv
 have d_0:w4.cell? ⟨p,0,none⟩=some (U Z 4):=(x4 0 _ rfl).trans (qX (fun z=>some (U Z z)) hk);have UX:=x4 14 _ rfl;have UY:=x4 15 _ rfl;have UZ:=x4 16 _ rfl;have Va:=x4 17 _ rfl;clear h nR x4 hk;go_enter func83,ntmps83
 go_wp2_with(first
  |((with_reducible(refine vB rfl (Operand.tmp 4) rfl p (rD a mv) ?_ ?_ ?_ ?_));(·rfl);(·exact HX.o);(·rfl))
  |((with_reducible(refine wpList_store_mid rfl 63 (Operand.tmp 23) (Operand.tmp 20) rfl K.cb 6 (rD a mv) ?_ ?_ ?_ ?_ ?_ ?_));(·rfl);(·rfl);(·exact fS HR.o qc);(·exact uc);(·simp[Value.oneCell'];exact GY);(rw[hw2]))
  |((with_reducible(refine wpList_store_mid rfl 30 (Operand.tmp 31) (Operand.tmp 21) rfl K.cb 29 (bz 0 0 ⟨#[]⟩) ?_ ?_ ?_ ?_ ?_ ?_));(·rfl);(·rfl);(·exact fS eE.o qc);(·exact cd);(·simp[Value.oneCell']);(rw[hw4])))
 refine(Mb (c:=c.begin a mv) w4 mL.o).mono ?_;rintro e w5⟨rfl,q,h1,h2⟩;have H1:=Hd (h1.after eM.o);have H2:=Hd h2;clear h1 h2;go_wp2_with fail
 refine H1.o.idle.mono ?_;rintro e w6⟨rfl,hb6⟩;have H3:=Hd (H1.o.grow hb6);have H4:=Hd (H2.o.grow hb6);clear hb6;go_wp2_with fail
 go_ret;exact⟨rfl,q,H3.o,H4.o⟩
theorem Hc(a:ConP.MI)(mv:qp)(GY:mv.oneCell'=true)(hk:a.k=5)(nR:c.busy=false)(tick:Int)(kq:c.buf=none)(hy:(0≤a.h∧a.h<16384)∧0≤a.f∧a.f≤7000∧1≤a.d.size∧a.d.size≤1024)(w:qo)(h:bt w K c):
 qw qx 83 #[pV K.cb,ql (rD a mv),U Z tick] w fun e J=>e=qm (U Z 0)∧bt J K (({c.begin a mv with buf:=some ⟨a.h,a.f,a.d⟩}:CS).fin 0 0 ⟨#[]⟩)∧Ch [K.cb,K.bb] w J:=by
 have HH:=Hd h;obtain⟨wA,p,b0,n0,w2,w3,w4,hA,hp,HX,HL,HR,hw2,eB,hw3,eE,hw4,pj,mL,jA,eM⟩:=oJ a mv w h;have i24:wA.cell? ⟨K.cb,24,none⟩=some (qk false):=(ar HR.o 24 _ rfl).trans (qX (fun b=>some (Value.bool b)) nR);have j24:=ar eB.o 24 _ rfl;have j25:=ar eB.o 25 _ rfl;have j28:=ar eB.o 28 _ rfl;have k24:=cn eB.o 24;have k25:=cn eB.o 25;have k28:=cn eB.o 28;have x4: ∀i v,(rD a mv)[i]? =some v→w4.cell? ⟨p,i,none⟩=some v:=fun i v hv=>by rw[qI jA.o];exact hv
 have d_0:w4.cell? ⟨p,0,none⟩=some (U Z 5):=(x4 0 _ rfl).trans (qX (fun z=>some (U Z z)) hk);have UX:=x4 14 _ rfl;have UY:=x4 15 _ rfl;have UZ:=x4 16 _ rfl;have Va:=x4 17 _ rfl;have GZ:=Hd kq;clear kq;clear h nR x4 hk;go_enter func83,ntmps83
 go_wp2_with(first
  |((with_reducible(refine vB rfl (Operand.tmp 4) rfl p (rD a mv) ?_ ?_ ?_ ?_));(·rfl);(·exact HX.o);(·rfl))
  |((with_reducible(refine wpList_store_mid rfl 63 (Operand.tmp 23) (Operand.tmp 20) rfl K.cb 6 (rD a mv) ?_ ?_ ?_ ?_ ?_ ?_));(·rfl);(·rfl);(·exact fS HR.o qc);(·exact uc);(·simp[Value.oneCell'];exact GY);(rw[hw2]))
  |((with_reducible(refine wpList_store_mid rfl 30 (Operand.tmp 31) (Operand.tmp 21) rfl K.cb 29 (bz 0 0 ⟨#[]⟩) ?_ ?_ ?_ ?_ ?_ ?_));(·rfl);(·rfl);(·exact fS eE.o qc);(·exact cd);(·simp[Value.oneCell']);(rw[hw4])))
 have eO:qy (∀X,(Ch [K.cb,K.bb] w4 X∧X.cell? ⟨K.cb,5,none⟩=some (pV K.bb))→X.cell? ⟨p,14,none⟩=some (U Z a.h)∧X.cell? ⟨p,15,none⟩=some (U Z a.f)∧X.cell? ⟨p,17,none⟩=some (.string a.d)):=Hd fun X hX=>by
  have hh:=hX.1.heap jA.o (by have h1:=HH.o.lt K.cb (by simp[CK.soft]);have h2:=HH.o.lt K.bb (by simp[CK.soft]);have:=HL.o;simp;omega);exact⟨by rw[qI hh];rfl,by rw[qI hh];rfl,by rw[qI hh];rfl⟩
 have au:qy (Ch [K.cb,K.bb] w4 w4.drew∧w4.drew.cell? ⟨K.cb,5,none⟩=some (pV K.bb)):=Hd ⟨(Ch.refl _ _).drew,ar pj.o 5 _ rfl⟩;have ki:qy (bt w4.drew K (c.begin a mv)):=Hd (mL.o.ag (M:=[]) (Ch.refl _ _).drew qc);clear hA hp hw2 hw3 hw4 d_0 UX UY UZ Va i24 j24 j25 j28 k24 k25 k28;refine aB 14 14 (fun X=>Ch [K.cb,K.bb] w4 X∧X.cell? ⟨K.cb,5,none⟩=some (pV K.bb)) qd rfl ?_;generalize w4.drew=W0 at au ki⊢
 refine tN 0 74 ?_ au.o ?_ (tN 1 75 ?_ au.o ?_ (tN 2 76 ?_ au.o ?_ (tN 3 77 ?_ au.o ?_ (tN 4 78 ?_ au.o ?_ (tN 5 79 ?_ au.o ?_ (tN 6 80 ?_ au.o ?_ (tN 7 81 ?_ au.o ?_ (tN 8 82 ?_ au.o ?_ (tN 9 83 ?_ au.o ?_ (tN 10 84 ?_ au.o ?_ (tN 11 85 ?_ au.o ?_ ?_)))))))))))
 iterate 12
  rotate_left
  ·intro wq hq;have z0:=hq.2;obtain⟨z1,z2,z3⟩:=eO.o wq hq;exact bJ
 simp only[pS,aS,sZ,sS];refine ay 12 qd rfl rfl (al (some 86) (f:=132) (args:=#[pV K.bb,ql (CC ⟨a.h,a.f,a.d⟩)]) rfl qf (fun v X=>v=U Z 0∧fG X K.bb (some ⟨a.h,a.f,a.d⟩)∧Ch [K.bb] W0 X) ((Ls K.bb ⟨a.h,a.f,a.d⟩ hy W0 (GZ.o▸ki.o.bf)).mono fun e J ⟨h1,h2⟩=>⟨_,h1,rfl,h2⟩) ?_);rintro v w5⟨rfl,h1,h2⟩;have Rf:qy (bt w5 K ({c.begin a mv with buf:=some ⟨a.h,a.f,a.d⟩}:CS)):=Hd (ki.o.QW h2 h1)
 have br:qy (Ch [K.cb,K.bb] w4 w5∧w5.cell? ⟨K.cb,5,none⟩=some (pV K.bb)):=Hd ⟨au.o.1.aq (h2.mono qc),by
  obtain⟨b0,n0,b1,n1,b2,n2,hr,dx⟩:=Rf.o.row;exact ar hr 5 _ rfl⟩
 clear h1 h2;refine⟨fun _=>br.o,?_⟩;simp only[pS,aS,sZ,sS];refine ay 13 qd rfl rfl (al (some 87) (f:=130) (args:=#[pV K.cb,U Z 0]) rfl qf (fun v X=>bt X K (({c.begin a mv with buf:=some ⟨a.h,a.f,a.d⟩}:CS).fin 0 0 ⟨#[]⟩)∧Ch [K.cb] w5 X) ((yE 0 w5 Rf.o).mono fun e J ⟨h1,h2⟩=>⟨_,h1,h2⟩) ?_);rintro v w6⟨h1,h2⟩;have UW:=Hd h1
 have dT:qy (Ch [K.cb,K.bb] w4 w6∧w6.cell? ⟨K.cb,5,none⟩=some (pV K.bb)):=Hd ⟨br.o.1.aq (h2.mono qc),by
  obtain⟨b0,n0,b1,n1,b2,n2,hr,dx⟩:=UW.o.row;exact ar hr 5 _ rfl⟩
 have vA:qy (Ch [K.cb,K.bb] w w6):=Hd ((eM.o.mono qc).aq dT.o.1);clear h1 h2;refine⟨fun _=>dT.o,?_⟩;simp only[pS,aS,sZ,sS];refine aU qd ?_;clear eO au ki br dT;go_wp2_with fail
 refine(Rc rfl w6 UW.o).mono ?_;rintro e w7⟨rfl,hb7⟩;have HH7:=Hd (UW.o.grow hb7);have eQ:=Hd (vA.o.step hb7);clear hb7;go_wp2_with fail
 go_ret;exact⟨rfl,HH7.o,eQ.o⟩
end TopW
namespace TopW
open Go.RowKit OpW
variable{w J:qo}{M:List Nat}
theorem Rj(w:qo):qw qx 66 #[U Z 3000] w fun e J=>e=qm (qj #[pV (w.heap.size+1),U Z 0])∧eh J (w.heap.size+1) w.heap.size 0 (fun _=>none)∧qz w.heap.size w J∧J.heap.size=w.heap.size+2:=by
 have Ij:= @run_makeMap qx;have H0:qy (an sV mY ctV (w.alloc (.map #[] 0)) w.heap.size 0 (fun _=>none)):=Hd (an.made w);go_enter func66,ntmps66;go_wp2
 go_ret2
 refine⟨rfl,⟨?_,?_⟩,ai (aa w _) (aa _ _),qc⟩
 ·have:=qA (w.alloc (.map #[] 0)) (qn #[U Z 3000,.map (some w.heap.size),U Z 0] 213);rw[World.size_alloc]at this;exact this
 ·exact an.alloc H0.o _
theorem Rk(w:qo):qw qx 38 #[U Z 3000] w fun e J=> ∃u p m,e=qm (qj #[pV u,U Z 0])∧eh J p m 0 (fun _=>none)∧J.heap[u]? =some (qn #[pV p,U Z 0,qk false] 166 (0,0))∧w.heap.size≤m∧w.heap.size≤u∧w.heap.size≤p∧qz w.heap.size w J:=by
 go_enter func38,ntmps38;go_wp2_with fail
 refine(Rj w).mono ?_;rintro e w1⟨rfl,h1,h2,h3⟩;have H1:=Hd h1;have H2:=Hd h2;have H3:=Hd h3;clear h1 h2 h3;go_wp2_with fail
 go_ret2
 exact⟨_,_,_,rfl,H1.o.ag (M:=[]) (Ch.af (aa _ _)) qc,qA _ _,Nat.le_refl _,by have:=H3.o;omega,Y,ai H2.o (aa _ _)⟩
theorem He(w:qo):qw qx 37 #[] w fun e J=>e=qm (pV w.heap.size)∧J.heap[w.heap.size]? =some (qn #[U Z (-1),qk false,U Z 0] 161 (0,0))∧qz w.heap.size w J:=by
 go_enter func37,ntmps37;go_wp2
 go_ret;exact⟨rfl,qA _ _,aa _ _⟩
theorem EM(n:Nat)(w:qo):qw qx 24 #[pV n] w fun e J=>e=qm (pV w.heap.size)∧J.heap[w.heap.size]? =some (qn #[pV n,.slice none 0 0] 132 (0,0))∧qz w.heap.size w J:=by
 go_enter func24,ntmps24;go_wp2
 go_ret;exact⟨rfl,qA _ _,aa _ _⟩
theorem Md(ob:Nat)(w:qo)(h:w.heap[ob]? =some (qn #[U Z (-1),qk false,U Z 0] 161 (0,0))):
 qw qx 68 #[pV ob,ql (bF 8 0 0 0 0 0 ⟨#[]⟩)] w fun e J=>e=qm (ql bG)∧km J ob 0∧Ch [ob] w J:=by
 have HH:=Hd h;have HW:=Hd (aP w (qn (bF 8 0 0 0 0 0 ⟨#[]⟩) 129) (qn bG 126));clear h;go_enter func68,ntmps68;go_wp2_with fail
 generalize(w.alloc (qn (bF 8 0 0 0 0 0 ⟨#[]⟩) 129)).alloc (qn bG 126)=W at HW⊢;obtain⟨hA,hB,hb,hz⟩:=HW.o;have HB:=Hd hb;have St:=Hd hA;have fu:=Hd hB;have HO:=Hd (ae hb HH.o);have bd:ob<w.heap.size:=qK HH.o;obtain⟨o0,o1,o2⟩:=bS HO.o;obtain⟨a0,a1,a2,a3,_⟩:=eX hA;clear hA hB hb HW hz
 go_quiet (fail)
 have az:qy (qz w.heap.size w (W.drewN nq)):=Hd (below_drewN HB.o nq);have HAY:qy ((W.drewN nq).heap[w.heap.size]? =some (qn (bF 8 0 0 0 0 0 ⟨#[]⟩) 129 (0,0))):=Hd St.o;have oE:qy ((W.drewN nq).heap[w.heap.size+1]? =some (qn bG 126 (0,0))):=Hd fu.o;have HOY:qy ((W.drewN nq).heap[ob]? =some (qn #[U Z (-1),qk false,U Z 0] 161 (0,0))):=Hd HO.o;clear o0 o1 o2 a0 a1 a2 a3 HB St fu HO;generalize W.drewN nq=W1 at az HAY oE HOY⊢;obtain⟨a0,a1,a2,a3,_⟩:=eX HAY.o;go_wp2_with fail
 clear a0 a1 a2 a3;have fP:qy (Ch [ob] W1 W1.drew):=Hd (Ch.refl _ _).drew;have yz:qy (W1.drew.heap[ob]? =some (qn #[U Z (-1),qk false,U Z 0] 161 (0,0))):=Hd HOY.o;have eO:qy (∀X,Ch [ob] W1 X→X.heap[w.heap.size]? =some (qn (bF 8 0 0 0 0 0 ⟨#[]⟩) 129 (0,0))):=Hd fun X hX=>hX.heap HAY.o (by simp;omega);refine aB 16 16 (fun X=>Ch [ob] W1 X) qd rfl ?_;generalize W1.drew=W0 at fP yz⊢;refine tN 0 24 ?_ fP.o ?_ (tN 1 25 ?_ fP.o ?_ (tN 2 26 ?_ fP.o ?_ (tN 3 27 ?_ fP.o ?_ (tN 4 28 ?_ fP.o ?_ (tN 5 29 ?_ fP.o ?_ (tN 6 30 ?_ fP.o ?_ (tN 7 31 ?_ fP.o ?_ (tN 8 32 ?_ fP.o ?_ ?_))))))))
 iterate 9
  rotate_left
  ·intro wq hq;obtain⟨a0,a1,a2,a3,_⟩:=eX (eO.o wq hq);exact bJ
 simp only[pS,aS,sZ,sS];obtain⟨o0,o1,o2⟩:=bS yz.o;have f0:=cn yz.o 0;have fF:qy (Ch [ob] W1 (W0.setCell ⟨ob,0,none⟩ (U Z 0))):=Hd (fP.o.aq (Ch.dn yz.o qa 0 _));have oG:=Hd (av (i:=0) yz.o (U Z 0));refine ay 9 qd rfl rfl (bm none (J:=W0.setCell ⟨ob,0,none⟩ (U Z 0)) rfl qf ⟨fun _=>fF.o,?_⟩);simp only[Act.put];clear o0 o1 o2 f0 fP yz;simp only[aS,sZ,sS]at oG;generalize W0.setCell ⟨ob,0,none⟩ (U Z 0)=W2 at fF oG⊢;refine tN 10 33 ?_ fF.o ?_ (tN 11 34 ?_ fF.o ?_ ?_)
 iterate 2
  rotate_left
  ·intro wq hq;exact bJ
 simp only[pS,aS,sZ,sS];obtain⟨o0,o1,o2⟩:=bS oG.o;have f0:=cn oG.o 2;have dD:qy (Ch [ob] W1 (W2.setCell ⟨ob,2,none⟩ (U Z 0))):=Hd (fF.o.aq (Ch.dn oG.o qa 2 _));have eB:=Hd (av (i:=2) oG.o (U Z 0));refine ay 12 qd rfl rfl (bm none (J:=W2.setCell ⟨ob,2,none⟩ (U Z 0)) rfl qf ⟨fun _=>dD.o,?_⟩);simp only[Act.put];clear o0 o1 o2 f0 fF oG;simp only[aS,sZ,sS]at eB;generalize W2.setCell ⟨ob,2,none⟩ (U Z 0)=W3 at dD eB⊢;refine tN 13 35 ?_ dD.o ?_ (tN 14 36 ?_ dD.o ?_ ?_)
 iterate 2
  rotate_left
  ·intro wq hq;exact bJ
 simp only[pS,aS,sZ,sS];obtain⟨o0,o1,o2⟩:=bS eB.o;have f0:=cn eB.o 1;have jY:qy (Ch [ob] W1 (W3.setCell ⟨ob,1,none⟩ (qk true))):=Hd (dD.o.aq (Ch.dn eB.o qa 1 _));have eE:=Hd (av (i:=1) eB.o (qk true));refine ay 15 qd rfl rfl (bm none (J:=W3.setCell ⟨ob,1,none⟩ (qk true)) rfl qf ⟨fun _=>jY.o,?_⟩);simp only[Act.put];clear o0 o1 o2 f0 dD eB;simp only[aS,sZ,sS]at eE;generalize W3.setCell ⟨ob,1,none⟩ (qk true)=W4 at jY eE⊢;refine aU qd ?_;have Ss:=Hd (jY.o.heap oE.o (by simp;omega))
 go_wp2_with(refine qE rfl 126 (Operand.tmp 4) _ rfl (w.heap.size+1) _ rfl rfl 126 _ Ss.o bp rfl (by simp[Value.oneCell']) ?_)
 refine aR rfl rfl rfl (qJ _ _ _ _ _ _ Ss.o) underlying126 rfl bp ?_;refine⟨rfl,?_,?_⟩
 ·unfold km;rw[xl _ _ _ _ Y];exact eE.o
 ·exact((Ch.af az.o).aq jY.o).row Y _
theorem Me(ob:Nat)(w:qo)(h:w.heap[ob]? =some (qn #[U Z (-1),qk false,U Z 0] 161 (0,0))):
 qw qx 39 #[qi (some ⟨ob,0,none⟩),ql (bF 8 0 0 0 0 0 ⟨#[]⟩)] w fun e J=>
  e=qm (ql bG)∧km J ob 0∧Ch [ob] w J:=by
 have HH:=Hd h;have HW:=Hd (aP w (qn (bF 8 0 0 0 0 0 ⟨#[]⟩) 129) (qn bG 126));have zB: ∀(fn:Fn) (first cap:Array qp) (w:qo),(Instr.makeFunc fn first cap).run qx w= .ok (.func fn first cap) w:=fun _ _ _ _=>rfl;clear h;go_enter func39,ntmps39;go_wp2_with fail
 generalize(w.alloc (qn (bF 8 0 0 0 0 0 ⟨#[]⟩) 129)).alloc (qn bG 126)=W at HW⊢;obtain⟨hA,hB,hb,hz⟩:=HW.o;have HB:=Hd hb;have fu:=Hd hB;have HZ:=Hd hz;clear hA hB hb HW hz;refine(Md ob _ (ae HB.o HH.o)).mono ?_;rintro e2 w2⟨rfl,h5,h6⟩;have rC:ob<w.heap.size:=qK HH.o;have oE:=Hd (h6.heap fu.o (by simp;omega));have HO:=Hd h5;have HC:=Hd ((Ch.af (M:=[ob]) HB.o).aq h6);have dY:w.heap.size+2≤w2.heap.size:=by have:=h6.size;have:=HZ.o;omega
 obtain⟨p0,_,_⟩:=bS h5;have p3: ∀O:Obj,(w2.alloc O).cell? ⟨ob,0,none⟩=some (U Z 0):=fun O=>aA p0;have aN:ob<w2.heap.size:=Y;have Ui: ¬w2.heap.size=ob:=Y;have zk: ¬ob=w2.heap.size:=Y;clear h5 h6 zB;have HE:qy ((w2.alloc (qn (bG) 126)).heap[w.heap.size+1]? =some (qn bG 126 (0,0))):=Hd (ae (aa _ _) oE.o);go_wp2_with(refine qE rfl 126 (Operand.tmp 4) _ rfl (w.heap.size+1) _ rfl rfl 126 _ HE.o bp rfl (by simp[Value.oneCell']) ?_)
 refine aR rfl rfl rfl (qJ _ _ _ _ _ _ HE.o) underlying126 rfl bp ?_;refine⟨rfl,?_,(HC.o.alloc _).row Y _⟩;unfold km;rw[xl _ _ _ _ Y];exact ae (aa _ _) HO.o
open OpP
abbrev mP:ByteArray:=⟨#[]⟩
theorem Rl{r:Rec}(hg:ck r=true):Fit r:=by
 obtain⟨h1,h2,h3,h4⟩:=re hg;exact⟨Y,Y,Y,Y⟩
theorem lX{r:Rec}(hg:ck r=true):Ce (OpW.encS r) r∧(OpW.encS r).size≤4096:=by
 obtain⟨h1,h2,h3,h4,h5⟩:=DO hg;have e:OpW.encS r=⟨((fds r).flatMap gh).toArray⟩:=by rw[OpW.encS,qH hg]
 have hs:(OpW.encS r).size≤3000:=by rw[e];show((fds r).flatMap gh).toArray.size≤3000;rw[List.size_toArray,←h3];exact h5
 refine⟨⟨Y,?_⟩,Y⟩;rw[TE fq TF];exact⟨hg,by rw[e]⟩
def fJ(O:Int→Option oR)(c:Int)(y:oR):Int→Option oR:=fun z=>if z=c then some y else O z
theorem Be(O:Int→Option oR)(c:Int)(y:oR)(z:Int):dQ (fJ O c y) z=if z=c then y else dQ O z:=by
 unfold dQ fJ;split<;>rfl
structure dK(V:SV)(r:Rec)(y:oR)(V':SV):Prop where
 cV:ck r=true
 m:r.m=[]
 cl:0≤r.cl∧r.cl<8
 sq:y.s=r.sq
 n:V'.n=V.n+1
 nn:0≤V.n
 O:V'.O=fJ V.O r.cl y
 app: ∀B:SB,(∀x∈B.soft,10≤x)→ZS B V (OpW.encS r) V'
theorem rr{V V':SV}{r:Rec}(hg:ck r=true)(hm:r.m=[])(vi:0≤r.cl∧r.cl<8)(hk:InoW.kI r.k)(K:FuncId)(hK:doG r.k=some K)(CD: ∀args W,(callFunc K args).run qx W= .ok (.enter K args) W)
 (jJ:(dQ V.O r.cl).s<r.sq) (rc rh:Int) (hn:0≤V.n∧V.n<16384) (hn':V'.n=V.n+1) (hO:V'.O=V.O)
 (HK: ∀(B:SB) (mv:qp) (w:qo),eH w B {V with n:=V.n+1}→qw qx K #[qi (some ⟨B.st,0,none⟩),U Z V.n,ql (ju r.cl r.sq r.k r.p r.t r.sz r.h r.o r.d r.tk r.i mv)] w fun e J=>e=qm (ql #[U Z rc,U Z rh])∧eH J B V'∧Ch B.soft w J):
 dK V r ⟨r.sq,rc,rh⟩ {V' with O:=fJ V.O r.cl ⟨r.sq,rc,rh⟩} where
 cV:=hg
 m:=hm
 cl:=vi
 sq:=rfl
 n:=hn'
 nn:=hn.1
 O:=rfl
 app:=fun B hB w hs hf=>(LS r (OpW.encS r) (lX hg).1 vi hk K hK CD V' jJ rc rh V.n hn rfl hO (HK B) w hf hB hs).mono fun e J ⟨h1,h2,h3⟩=>⟨⟨_,h1⟩,h2,h3⟩
theorem Jm(z:Int)(h:0≤z∧z≤1000000):InoW.kI z:=by
 unfold InoW.kI;have h1:IntKind.i64.min≤z:=by show(-9223372036854775808:Int)≤z;omega
 have h2:z≤IntKind.i64.max:=by show z≤(9223372036854775807:Int);omega
 simp only[Lit.wf,h1,h2,decide_true,Bool.and_self]
