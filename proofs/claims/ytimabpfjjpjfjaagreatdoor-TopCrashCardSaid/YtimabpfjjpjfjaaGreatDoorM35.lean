/- Part 35 of the texts that the law's walk needs. -/
import Derived.Test.YtimabpfjjpjfjaaGreatDoorM31
import Derived.Test.YtimabpfjjpjfjaaGreatDoorM34
set_option maxHeartbeats 3200000
set_option maxRecDepth 100000
set_option linter.all false
open Go renaming World→qo,Value→qp,Calls→qw
open Go.Obj renaming cells→qn
open Go.Value renaming pointer→qi,int→U,agg→ql,string→qg
open Go.IntKind renaming i64→Z
open Go.RowKit renaming Below→qz,Hid→qy
open Go.Ending renaming returned→qm
namespace Go.Proofs.YtimabpfjjpjfjaaGreatDoor
open Tryz
open Tryz renaming prog→qx
namespace TopW
open Go.RowKit OpW
variable{w J:qo}{M:List Nat}
theorem tZ{hb b:Nat}{H:List cN.Ha}{ls:List Int}(h:bq.lT w hb b H ls)(k:Ch M w J)(h1:hb∉M)(h2:b∉M):bq.lT J hb b H ls:=
 ⟨k.heap h.head h1,by obtain⟨n,hm⟩:=h.map;exact⟨n,hm.of_block (k.block b (an.lt hm) h2)⟩,h.cV⟩
theorem QJ{hb b:Nat}{H:List cN.Ha}{ls:List Int}(h:bq.lT w hb b H ls): ∀cs t fr,w.heap[b]? =some (qn cs t fr)→t∉kU:=by
 intro cs t fr hc;obtain⟨n,es,clock,hm,_⟩:=h.map;rw[hm]at hc;cases hc
theorem ua{hb b:Nat}{H:List cN.Ha}{ls:List Int}(h:bq.lT w hb b H ls)(k:ax b w J):Ch [hb,b] w J:=Ch.lI k qc (QJ h)
theorem GN{hb b:Nat}{H:List cN.Ha}{ls:List Int}(h:bq.lT w hb b H ls)(k:ax hb w J):Ch [hb,b] w J:=
 Ch.lI k qc fun cs t fr hc=>by
  rw[h.head]at hc;injection hc with hc;injection hc with _ e _
  exact e▸qa
structure SB where
 st:Nat
 rb:Nat
 tb:Nat
 ib:Nat
 nb:Nat
 db:Nat
 cb:Nat
 hb:Nat
 hm:Nat
 ob:Nat
 om:Nat
def SB.soft(B:SB):List Nat:=[B.st,B.tb,B.ib,B.db,B.cb,B.hb,B.hm,B.om]
structure SV where
 L:List InoP.dw
 nx:Int
 D:List DirP.En
 H:List cN.Ha
 ls:List Int
 O:Int→Option oR
 n:Int
abbrev stC(B:SB)(n:Int):Array qp:=#[qi (some ⟨B.rb,0,none⟩),qi (some ⟨B.hb,0,none⟩),qi (some ⟨B.ob,0,none⟩),U Z n]
structure eH(w:qo)(B:SB)(V:SV):Prop where
 head:w.heap[B.st]? =some (qn (stC B V.n) 84 (0,0))
 t:en w B.rb B.tb B.ib B.nb B.db B.cb V.L V.nx V.D
 h:bq.lT w B.hb B.hm V.H V.ls
 o:zH w B.ob B.om V.O
 nd:B.soft.Nodup
variable{B:SB}{V:SV}
theorem eH.ag(h:eH w B V)(k:Ch M w J)(hn: ∀x∈B.soft,x∉M):eH J B V:=by
 have hn': ∀x,x∈B.soft→x∉M:=hn;unfold SB.soft at hn';refine⟨k.heap h.head (hn' _ qc),h.t.ag k fun x hx=>hn' x ?_,tZ h.h k (hn' _ qc) (hn' _ qc),h.o.ag k (hn' _ qc),h.nd⟩;simp only[qG,qQ,xt]at hx⊢;rcases hx with h|h|h|h<;>simp[h]
theorem eH.lt(h:eH w B V): ∀x∈B.soft,x<w.heap.size:=by
 intro x hx;unfold SB.soft at hx;simp only[qG,qQ,xt]at hx;have ht:=h.t.lt;have hh:=h.h.lt;rcases hx with rfl|rfl|rfl|rfl|rfl|rfl|rfl|rfl
 ·exact qK h.head
 ·exact ht _ qc
 ·exact ht _ qc
 ·exact ht _ qc
 ·exact ht _ qc
 ·exact hh.1
 ·exact hh.2
 ·exact h.o.lt
theorem eH.grow(h:eH w B V)(k:qz w.heap.size w J):eH J B V:=h.ag (M:=[]) (Ch.af k) qc
theorem eH.fI{L:List InoP.dw}{nx:Int}{D:List DirP.En}(h:eH w B V)(k:Ch [B.tb,B.ib,B.db,B.cb] w J)(ht:en J B.rb B.tb B.ib B.nb B.db B.cb L nx D):eH J B {V with L:=L,nx:=nx,D:=D}:=by
 have nd1:=h.nd;have oI:B.soft.reverse.Nodup:=List.pairwise_reverse.2 (List.Pairwise.imp (fun h=>Ne.symm h) h.nd);simp only[SB.soft,List.reverse_cons,List.reverse_nil,xk,xd,xC,qG,qQ,xt,not_or]at nd1 oI;exact⟨k.heap h.head (by simp[nd1,oI]),ht,tZ h.h k (by simp[nd1,oI]) (by simp[nd1,oI]),h.o.ag k (by simp[nd1,oI]),h.nd⟩
theorem eH.Je{H:List cN.Ha}{ls:List Int}(h:eH w B V)(k:Ch [B.hb,B.hm] w J)(hh:bq.lT J B.hb B.hm H ls):eH J B {V with H:=H,ls:=ls}:=by
 have nd1:=h.nd;have oI:B.soft.reverse.Nodup:=List.pairwise_reverse.2 (List.Pairwise.imp (fun h=>Ne.symm h) h.nd);simp only[SB.soft,List.reverse_cons,List.reverse_nil,xk,xd,xC,qG,qQ,xt,not_or]at nd1 oI;refine⟨k.heap h.head (by simp[nd1,oI]),h.t.ag k ?_,hh,h.o.ag k (by simp[nd1,oI]),h.nd⟩;intro x hx;simp only[qG,qQ,xt]at hx⊢;rcases hx with rfl|rfl|rfl|rfl<;>simp[nd1,oI]
theorem eH.QK{O:Int→Option oR}(h:eH w B V)(k:Ch [B.om] w J)(ho:zH J B.ob B.om O):eH J B {V with O:=O}:=by
 have nd1:=h.nd;have oI:B.soft.reverse.Nodup:=List.pairwise_reverse.2 (List.Pairwise.imp (fun h=>Ne.symm h) h.nd);simp only[SB.soft,List.reverse_cons,List.reverse_nil,xk,xd,xC,qG,qQ,xt,not_or]at nd1 oI;refine⟨k.heap h.head (by simp[nd1,oI]),h.t.ag k ?_,tZ h.h k (by simp[nd1,oI]) (by simp[nd1,oI]),ho,h.nd⟩;intro x hx;simp only[qG,qQ,xt]at hx⊢;rcases hx with rfl|rfl|rfl|rfl<;>simp[nd1,oI]
theorem eH.Jb{n:Int}(h:eH w B V)(k:Ch [B.st] w J)(hd:J.heap[B.st]? =some (qn (stC B n) 84 (0,0))):eH J B {V with n:=n}:=by
 have nd1:=h.nd;have oI:B.soft.reverse.Nodup:=List.pairwise_reverse.2 (List.Pairwise.imp (fun h=>Ne.symm h) h.nd);simp only[SB.soft,List.reverse_cons,List.reverse_nil,xk,xd,xC,qG,qQ,xt,not_or]at nd1 oI;refine⟨hd,h.t.ag k ?_,tZ h.h k (by simp[nd1,oI]) (by simp[nd1,oI]),h.o.ag k (by simp[nd1,oI]),h.nd⟩;intro x hx;simp only[qG,qQ,xt]at hx⊢;rcases hx with rfl|rfl|rfl|rfl<;>simp[nd1,oI]
theorem lz(e:Int)(w:qo):qw qx 404 #[U Z e] w fun r J=>r=qm (ql #[U Z e,U Z 0])∧qz w.heap.size w J:=by
 go_enter func404,ntmps404;go_wp2_with fail
 refine aR rfl rfl rfl (qA _ _) underlying279 rfl cZ ?_;exact⟨rfl,aa _ _⟩
def ZJ(k:Nat):qp:= .func (.func k) #[] #[]
def doG(z:Int):Option Nat:=if z=14 then some 374 else if z=13 then some 373 else if z=12 then some 372 else if z=11 then some 371 else if z=10 then some 370 else if z=9 then some 369 else if z=8 then some 368 else if z=7 then some 367 else if z=6 then some 367 else if z=5 then some 367 else if z=4 then some 367 else if z=3 then some 367 else if z=2 then some 367 else if z=1 then some 367 else none
theorem yD(w:qo):qw qx 319 #[] w fun e J=> ∃m n,e=qm (.map (some m))∧an InoW.iV InoW.kI ZJ J m n doG∧qz w.heap.size w J:=by
 have Ij:= @run_makeMap qx;have H0:qy (an InoW.iV InoW.kI ZJ (w.alloc (.map #[] 0)) w.heap.size 0 (fun _=>none)):=Hd (an.made w);obtain⟨w1,WX,hm1,ho1,hs1⟩:=an.store H0.o InoW.sW underlying444 1 367 (InoW.ew Y);have r1:(Instr.mapUpdate 444 (.map (some w.heap.size)) (U Z 1) (.func (.func 367) #[] #[])).run qx (w.alloc (.map #[] 0))= .ok () w1:=WX;have H1:=Hd hm1;have O1:=Hd ho1;clear WX hm1 ho1 hs1;obtain⟨w2,WY,hm2,ho2,hs2⟩:=an.store H1.o InoW.sW underlying444 2 367 (InoW.ew Y);have r2:(Instr.mapUpdate 444 (.map (some w.heap.size)) (U Z 2) (.func (.func 367) #[] #[])).run qx w1= .ok () w2:=WY
 have H2:=Hd hm2;have O2:=Hd ho2;clear WY hm2 ho2 hs2;obtain⟨w3,WZ,hm3,ho3,hs3⟩:=an.store H2.o InoW.sW underlying444 3 367 (InoW.ew Y);have r3:(Instr.mapUpdate 444 (.map (some w.heap.size)) (U Z 3) (.func (.func 367) #[] #[])).run qx w2= .ok () w3:=WZ;have H3:=Hd hm3;have O3:=Hd ho3;clear WZ hm3 ho3 hs3;obtain⟨w4,Xa,hm4,ho4,hs4⟩:=an.store H3.o InoW.sW underlying444 4 367 (InoW.ew Y);have r4:(Instr.mapUpdate 444 (.map (some w.heap.size)) (U Z 4) (.func (.func 367) #[] #[])).run qx w3= .ok () w4:=Xa;have H4:=Hd hm4;have O4:=Hd ho4;clear Xa hm4 ho4 hs4
 obtain⟨w5,Xb,hm5,ho5,hs5⟩:=an.store H4.o InoW.sW underlying444 5 367 (InoW.ew Y);have r5:(Instr.mapUpdate 444 (.map (some w.heap.size)) (U Z 5) (.func (.func 367) #[] #[])).run qx w4= .ok () w5:=Xb;have H5:=Hd hm5;have O5:=Hd ho5;clear Xb hm5 ho5 hs5;obtain⟨w6,pz,hm6,ho6,hs6⟩:=an.store H5.o InoW.sW underlying444 6 367 (InoW.ew Y);have r6:(Instr.mapUpdate 444 (.map (some w.heap.size)) (U Z 6) (.func (.func 367) #[] #[])).run qx w5= .ok () w6:=pz;have H6:=Hd hm6;have O6:=Hd ho6;clear pz hm6 ho6 hs6;obtain⟨w7,uL,hm7,ho7,hs7⟩:=an.store H6.o InoW.sW underlying444 7 367 (InoW.ew Y)
 have r7:(Instr.mapUpdate 444 (.map (some w.heap.size)) (U Z 7) (.func (.func 367) #[] #[])).run qx w6= .ok () w7:=uL;have H7:=Hd hm7;have O7:=Hd ho7;clear uL hm7 ho7 hs7;obtain⟨w8,Xc,hm8,ho8,hs8⟩:=an.store H7.o InoW.sW underlying444 8 368 (InoW.ew Y);have r8:(Instr.mapUpdate 444 (.map (some w.heap.size)) (U Z 8) (.func (.func 368) #[] #[])).run qx w7= .ok () w8:=Xc;have H8:=Hd hm8;have O8:=Hd ho8;clear Xc hm8 ho8 hs8;obtain⟨w9,Xd,hm9,ho9,hs9⟩:=an.store H8.o InoW.sW underlying444 9 369 (InoW.ew Y)
 have r9:(Instr.mapUpdate 444 (.map (some w.heap.size)) (U Z 9) (.func (.func 369) #[] #[])).run qx w8= .ok () w9:=Xd;have H9:=Hd hm9;have O9:=Hd ho9;clear Xd hm9 ho9 hs9;obtain⟨w10,QL,hm10,ho10,hs10⟩:=an.store H9.o InoW.sW underlying444 10 370 (InoW.ew Y);have r10:(Instr.mapUpdate 444 (.map (some w.heap.size)) (U Z 10) (.func (.func 370) #[] #[])).run qx w9= .ok () w10:=QL;have H10:=Hd hm10;have O10:=Hd ho10;clear QL hm10 ho10 hs10;obtain⟨w11,QM,hm11,ho11,hs11⟩:=an.store H10.o InoW.sW underlying444 11 371 (InoW.ew Y)
 have r11:(Instr.mapUpdate 444 (.map (some w.heap.size)) (U Z 11) (.func (.func 371) #[] #[])).run qx w10= .ok () w11:=QM;have H11:=Hd hm11;have O11:=Hd ho11;clear QM hm11 ho11 hs11;obtain⟨w12,QN,hm12,ho12,hs12⟩:=an.store H11.o InoW.sW underlying444 12 372 (InoW.ew Y);have r12:(Instr.mapUpdate 444 (.map (some w.heap.size)) (U Z 12) (.func (.func 372) #[] #[])).run qx w11= .ok () w12:=QN;have H12:=Hd hm12;have O12:=Hd ho12;clear QN hm12 ho12 hs12;obtain⟨w13,QO,hm13,ho13,hs13⟩:=an.store H12.o InoW.sW underlying444 13 373 (InoW.ew Y)
 have r13:(Instr.mapUpdate 444 (.map (some w.heap.size)) (U Z 13) (.func (.func 373) #[] #[])).run qx w12= .ok () w13:=QO;have H13:=Hd hm13;have O13:=Hd ho13;clear QO hm13 ho13 hs13;obtain⟨w14,QP,hm14,ho14,hs14⟩:=an.store H13.o InoW.sW underlying444 14 374 (InoW.ew Y);have r14:(Instr.mapUpdate 444 (.map (some w.heap.size)) (U Z 14) (.func (.func 374) #[] #[])).run qx w13= .ok () w14:=QP;have H14:=Hd hm14;have O14:=Hd ho14;clear QP hm14 ho14 hs14;go_enter func319,ntmps319;go_wp2_with fail
 go_ret;have hb:qz w.heap.size w w1:=(aa w (.map #[] 0)).trans (O1.o.below (Nat.le_refl _) qc);have hb:=hb.trans (O2.o.below (Nat.le_refl _) hb.size);have hb:=hb.trans (O3.o.below (Nat.le_refl _) hb.size);have hb:=hb.trans (O4.o.below (Nat.le_refl _) hb.size);have hb:=hb.trans (O5.o.below (Nat.le_refl _) hb.size);have hb:=hb.trans (O6.o.below (Nat.le_refl _) hb.size);have hb:=hb.trans (O7.o.below (Nat.le_refl _) hb.size);have hb:=hb.trans (O8.o.below (Nat.le_refl _) hb.size);have hb:=hb.trans (O9.o.below (Nat.le_refl _) hb.size);have hb:=hb.trans (O10.o.below (Nat.le_refl _) hb.size)
 have hb:=hb.trans (O11.o.below (Nat.le_refl _) hb.size);have hb:=hb.trans (O12.o.below (Nat.le_refl _) hb.size);have hb:=hb.trans (O13.o.below (Nat.le_refl _) hb.size);have hb:=hb.trans (O14.o.below (Nat.le_refl _) hb.size);exact⟨w.heap.size,_,rfl,an.congr H14.o rfl,hb⟩
theorem eH.cells(h:eH w B V):w.cell? ⟨B.st,0,none⟩=some (qi (some ⟨B.rb,0,none⟩))∧w.cell? ⟨B.st,1,none⟩=some (qi (some ⟨B.hb,0,none⟩))∧w.cell? ⟨B.st,2,none⟩=some (qi (some ⟨B.ob,0,none⟩))∧w.cell? ⟨B.st,3,none⟩=some (U Z V.n):=kE h.head
theorem iA{x:Nat}(h:x∈[B.tb,B.ib,B.db,B.cb]):x∈B.soft:=by
 simp only[SB.soft,qG,qQ,xt]at h⊢;rcases h with h|h|h|h<;>simp[h]
theorem nO{x:Nat}(h:x∈[B.hb,B.hm]):x∈B.soft:=by
 simp only[SB.soft,qG,qQ,xt]at h⊢;rcases h with h|h<;>simp[h]
abbrev ju(cl sq k:Int)(p t:ByteArray)(sz h o:Int)(d:ByteArray)(tk i:Int)(mv:qp):Array qp:=#[U Z cl,U Z sq,U Z k,qg p,qg t,U Z sz,U Z h,U Z o,qg d,U Z tk,U Z i,mv]
theorem Ca(cl sq sz hh o tk i:Int)(t d:ByteArray)(mv:qp)(addr ino:Int)(hf:DirW.yg V.D 1 nA=0)(hc:decide (64≤DirP.cT V.D 1)=false)(hE:InoP.iu V.L V.nx 2=0)(hI:InoP.mu V.L V.nx 2=ino)(bI:InoW.kI ino)(hk:(InoW.bL V.L 1).k=1)(w:qo)(h:eH w B V):
 qw qx 367 #[qi (some ⟨B.st,0,none⟩),U Z addr,ql (ju cl sq 3 pA t sz hh o d tk i mv)] w fun e J=>e=qm (ql #[U Z 0,U Z 0])∧eH J B {V with L:=InoP.eT (InoP.kr V.L V.nx 2) ino 1,nx:=InoP.kt V.L V.nx 2,D:=DirW.tQ V.D 1 nA ino}∧Ch B.soft w J:=by
 have HW:=Hd (aP w (qn (ju cl sq 3 pA t sz hh o d tk i mv) 61) (qn #[U Z 0,U Z 0] 279));have HS:=Hd h;have dO:=Hd h.lt;have HF:=Hd hf;have HC:=Hd hc;have HE:=Hd hE;have HI:=Hd hI;have uq:=Hd bI;have HK:=Hd hk;have f0: ∀A A':Obj,((w.alloc A).alloc A').cell? ⟨B.st,0,none⟩=some (qi (some ⟨B.rb,0,none⟩)):=fun A A'=>aA (aA h.cells.1);clear h hf hc hE hI bI hk;go_enter func367,ntmps367;go_wp2_with fail
 generalize(w.alloc (qn (ju cl sq 3 pA t sz hh o d tk i mv) 61)).alloc (qn #[U Z 0,U Z 0] 279)=W at HW⊢;obtain⟨hA,hB,hb,hz⟩:=HW.o;have lH:=Hd hb;have tc:=Hd hB;have sK:=Hd (HS.o.grow hb);clear f0 hA hB hb hz HW;refine(QE ino HF.o HC.o HE.o HI.o uq.o HK.o W sK.o.t).mono ?_;rintro e w2⟨rfl,h2,hc2⟩;have cX:=Hd (sK.o.fI hc2 h2);have dD:qy (Ch B.soft w w2):=Hd (Ch.pre lH.o (hc2.mono fun _ hm=>iA hm));have eB:=Hd (hc2.heap tc.o (fun hx=>qZ (dO.o _ (iA hx)) Y));clear h2 hc2;go_wp2_with fail
 refine(lz 0 w2).mono ?_;rintro e w3⟨rfl,hb3⟩;have eP:=Hd (cX.o.grow hb3);have jY:=Hd (dD.o.step hb3);have eE:=Hd (ae hb3 eB.o);clear hb3;go_wp2_with(refine qE rfl 279 (Operand.tmp 6) _ rfl (w.heap.size+1) _ rfl rfl 279 _ eE.o cZ rfl (by simp[Value.oneCell']) ?_)
 try simp only[Act.put]
 refine aR rfl rfl rfl (qJ _ _ _ _ _ _ eE.o) underlying279 rfl cZ ?_;exact⟨rfl,eP.o.ag (Ch.kj eE.o qa _) (fun x hx=>by have:=dO.o x hx;simp;omega),jY.o.row Y _⟩
theorem Cb(cl sq sz hh o tk i:Int)(t d:ByteArray)(mv:qp)(addr ino:Int)(hf:DirW.yg V.D 1 nA=ino)(hc:(ino==0)=false)(bI:InoW.kI ino)(hE:(InoW.bL V.L ino).k=2)(hk:(InoW.bL V.L 1).k=1)(w:qo)(h:eH w B V):
 qw qx 367 #[qi (some ⟨B.st,0,none⟩),U Z addr,ql (ju cl sq 5 pA t sz hh o d tk i mv)] w fun e J=>e=qm (ql #[U Z 0,U Z 0])∧eH J B {V with L:=InoP.eT V.L ino (-1),D:=DirP.del V.D (1,nA)}∧Ch B.soft w J:=by
 have HW:=Hd (aP w (qn (ju cl sq 5 pA t sz hh o d tk i mv) 61) (qn #[U Z 0,U Z 0] 279));have HS:=Hd h;have dO:=Hd h.lt;have HF:=Hd hf;have HC:=Hd hc;have HE:=Hd hE;have uq:=Hd bI;have HK:=Hd hk;have f0: ∀A A':Obj,((w.alloc A).alloc A').cell? ⟨B.st,0,none⟩=some (qi (some ⟨B.rb,0,none⟩)):=fun A A'=>aA (aA h.cells.1);clear h hf hc hE bI hk;go_enter func367,ntmps367;go_wp2_with fail
 generalize(w.alloc (qn (ju cl sq 5 pA t sz hh o d tk i mv) 61)).alloc (qn #[U Z 0,U Z 0] 279)=W at HW⊢;obtain⟨hA,hB,hb,hz⟩:=HW.o;have lH:=Hd hb;have tc:=Hd hB;have sK:=Hd (HS.o.grow hb);clear f0 hA hB hb hz HW;refine(QF ino HF.o HC.o uq.o HE.o HK.o W sK.o.t).mono ?_;rintro e w2⟨rfl,h2,hc2⟩;have cX:=Hd (sK.o.fI hc2 h2);have dD:qy (Ch B.soft w w2):=Hd (Ch.pre lH.o (hc2.mono fun _ hm=>iA hm));have eB:=Hd (hc2.heap tc.o (fun hx=>qZ (dO.o _ (iA hx)) Y));clear h2 hc2;go_wp2_with fail
 refine(lz 0 w2).mono ?_;rintro e w3⟨rfl,hb3⟩;have eP:=Hd (cX.o.grow hb3);have jY:=Hd (dD.o.step hb3);have eE:=Hd (ae hb3 eB.o);clear hb3;go_wp2_with(refine qE rfl 279 (Operand.tmp 6) _ rfl (w.heap.size+1) _ rfl rfl 279 _ eE.o cZ rfl (by simp[Value.oneCell']) ?_)
 try simp only[Act.put]
 refine aR rfl rfl rfl (qJ _ _ _ _ _ _ eE.o) underlying279 rfl cZ ?_;exact⟨rfl,eP.o.ag (Ch.kj eE.o qa _) (fun x hx=>by have:=dO.o x hx;simp;omega),jY.o.row Y _⟩
theorem Ba(w:qo)(h:eH w B V):qw qx 12 #[qi (some ⟨B.st,0,none⟩)] w fun e J=>e=qm (qi (some ⟨B.rb,0,none⟩))∧w=J:=by
 obtain⟨s0,s1,s2,s3⟩:=h.cells;clear h;go_enter func12,ntmps12;go_wp2
 go_ret;exact⟨rfl,rfl⟩
theorem sL(w:qo)(h:eH w B V):qw qx 185 #[qi (some ⟨B.st,0,none⟩)] w fun e J=>e=qm (qi (some ⟨B.hb,0,none⟩))∧w=J:=by
 obtain⟨s0,s1,s2,s3⟩:=h.cells;clear h;go_enter func185,ntmps185;go_wp2
 go_ret;exact⟨rfl,rfl⟩
theorem Bb(w:qo)(h:eH w B V):qw qx 244 #[qi (some ⟨B.st,0,none⟩)] w fun e J=>e=qm (qi (some ⟨B.ob,0,none⟩))∧w=J:=by
 obtain⟨s0,s1,s2,s3⟩:=h.cells;clear h;go_enter func244,ntmps244;go_wp2
 go_ret;exact⟨rfl,rfl⟩
theorem LP(w:qo)(h:eH w B V):qw qx 211 #[qi (some ⟨B.st,0,none⟩)] w fun e J=>e=qm (U Z V.n)∧w=J:=by
 obtain⟨s0,s1,s2,s3⟩:=h.cells;clear h;go_enter func211,ntmps211;go_wp2
 go_ret;exact⟨rfl,rfl⟩
def sv0:SV:=⟨[InoP.root],2,[],[],List.replicate 8 0,fun _=>none,0⟩
theorem QQ(w:qo):qw qx 42 #[] w fun e J=> ∃B:SB,e=qm (qi (some ⟨B.st,0,none⟩))∧eH J B sv0∧(∀x∈B.soft,w.heap.size≤x)∧qz w.heap.size w J:=by
 go_enter func42,ntmps42;go_wp2_with fail
 refine(LF w).mono ?_;rintro e w1⟨rb,tb,ib,nb,db,cb,rfl,h1,l1,l2,hb1⟩;have oS:=Hd h1;have QR:=Hd l2;have cq:=Hd hb1;clear h1 l1 l2 hb1;go_wp2_with fail
 refine(bq.lO w1).mono ?_;rintro e w2⟨rfl,h2,hb2⟩;have ze:=Hd (oS.o.grow hb2);have Bc:=Hd h2;have az:=Hd (ai cq.o hb2);have HZ1:=Hd oS.o.lt;have Cc:=Hd h2.lt;have dZ:=Hd cq.o.size;clear h2 hb2;go_wp2_with fail
 refine(PG w2).mono ?_;rintro e w3⟨rfl,h3,hb3⟩;have zj:=Hd (ze.o.grow hb3);have pD:=Hd (tZ (M:=[]) Bc.o (Ch.af hb3) qc qc);have mx:=Hd h3;have cu:=Hd (ai az.o hb3);have HZ3:=Hd h3.lt;have cX:=Hd az.o.size;clear h3 hb3;go_wp2_with fail
 go_ret;have hb4:=aa w3 (qn #[qi (some ⟨rb,0,none⟩),qi (some ⟨w1.heap.size+1,0,none⟩),qi (some ⟨w2.heap.size+1,0,none⟩),U Z 0] 84);have a1:=HZ1.o tb qc;have a2:=HZ1.o ib qc;have a3:=HZ1.o db qc;have a4:=HZ1.o cb qc;have l1:=QR.o tb qc;have l2:=QR.o ib qc;have l3:=QR.o db qc;have l4:=QR.o cb qc;have z1:=dZ.o;have z2:=Cc.o;have z3:=HZ3.o;have z4:=cX.o;have ap:=zj.o.apart;have ne:=zj.o.t.ne;have bc:=zj.o.n.bc
 refine⟨⟨w3.heap.size,rb,tb,ib,nb,db,cb,w1.heap.size+1,w1.heap.size,w2.heap.size+1,w2.heap.size⟩,rfl,⟨qA _ _,zj.o.grow hb4,tZ (M:=[]) pD.o (Ch.af hb4) qc qc,mx.o.ag (M:=[]) (Ch.af hb4) qc,?_⟩,?_,ai cu.o hb4⟩
 ·simp only[SB.soft,xC,qG,qQ,xt,not_or,not_false_eq_true,List.nodup_nil,and_true];refine⟨⟨Y,Y,Y,Y,Y,Y,Y⟩,⟨ne,ap.1,ap.2.1,Y,Y,Y⟩,⟨ap.2.2.1,ap.2.2.2,Y,Y,Y⟩,⟨bc,Y,Y,Y⟩,⟨Y,Y,Y⟩,⟨Y,Y⟩,Y⟩
 ·intro x hx;simp only[SB.soft,qG,qQ,xt]at hx;rcases hx with rfl|rfl|rfl|rfl|rfl|rfl|rfl|rfl<;>omega
theorem GO(cl sq k sz hh o tk i:Int)(p t d:ByteArray)(mv:qp)(addr:Int)(hE:bq.tx cl tk=0)(w:qo)(h:eH w B V):
 qw qx 371 #[qi (some ⟨B.st,0,none⟩),U Z addr,ql (ju cl sq k p t sz hh o d tk i mv)] w fun e J=>e=qm (ql #[U Z 0,U Z 0])∧eH J B {V with ls:=bq.tz V.ls cl tk}∧Ch B.soft w J:=by
 have HW:=Hd (aP w (qn (ju cl sq k p t sz hh o d tk i mv) 61) (qn #[U Z 0,U Z 0] 279));have HS:=Hd h;have dO:=Hd h.lt;have HE:=Hd hE;clear h hE;go_enter func371,ntmps371;go_wp2_with fail
 generalize(w.alloc (qn (ju cl sq k p t sz hh o d tk i mv) 61)).alloc (qn #[U Z 0,U Z 0] 279)=W at HW⊢;obtain⟨hA,hB,hb,hz⟩:=HW.o;have lH:=Hd hb;have tc:=Hd hB;have sK:=Hd (HS.o.grow hb);obtain⟨c0,c1,c2,c3,c4,c5,c6,c7,c8,c9,c10,c11⟩:=bP hA;obtain⟨s0,s1,s2,s3⟩:=sK.o.cells;clear hA hB hb hz HW
 go_still_tail 8,qd
 change wpList _ _ _ _ _ W.drew
 have cq:qy (qz w.heap.size w W.drew):=Hd lH.o.drew;have dZ:=Hd (sK.o.ag (M:=[]) (Ch.refl [] W).drew qc);have oG:qy (W.drew.heap[w.heap.size+1]? =some (qn #[U Z 0,U Z 0] 279 (0,0))):=tc;clear c0 c1 c2 c3 c4 c5 c6 c7 c8 c9 c10 c11 s0 s1 s2 s3 sK tc;generalize W.drew=W1 at cq dZ oG⊢;go_wp2_with fail
 refine(bq.Kt B.hb B.hm V.H V.ls cl tk W1 dZ.o.h).mono ?_;rintro e w2⟨rfl,h2,ho2,hz2⟩;rw[HE.o];have hc2:=GN dZ.o.h ho2;have cX:=Hd (dZ.o.Je hc2 h2);have dD:qy (Ch B.soft w w2):=Hd (Ch.pre cq.o (hc2.mono fun _ hm=>nO hm));have eB:=Hd (hc2.heap oG.o (fun hx=>qZ (dO.o _ (nO hx)) Y));clear h2 hc2 ho2 hz2;go_wp2_with fail
 refine(lz 0 w2).mono ?_;rintro e w3⟨rfl,hb3⟩;have eP:=Hd (cX.o.grow hb3);have jY:=Hd (dD.o.step hb3);have eE:=Hd (ae hb3 eB.o);clear hb3;go_wp2_with(refine qE rfl 279 (Operand.tmp 6) _ rfl (w.heap.size+1) _ rfl rfl 279 _ eE.o cZ rfl (by simp[Value.oneCell']) ?_)
 try simp only[Act.put]
 refine aR rfl rfl rfl (qJ _ _ _ _ _ _ eE.o) underlying279 rfl cZ ?_;exact⟨rfl,eP.o.ag (Ch.kj eE.o qa _) (fun x hx=>by have:=dO.o x hx;simp;omega),jY.o.row Y _⟩
theorem GP(cl sq k sz hh o tk i:Int)(p t d:ByteArray)(mv:qp)(addr ino:Int)(bI:bq.lQ (cl,hh))(hf:cN.look V.H (cl,hh)=some ino)(hi:InoW.kI ino)(hE:InoP.eR V.L ino o (d.size:Nat) addr=0)(w:qo)(h:eH w B V):
 qw qx 370 #[qi (some ⟨B.st,0,none⟩),U Z addr,ql (ju cl sq k p t sz hh o d tk i mv)] w fun e J=>e=qm (ql #[U Z 0,U Z 0])∧eH J B {V with L:=InoP.gM V.L ino o (d.size:Nat) addr}∧Ch B.soft w J:=by
 have HW:=Hd (aP w (qn (ju cl sq k p t sz hh o d tk i mv) 61) (qn #[U Z 0,U Z 0] 279));have HS:=Hd h;have dO:=Hd h.lt;have HE:=Hd hE;have uq:=Hd bI;have HI:=Hd hi;have HF:qy (bq.yZ V.H cl hh=ino∧bq.BA V.H cl hh=true):=Hd (by unfold bq.yZ bq.BA;rw[hf];exact⟨rfl,rfl⟩);clear h hE bI hi hf;go_enter func370,ntmps370;go_wp2_with fail
 generalize(w.alloc (qn (ju cl sq k p t sz hh o d tk i mv) 61)).alloc (qn #[U Z 0,U Z 0] 279)=W at HW⊢;obtain⟨hA,hB,hb,hz⟩:=HW.o;have lH:=Hd hb;have tc:=Hd hB;have LQ:=Hd hA;have sK:=Hd (HS.o.grow hb);clear hA hB hb hz HW;have au:qy (Ch [] W W.drew):=Hd (Ch.refl _ _).drew;refine aB 14 14 (fun X=>Ch [] W X) qd rfl ?_;refine tN 0 10 ?_ au.o ?_ (tN 1 11 ?_ au.o ?_ (tN 2 12 ?_ au.o ?_ (tN 3 13 ?_ au.o ?_ (tN 4 14 ?_ au.o ?_ (tN 5 15 ?_ au.o ?_ (tN 6 16 ?_ au.o ?_ (tN 7 17 ?_ au.o ?_ ?_)))))))
 iterate 8
  rotate_left
  ·intro wq hq;obtain⟨s0,s1,s2,s3⟩:=(sK.o.ag hq qc).cells;obtain⟨c0,c1,c2,c3,c4,c5,c6,c7,c8,c9,c10,c11⟩:=bP (hq.heap LQ.o qc);exact bJ
 simp only[pS,aS,sZ,sS];refine ay 8 qd rfl rfl (al (some 18) (f:=186) (args:=#[qi (some ⟨B.hb,0,none⟩),U Z cl,U Z hh]) rfl qf (fun u X=>u= .tuple #[U Z ino,.bool true]∧W.drew=X) ((bq.kJ B.hb B.hm V.H V.ls cl hh uq.o W.drew (sK.o.ag au.o qc).h).mono fun e J ⟨h1,h2⟩=>⟨_,h1,by rw[HF.o.1,HF.o.2],h2⟩) ?_);rintro u w7⟨rfl,rfl⟩;refine⟨fun _=>au.o,?_⟩;simp only[pS,aS,sZ,sS];refine tN 9 9 ?_ au.o ?_ (tN 10 19 ?_ au.o ?_ (tN 11 20 ?_ au.o ?_ (tN 12 7 ?_ au.o ?_ (tN 13 8 ?_ au.o ?_ ?_))))
 iterate 5
  rotate_left
  ·intro wq hq;exact bJ
 simp only[pS,aS,sZ,sS];refine aU qd ?_;have cq:qy (qz w.heap.size w W.drew):=Hd lH.o.drew;have dZ:=Hd (sK.o.ag (M:=[]) (Ch.refl [] W).drew qc);have oG:qy (W.drew.heap[w.heap.size+1]? =some (qn #[U Z 0,U Z 0] 279 (0,0))):=tc;have Lm:qy (W.drew.heap[w.heap.size]? =some (qn (ju cl sq k p t sz hh o d tk i mv) 61 (0,0))):=LQ;clear sK tc LQ au;generalize W.drew=W1 at cq dZ oG Lm⊢;go_wp2_with fail
 have hn: ∀x∈B.soft,x<w.heap.size:=dO.o
 have n1:B.st∉[w.heap.size+1,B.tb,B.ib,B.db,B.cb]:=by
  have nd1:=dZ.o.nd;have oI:B.soft.reverse.Nodup:=List.pairwise_reverse.2 (List.Pairwise.imp (fun h=>Ne.symm h) nd1);have:=hn B.st (by simp[SB.soft]);simp only[SB.soft,List.reverse_cons,List.reverse_nil,xk,xd,xC,qG,qQ,xt,not_or]at nd1 oI;simp[nd1,oI];omega
 have n2:w.heap.size∉[w.heap.size+1,B.tb,B.ib,B.db,B.cb]:=by
  have h1:=hn B.tb (by simp[SB.soft]);have h2:=hn B.ib (by simp[SB.soft]);have h3:=hn B.db (by simp[SB.soft]);have h4:=hn B.cb (by simp[SB.soft]);simp;omega
 have cX:qy (Ch [w.heap.size+1,B.tb,B.ib,B.db,B.cb] W1 W1.drew):=Hd (Ch.refl _ _).drew;refine aB 15 15 (fun X=>Ch [w.heap.size+1,B.tb,B.ib,B.db,B.cb] W1 X) qd rfl ?_;refine tN 0 24 ?_ cX.o ?_ (tN 1 25 ?_ cX.o ?_ (tN 2 26 ?_ cX.o ?_ (tN 3 27 ?_ cX.o ?_ (tN 5 29 ?_ cX.o ?_ (tN 6 30 ?_ cX.o ?_ (tN 7 31 ?_ cX.o ?_ (tN 8 32 ?_ cX.o ?_ (tN 9 33 ?_ cX.o ?_ (tN 10 34 ?_ cX.o ?_ (tN 11 35 ?_ cX.o ?_ ?_))))))))))
 iterate 11
  rotate_left
  ·intro wq hq;obtain⟨s0,s1,s2,s3⟩:=kE (hq.heap dZ.o.head n1);obtain⟨c0,c1,c2,c3,c4,c5,c6,c7,c8,c9,c10,c11⟩:=bP (hq.heap Lm.o n2);exact bJ
 simp only[pS,aS,sZ,sS];have ze:=Hd (dZ.o.ag (M:=[]) (Ch.refl [] W1).drew qc);refine ay 4 qd rfl rfl (al (some 28) (f:=13) (args:=#[qi (some ⟨B.rb,0,none⟩)]) rfl qf (fun u X=>u=qi (some ⟨B.tb,0,none⟩)∧W1.drew=X) ((gj B.rb B.tb B.nb W1.drew ze.o.t.cells.1).mono fun e J ⟨h1,h2⟩=>⟨_,h1,rfl,h2⟩) ?_);rintro u w7⟨rfl,rfl⟩;refine⟨fun _=>cX.o,?_⟩;simp only[pS,aS,sZ,sS]
 refine ay 12 qd rfl rfl (al (some 36) (f:=415) (args:=#[qi (some ⟨B.tb,0,none⟩),U Z ino,U Z o,U Z (d.size:Nat),U Z addr]) rfl qf (fun u X=>u=U Z 0∧InoW.jf X B.tb B.ib (InoP.gM V.L ino o (d.size:Nat) addr) V.nx∧Ch [B.tb,B.ib] W1.drew X) ((InoW.iw ino o (d.size:Nat) addr HI.o W1.drew ze.o.t.t).mono fun e J ⟨h1,h2,h3⟩=>⟨_,h1,by rw[HE.o],h2,jD ze.o.t.t h3⟩) ?_);rintro u w4⟨rfl,ht4,hc4⟩;have iH:qy (Ch [w.heap.size+1,B.tb,B.ib,B.db,B.cb] W1 w4):=Hd (cX.o.aq (hc4.mono qc));have hk4:Ch [B.tb,B.ib,B.db,B.cb] W1.drew w4:=hc4.mono qc;have cA:=Hd (ze.o.fI hk4 (ze.o.t.fI hc4 ht4))
 have eM:qy (Ch B.soft w w4):=Hd (Ch.pre cq.o ((Ch.refl _ _).drew.aq (hk4.mono fun _ hm=>iA hm)));have pj:=Hd (hk4.heap (show W1.drew.heap[w.heap.size+1]? =_ from oG.o) (fun hx=>qZ (hn _ (iA hx)) Y));clear ht4 hc4 hk4;refine⟨fun _=>iH.o,?_⟩;simp only[pS,aS,sZ,sS];refine ay 13 qd rfl rfl (al (some 37) (f:=404) (args:=#[U Z 0]) rfl qf (fun u X=>u=ql #[U Z 0,U Z 0]∧qz w4.heap.size w4 X) ((lz 0 w4).mono fun e J ⟨h1,h2⟩=>⟨_,h1,rfl,h2⟩) ?_);rintro u w5⟨rfl,hb5⟩;have dP:=Hd (iH.o.step hb5);have br:=Hd (cA.o.grow hb5);have lG:=Hd (eM.o.step hb5);have kS:=Hd (ae hb5 pj.o);clear hb5
 refine⟨fun _=>dP.o,?_⟩;simp only[pS,aS,sZ,sS];refine ay 14 qd rfl rfl (dG rfl 279 _ _ rfl (w.heap.size+1) #[U Z 0,U Z 0] rfl rfl 279 _ kS.o cZ rfl (by simp[Value.oneCell']) ⟨fun _=>dP.o.aq ((Ch.kj kS.o qa _).mono qc),?_⟩);refine aU qd ?_;go_wp2_with fail
 try simp only[Act.put]
 refine aR rfl rfl rfl (qJ _ _ _ _ _ _ kS.o) underlying279 rfl cZ ?_;exact⟨rfl,br.o.ag (Ch.kj kS.o qa _) (fun x hx=>by have:=hn x hx;simp;omega),lG.o.row Y _⟩
theorem GQ(cl sq k sz hh o tk i:Int)(p t d:ByteArray)(mv:qp)(addr ino:Int)(bI:bq.lQ (cl,hh))(hf:cN.look V.H (cl,hh)=some ino)(hi:InoW.kI ino)(hE:InoP.cU V.L ino (-1)=0)(w:qo)(h:eH w B V):
 qw qx 369 #[qi (some ⟨B.st,0,none⟩),U Z addr,ql (ju cl sq k p t sz hh o d tk i mv)] w fun e J=>e=qm (ql #[U Z 0,U Z 0])∧eH J B {V with L:=InoP.di V.L ino (-1),H:=cN.del V.H (cl,hh)}∧Ch B.soft w J:=by
 have HW:=Hd (aP w (qn (ju cl sq k p t sz hh o d tk i mv) 61) (qn #[U Z 0,U Z 0] 279));have HS:=Hd h;have dO:=Hd h.lt;have HE:=Hd hE;have uq:=Hd bI;have HI:=Hd hi;have HF:qy (bq.yZ V.H cl hh=ino∧bq.pM V.H cl hh=0):=Hd (by unfold bq.yZ bq.pM;rw[hf];exact⟨rfl,rfl⟩);clear h hE bI hi hf;go_enter func369,ntmps369;go_wp2_with fail
 generalize(w.alloc (qn (ju cl sq k p t sz hh o d tk i mv) 61)).alloc (qn #[U Z 0,U Z 0] 279)=W at HW⊢;obtain⟨hA,hB,hb,hz⟩:=HW.o;have lH:=Hd hb;have tc:=Hd hB;have LQ:=Hd hA;have sK:=Hd (HS.o.grow hb);clear hA hB hb hz HW;have hn: ∀x∈B.soft,x<w.heap.size:=dO.o
 have n1:B.st∉[B.hb,B.hm]:=by
  have nd1:=sK.o.nd;simp only[SB.soft,xC,qG,qQ,xt,not_or]at nd1;simp[nd1]
 have n2:w.heap.size∉[B.hb,B.hm]:=by
  have h1:=hn B.hb (by simp[SB.soft]);have h2:=hn B.hm (by simp[SB.soft]);simp;omega
 have au:qy (Ch [B.hb,B.hm] W W.drew):=Hd (Ch.refl _ _).drew;refine aB 14 14 (fun X=>Ch [B.hb,B.hm] W X) qd rfl ?_;refine tN 0 10 ?_ au.o ?_ (tN 1 11 ?_ au.o ?_ (tN 2 12 ?_ au.o ?_ (tN 3 13 ?_ au.o ?_ (tN 4 14 ?_ au.o ?_ (tN 5 15 ?_ au.o ?_ (tN 6 16 ?_ au.o ?_ (tN 7 17 ?_ au.o ?_ ?_)))))))
 iterate 8
  rotate_left
  ·intro wq hq;obtain⟨s0,s1,s2,s3⟩:=kE (hq.heap sK.o.head n1);obtain⟨c0,c1,c2,c3,c4,c5,c6,c7,c8,c9,c10,c11⟩:=bP (hq.heap LQ.o n2);exact bJ
 simp only[pS,aS,sZ,sS];have oS:=Hd (sK.o.ag (M:=[]) (Ch.refl [] W).drew qc);refine ay 8 qd rfl rfl (al (some 18) (f:=414) (args:=#[qi (some ⟨B.hb,0,none⟩),U Z cl,U Z hh]) rfl qf (fun u X=>u= .tuple #[U Z ino,U Z 0]∧bq.lT X B.hb B.hm (cN.del V.H (cl,hh)) V.ls∧Ch [B.hb,B.hm] W.drew X) ((bq.Ks B.hb B.hm V.H V.ls cl hh uq.o W.drew oS.o.h).mono fun e J ⟨h1,h2,h3,_⟩=>⟨_,h1,by rw[HF.o.1,HF.o.2],h2,ua oS.o.h h3⟩) ?_);rintro u w1⟨rfl,h1,hc1⟩;have fF:=Hd (au.o.aq hc1);have dZ:=Hd (oS.o.Je hc1 h1);have BP:qy (Ch B.soft w w1):=Hd (Ch.pre lH.o (fF.o.mono fun _ hm=>nO hm))
 have oG:=Hd (fF.o.heap tc.o (fun hx=>qZ (hn _ (nO hx)) Y));clear h1 hc1;refine⟨fun _=>fF.o,?_⟩;simp only[pS,aS,sZ,sS];refine tN 9 9 ?_ fF.o ?_ (tN 10 19 ?_ fF.o ?_ (tN 11 20 ?_ fF.o ?_ (tN 12 7 ?_ fF.o ?_ (tN 13 8 ?_ fF.o ?_ ?_))))
 iterate 5
  rotate_left
  ·intro wq hq;exact bJ
 simp only[pS,aS,sZ,sS];refine aU qd ?_;clear sK tc LQ au oS fF;obtain⟨s0,s1,s2,s3⟩:=dZ.o.cells;go_wp2_with fail
 refine(gj B.rb B.tb B.nb w1 dZ.o.t.cells.1).mono ?_;rintro e w9⟨rfl,rfl⟩;clear s0 s1 s2 s3;go_wp2_with fail
 refine(InoW.tw ino (-1) HI.o w1 dZ.o.t.t).mono ?_;rintro e w2⟨rfl,h2,ho2⟩;rw[HE.o];have hc2:=jD dZ.o.t.t ho2;have hk2:Ch [B.tb,B.ib,B.db,B.cb] w1 w2:=hc2.mono qc;have cX:=Hd (dZ.o.fI hk2 (dZ.o.t.fI hc2 h2));have mC:=Hd (BP.o.aq (hk2.mono fun _ hm=>iA hm));have eB:=Hd (hk2.heap oG.o (fun hx=>qZ (hn _ (iA hx)) Y));clear h2 ho2 hc2 hk2;go_wp2_with fail
 refine(lz 0 w2).mono ?_;rintro e w3⟨rfl,hb3⟩;have eP:=Hd (cX.o.grow hb3);have jY:=Hd (mC.o.step hb3);have eE:=Hd (ae hb3 eB.o);clear hb3;go_wp2_with(refine qE rfl 279 (Operand.tmp 6) _ rfl (w.heap.size+1) _ rfl rfl 279 _ eE.o cZ rfl (by simp[Value.oneCell']) ?_)
 try simp only[Act.put]
 refine aR rfl rfl rfl (qJ _ _ _ _ _ _ eE.o) underlying279 rfl cZ ?_;exact⟨rfl,eP.o.ag (Ch.kj eE.o qa _) (fun x hx=>by have:=hn x hx;simp;omega),jY.o.row Y _⟩
theorem LR(cl sq k sz hh o tk i:Int)(t d:ByteArray)(mv:qp)(addr ino:Int)(hl:DirP.lk V.D (1,nA)=some ino)(hk:(InoW.bL V.L 1).k=1)(MH:(InoW.bL V.L ino).k=2)(bI:bq.lQ (cl,addr))(hi:InoW.kI ino)(hH:bq.cU V.H cl addr ino=0)(hE:InoP.cU V.L ino 1=0)(w:qo)(h:eH w B V):
 qw qx 368 #[qi (some ⟨B.st,0,none⟩),U Z addr,ql (ju cl sq k pA t sz hh o d tk i mv)] w fun e J=>e=qm (ql #[U Z 0,U Z addr])∧eH J B {V with L:=InoP.di V.L ino 1,H:=bq.di V.H cl addr ino}∧Ch B.soft w J:=by
 have HW:=Hd (aP w (qn (ju cl sq k pA t sz hh o d tk i mv) 61) (qn #[U Z 0,U Z 0] 279));have HS:=Hd h;have dO:=Hd h.lt;have HL:=Hd hl;have HK:=Hd hk;have KX:=Hd MH;have uq:=Hd bI;have HI:=Hd hi;have HH:=Hd hH;have HE:=Hd hE;clear h hl hk MH bI hi hH hE;go_enter func368,ntmps368;go_wp2_with fail
 generalize(w.alloc (qn (ju cl sq k pA t sz hh o d tk i mv) 61)).alloc (qn #[U Z 0,U Z 0] 279)=W at HW⊢;obtain⟨hA,hB,hb,hz⟩:=HW.o;have lH:=Hd hb;have tc:=Hd hB;have LQ:=Hd hA;have sK:=Hd (HS.o.grow hb);clear hA hB hb hz HW;have hn: ∀x∈B.soft,x<w.heap.size:=dO.o;have au:qy (Ch [] W W.drew):=Hd (Ch.refl _ _).drew;refine aB 12 12 (fun X=>Ch [] W X) qd rfl ?_;refine tN 0 14 ?_ au.o ?_ (tN 1 15 ?_ au.o ?_ (tN 2 16 ?_ au.o ?_ (tN 3 17 ?_ au.o ?_ (tN 4 18 ?_ au.o ?_ (tN 5 19 ?_ au.o ?_ ?_)))))
 iterate 6
  rotate_left
  ·intro wq hq;obtain⟨s0,s1,s2,s3⟩:=(sK.o.ag hq qc).cells;obtain⟨c0,c1,c2,c3,c4,c5,c6,c7,c8,c9,c10,c11⟩:=bP (hq.heap LQ.o qc);exact bJ
 simp only[pS,aS,sZ,sS];refine ay 6 qd rfl rfl (al (some 20) (f:=412) (args:=#[qi (some ⟨B.rb,0,none⟩),qg pA]) rfl qf (fun u X=>u= .tuple #[U Z ino,U Z 0]∧Ch [] W X) ((LH ino HL.o HK.o W.drew (sK.o.ag au.o qc).t).mono fun e J ⟨h1,h2⟩=>⟨_,h1,rfl,au.o.step h2⟩) ?_);rintro u w1⟨rfl,hc1⟩;have fF:=Hd hc1;clear hc1;refine⟨fun _=>fF.o,?_⟩;simp only[pS,aS,sZ,sS];refine tN 7 13 ?_ fF.o ?_ (tN 8 21 ?_ fF.o ?_ (tN 9 22 ?_ fF.o ?_ (tN 10 7 ?_ fF.o ?_ (tN 11 8 ?_ fF.o ?_ ?_))))
 iterate 5
  rotate_left
  ·intro wq hq;exact bJ
 simp only[pS,aS,sZ,sS];refine aU qd ?_;have dZ:=Hd (sK.o.ag fF.o qc);have cq:=Hd (ai lH.o (fF.o.below qc (Nat.le_refl _)));have oG:=Hd (fF.o.heap tc.o qc);have Lm:=Hd (fF.o.heap LQ.o qc);clear sK tc LQ au fF;obtain⟨s0,s1,s2,s3⟩:=dZ.o.cells;go_wp2_with fail
 refine(gj B.rb B.tb B.nb w1 dZ.o.t.cells.1).mono ?_;rintro e w9⟨rfl,rfl⟩;clear s0 s1 s2 s3;go_wp2_with fail
 refine(InoW.wu ino HI.o w1 dZ.o.t.t).mono ?_;rintro e w2⟨rfl,hb2⟩;rw[KX.o];generalize(InoW.bL V.L ino).i=q0;generalize(InoW.bL V.L ino).l=q2;generalize(InoW.bL V.L ino).s=q3;generalize InoW.wo V.L ino=qb;have az:=Hd (ai hb2 (aa w2 (qn #[U Z q0,U Z 2,U Z q2,U Z q3] 28)));clear hb2;go_wp2_with fail
 generalize w2.alloc (qn #[U Z q0,U Z 2,U Z q2,U Z q3] 28)=w3 at az⊢;have eP:=Hd (dZ.o.grow az.o);have cu:=Hd (ai cq.o az.o);have eE:=Hd (ae az.o oG.o);have Ef:=Hd (ae az.o Lm.o);clear az dZ cq oG Lm
 have n1:B.st∉[B.hb,B.hm]:=by
  have nd1:=eP.o.nd;simp only[SB.soft,xC,qG,qQ,xt,not_or]at nd1;simp[nd1]
 have n2:w.heap.size∉[B.hb,B.hm]:=by
  have h1:=hn B.hb (by simp[SB.soft]);have h2:=hn B.hm (by simp[SB.soft]);simp;omega
 have Cd:qy (Ch [B.hb,B.hm] w3 w3.drew):=Hd (Ch.refl _ _).drew;refine aB 10 10 (fun X=>Ch [B.hb,B.hm] w3 X) qd rfl ?_;refine tN 0 41 ?_ Cd.o ?_ (tN 1 42 ?_ Cd.o ?_ (tN 2 43 ?_ Cd.o ?_ (tN 3 44 ?_ Cd.o ?_ (tN 4 45 ?_ Cd.o ?_ (tN 5 46 ?_ Cd.o ?_ (tN 6 47 ?_ Cd.o ?_ (tN 7 48 ?_ Cd.o ?_ ?_)))))))
 iterate 8
  rotate_left
  ·intro wq hq;obtain⟨s0,s1,s2,s3⟩:=kE (hq.heap eP.o.head n1);obtain⟨c0,c1,c2,c3,c4,c5,c6,c7,c8,c9,c10,c11⟩:=bP (hq.heap Ef.o n2);exact bJ
 simp only[pS,aS,sZ,sS];have oS:=Hd (eP.o.ag (M:=[]) (Ch.refl [] w3).drew qc);refine ay 8 qd rfl rfl (al (some 49) (f:=384) (args:=#[qi (some ⟨B.hb,0,none⟩),U Z cl,U Z addr,U Z ino]) rfl qf (fun u X=>u=U Z 0∧bq.lT X B.hb B.hm (bq.di V.H cl addr ino) V.ls∧Ch [B.hb,B.hm] w3.drew X) ((bq.rP B.hb B.hm V.H V.ls cl addr ino uq.o w3.drew oS.o.h).mono fun e J ⟨h1,h2,h3⟩=>⟨_,h1,by rw[HH.o],h2,ua oS.o.h h3⟩) ?_);rintro u w4⟨rfl,h4,hc4⟩;have iH:=Hd (Cd.o.aq hc4);have cA:=Hd (oS.o.Je hc4 h4);have eM:qy (Ch B.soft w w4):=Hd (Ch.pre cu.o (iH.o.mono fun _ hm=>nO hm))
 have pj:=Hd (iH.o.heap eE.o (fun hx=>qZ (hn _ (nO hx)) Y));clear h4 hc4;refine⟨fun _=>iH.o,?_⟩;simp only[pS,aS,sZ,sS];refine tN 9 11 ?_ iH.o ?_ ?_;rotate_left
 ·intro wq hq;exact bJ
 simp only[pS,aS,sZ,sS];refine aU qd ?_;clear Cd oS iH eP cu eE Ef;obtain⟨s0,s1,s2,s3⟩:=cA.o.cells;go_wp2_with fail
 refine(gj B.rb B.tb B.nb w4 cA.o.t.cells.1).mono ?_;rintro e w9⟨rfl,rfl⟩;clear s0 s1 s2 s3;go_wp2_with fail
 refine(InoW.tw ino 1 HI.o w4 cA.o.t.t).mono ?_;rintro e w5⟨rfl,h5,ho5⟩;rw[HE.o];have hc5:=jD cA.o.t.t ho5;have hk5:Ch [B.tb,B.ib,B.db,B.cb] w4 w5:=hc5.mono qc;have br:=Hd (cA.o.fI hk5 (cA.o.t.fI hc5 h5));have lG:=Hd (eM.o.aq (hk5.mono fun _ hm=>iA hm));have kS:=Hd (hk5.heap pj.o (fun hx=>qZ (hn _ (iA hx)) Y));clear h5 ho5 hc5 hk5;go_wp2_with(refine qE rfl 279 (Operand.tmp 6) _ rfl (w.heap.size+1) _ rfl rfl 279 _ kS.o cZ rfl (by simp[Value.oneCell']) ?_)
 try simp only[Act.put]
 refine aR rfl rfl rfl (qJ _ _ _ _ _ _ kS.o) underlying279 rfl cZ ?_;exact⟨rfl,br.o.ag (Ch.kj kS.o qa _) (fun x hx=>by have:=hn x hx;simp;omega),lG.o.row Y _⟩
theorem EF(cl sq k sz hh o tk i:Int)(p t d:ByteArray)(mv:qp)(addr:Int)(x:cN.Ha)(hx:V.H.filter (bq.jo V.ls tk)=[x])(hi:InoW.kI x.i)(w:qo)(h:eH w B V):
 qw qx 372 #[qi (some ⟨B.st,0,none⟩),U Z addr,ql (ju cl sq k p t sz hh o d tk i mv)] w fun e J=>e=qm (ql #[U Z 0,U Z 0])∧eH J B {V with L:=InoP.di V.L x.i (-1),H:=V.H.filter fun a=> !bq.jo V.ls tk a}∧Ch B.soft w J:=by
 have HW:=Hd (aP w (qn (ju cl sq k p t sz hh o d tk i mv) 61) (qn #[U Z 0,U Z 0] 279));have HS:=Hd h;have dO:=Hd h.lt;have Yi:=Hd hx;have HI:=Hd hi;clear h hx hi;go_enter func372,ntmps372;go_wp2_with fail
 generalize(w.alloc (qn (ju cl sq k p t sz hh o d tk i mv) 61)).alloc (qn #[U Z 0,U Z 0] 279)=W at HW⊢;obtain⟨hA,hB,hb,hz⟩:=HW.o;have lH:=Hd hb;have tc:=Hd hB;have LQ:=Hd hA;have sK:=Hd (HS.o.grow hb);clear hA hB hb hz HW;have hn: ∀x∈B.soft,x<w.heap.size:=dO.o
 have n1:B.st∉[B.hb,B.hm]:=by
  have nd1:=sK.o.nd;simp only[SB.soft,xC,qG,qQ,xt,not_or]at nd1;simp[nd1]
 have n2:w.heap.size∉[B.hb,B.hm]:=by
  have h1:=hn B.hb (by simp[SB.soft]);have h2:=hn B.hm (by simp[SB.soft]);simp;omega
 have au:qy (Ch [B.hb,B.hm] W W.drew):=Hd (Ch.refl _ _).drew;refine aB 9 9 (fun X=>Ch [B.hb,B.hm] W X) qd rfl ?_;refine tN 0 9 ?_ au.o ?_ (tN 1 10 ?_ au.o ?_ (tN 2 11 ?_ au.o ?_ (tN 3 12 ?_ au.o ?_ (tN 4 13 ?_ au.o ?_ (tN 5 14 ?_ au.o ?_ (tN 8 17 ?_ au.o ?_ ?_))))))
 iterate 7
  rotate_left
  ·intro wq hq;obtain⟨s0,s1,s2,s3⟩:=kE (hq.heap sK.o.head n1);obtain⟨c0,c1,c2,c3,c4,c5,c6,c7,c8,c9,c10,c11⟩:=bP (hq.heap LQ.o n2);exact bJ
 simp only[pS,aS,sZ,sS];have oS:=Hd (sK.o.ag (M:=[]) (Ch.refl [] W).drew qc);have HEX:=bq.GM B.hb B.hm V.H V.ls tk W.drew oS.o.h;rw[Yi.o]at HEX;refine ay 6 qd rfl rfl (al (some 15) (f:=416) (args:=#[qi (some ⟨B.hb,0,none⟩),U Z tk]) rfl qf (fun u X=> ∃g cap,u= .slice (some ⟨g,0,none⟩) 1 cap∧(W.heap.size≤g∧ ∃cs:Array qp,X.heap[g]? =some (qn cs 400 (0,0))∧cs[0]? =some (U Z x.c)∧cs[1]? =some (U Z x.n)∧cs[2]? =some (U Z x.i))∧bq.lT X B.hb B.hm (V.H.filter fun a=> !bq.jo V.ls tk a) V.ls∧Ch [B.hb,B.hm] W.drew X) (HEX.mono ?_) ?_)
 ·rintro e J⟨v,h1,h2,h3,h4⟩;rcases h2.2 with⟨hv,h0⟩|⟨g,cap,cur,rfl,hb,hg,hc,hm,hs,hx⟩
  ·simp at h0
  ·refine⟨_,h1,g,cap,rfl,⟨hb,cur,hg,?_,?_,?_⟩,h3,ua oS.o.h h4⟩
   ·have:=qX (·[0]?) hx;simpa [bq.fH]using this
   ·have:=qX (·[1]?) hx;simpa [bq.fH]using this
   ·have:=qX (·[2]?) hx;simpa [bq.fH]using this
 clear HEX;rintro u w1⟨g,cap,rfl,hg,h1,hc1⟩;have HG:=Hd hg;have fF:=Hd (au.o.aq hc1);have dZ:=Hd (oS.o.Je hc1 h1);have BP:qy (Ch B.soft w w1):=Hd (Ch.pre lH.o (fF.o.mono fun _ hm=>nO hm));have oG:=Hd (fF.o.heap tc.o (fun hx=>qZ (hn _ (nO hx)) Y));have HWZ:=Hd lH.o.size;clear hg h1 hc1;refine⟨fun _=>fF.o,?_⟩;simp only[pS,aS,sZ,sS];refine tN 7 16 ?_ fF.o ?_ ?_;rotate_left
 ·intro wq hq;exact bJ
 simp only[pS,aS,sZ,sS];refine aU qd ?_;clear sK tc LQ au oS fF;go_wp2_with fail
 obtain⟨hg1,cs,hgh,hg2,hg3,hg4⟩:=HG.o
 have HGH:qy (∀X,Ch [B.tb,B.ib,B.db,B.cb] w1 X→X.cell? ⟨g,0,none⟩=some (U Z x.c)∧X.cell? ⟨g,1,none⟩=some (U Z x.n)∧X.cell? ⟨g,2,none⟩=some (U Z x.i)):=Hd fun X hX=>by
  have hh:=hX.heap hgh (fun hx=>qZ (hn _ (iA hx)) (by have:=HWZ.o;omega));exact⟨by rw[qI hh];simpa using hg2,by rw[qI hh];simpa using hg3,by rw[qI hh];simpa using hg4⟩
 clear hg1 hgh hg2 hg3 hg4 HG
 go_loopw [17] (fun y wr=> ∃j:Nat,j≤1∧y=U Z (j:Nat)∧eH wr B {V with L:=(if j=0 then V.L else InoP.di V.L x.i (-1)),H:=V.H.filter fun a=> !bq.jo V.ls tk a}∧Ch [B.tb,B.ib,B.db,B.cb] w1 wr) (fun y _=>((1:Int)-intOf y).toNat)
 case atStart=>exact⟨0,Y,rfl,dZ.o,Ch.refl _ _⟩
 case round=>
  obtain⟨j,hj,rfl,hs,hc⟩:=hrel;have HSr:=Hd hs;have HCr:=Hd hc;clear hs hc;have hj2:j=0∨j=1:=Y;rcases hj2 with rfl|rfl
  ·clear hj;obtain⟨g0,g1,g2⟩:=HGH.o wr HCr.o;go_wp2_with fail
   have HSa:=Hd (HSr.o.grow (aa wr (qn #[U Z x.c,U Z x.n,U Z x.i] 400)));have HCa:=Hd (HCr.o.alloc (qn #[U Z x.c,U Z x.n,U Z x.i] 400));have HNa:=Hd (qA wr (qn #[U Z x.c,U Z x.n,U Z x.i] 400));have HZa:=Hd HCr.o.size;have HZb:=Hd dZ.o.lt;clear g0 g1 g2;generalize wr.alloc (qn #[U Z x.c,U Z x.n,U Z x.i] 400)=w4 at HSa HCa HNa⊢;generalize wr.heap.size=qb at HNa HZa⊢
   have n3:B.st∉[B.tb,B.ib]:=by
    have nd1:=HSa.o.nd;simp only[SB.soft,xC,qG,qQ,xt,not_or]at nd1;simp[nd1]
   have n4:qb∉[B.tb,B.ib]:=by
    have h1:=HZb.o B.tb (by simp[SB.soft]);have h2:=HZb.o B.ib (by simp[SB.soft]);have:=HZa.o;simp;omega
   have Cd:qy (Ch [B.tb,B.ib] w4 w4.drew):=Hd (Ch.refl _ _).drew;refine aB 8 8 (fun X=>Ch [B.tb,B.ib] w4 X) qd rfl ?_;refine tN 0 21 ?_ Cd.o ?_ (tN 1 22 ?_ Cd.o ?_ (tN 2 23 ?_ Cd.o ?_ (tN 3 24 ?_ Cd.o ?_ (tN 5 26 ?_ Cd.o ?_ (tN 6 27 ?_ Cd.o ?_ ?_)))))
   iterate 6
    rotate_left
    ·intro wq hq;obtain⟨s0,s1,s2,s3⟩:=kE (hq.heap HSa.o.head n3);obtain⟨d0,d1,d2⟩:=bS (hq.heap HNa.o n4);exact bJ
   simp only[pS,aS,sZ,sS];have oS:=Hd (HSa.o.ag (M:=[]) (Ch.refl [] w4).drew qc);refine ay 4 qd rfl rfl (al (some 25) (f:=13) (args:=#[qi (some ⟨B.rb,0,none⟩)]) rfl qf (fun u X=>u=qi (some ⟨B.tb,0,none⟩)∧w4.drew=X) ((gj B.rb B.tb B.nb w4.drew oS.o.t.cells.1).mono fun e J ⟨h1,h2⟩=>⟨_,h1,rfl,h2⟩) ?_);rintro u w7⟨rfl,rfl⟩;refine⟨fun _=>Cd.o,?_⟩;simp only[pS,aS,sZ,sS]
   refine ay 7 qd rfl rfl (al (some 28) (f:=413) (args:=#[qi (some ⟨B.tb,0,none⟩),U Z x.i,U Z (-1)]) rfl qf (fun u X=>(∃q,u=U Z q)∧InoW.jf X B.tb B.ib (InoP.di V.L x.i (-1)) V.nx∧Ch [B.tb,B.ib] w4.drew X) ((InoW.tw x.i (-1) HI.o w4.drew oS.o.t.t).mono fun e J ⟨h1,h2,h3⟩=>⟨_,h1,⟨_,rfl⟩,h2,jD oS.o.t.t h3⟩) ?_);rintro u w5⟨⟨q,rfl⟩,h5,hc5⟩;have hk5:Ch [B.tb,B.ib,B.db,B.cb] w4.drew w5:=hc5.mono qc;have br:=Hd (oS.o.fI hk5 (oS.o.t.fI hc5 h5));have dP:qy (Ch [B.tb,B.ib,B.db,B.cb] w1 w5):=Hd (HCa.o.drew.aq hk5);have ee:=Cd.o.aq hc5;clear h5 hc5 hk5;refine⟨fun _=>ee,?_⟩;simp only[pS,aS,sZ,sS]
   refine aU qd ?_;clear ee;go_wp2_with fail
   exact⟨⟨1,Y,rfl,br.o,dP.o⟩,qa⟩
  ·clear hj;go_wp2_with fail
   refine(lz 0 wr).mono ?_;rintro e w3⟨rfl,hb3⟩;have eP:=Hd (HSr.o.grow hb3);have jY:qy (Ch B.soft w w3):=Hd ((BP.o.aq (HCr.o.mono fun _ hm=>iA hm)).step hb3);have eE:=Hd (ae hb3 (HCr.o.heap oG.o (fun hx=>qZ (hn _ (iA hx)) Y)));clear hb3;go_wp2_with(refine qE rfl 279 (Operand.tmp 6) _ rfl (w.heap.size+1) _ rfl rfl 279 _ eE.o cZ rfl (by simp[Value.oneCell']) ?_)
   try simp only[Act.put]
   refine aR rfl rfl rfl (qJ _ _ _ _ _ _ eE.o) underlying279 rfl cZ ?_;exact⟨rfl,eP.o.ag (Ch.kj eE.o qa _) (fun x hx=>by have:=hn x hx;simp;omega),jY.o.row Y _⟩
