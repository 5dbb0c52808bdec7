/- Part 23 of the texts that the law's walk needs. -/
import Derived.Test.YtimabpfjjpjfjaaGreatDoorM04
import Derived.Test.YtimabpfjjpjfjaaGreatDoorM21
set_option maxHeartbeats 3200000
set_option maxRecDepth 100000
set_option linter.all false
open Go renaming World→qo,Value→qp,Calls→qw
open Go.Value renaming int→U,agg→ql,slice→qh,tuple→qj,bool→qk,pointer→qi,string→qg
open Go.IntKind renaming i64→Z
open Go.Ending renaming returned→qm
open Go.RowKit renaming Below→qz,Hid→qy
open Go.Obj renaming cells→qn
namespace Go.Proofs.YtimabpfjjpjfjaaGreatDoor
open Tryz
open Tryz renaming prog→qx
namespace TopW
open Go.RowKit OpW
open Go.Maps (Keyed)
open Go.WideMaps (KeyLaw)
variable{w J:qo}{M:List Nat}{b b0 b1 b2 n n0 n1 n2:Nat}{x y:Int}
theorem YU:prog.keyType 170=true:=qd
theorem acV:(170:TypeId)<prog.types.size:=xr qd
theorem YV:(match prog.underlying 170 with|some (.array _ _)|some (.struct _)=>true|_=>false)=true:=by rw[underlying170]
theorem WE:KeyLaw qx 170:=deep_law_laid vh (m:=2) Y acV qd YV
theorem Um:Keyed qx 170:=Keyed.of_law WE
theorem IK:prog.cellsOf 170=1:=qd
theorem PQ(i:Int):(sV i).formed qx 170=true:=by simp[sV,Value.formed,underlying170,IK]
theorem acW(i:Int)(h:mY i): ∃l,keyOf qx 170 (sV i)=some l:=by
 obtain⟨m,hm⟩:=uu;unfold keyOf;rw[underlying170];simp only[YU,PQ,Bool.and_self,if_true];unfold Program.keyLits;rw[underlying170];unfold mY at h;simp[sV,Value.cells,IK,hm,Program.keyLits,underlying3,h,iN]
theorem PR:MK qx 170 sV mY:=⟨Um,acW,fun x y h=>by simpa [sV]using h⟩
def kg(y:Int):qp:=U Z y
theorem dR(w:qo):(zeroValue 3).run qx w= .ok (kg 0) w:=qd
def AR(N:Nat):Int→Option Int:=fun z=>if 0≤z∧z<N then some 1 else none
theorem PT(N:Nat):(fun z=>if z=(N:Int)then some ((AR N N).getD 0+1)else AR N z)=AR (N+1):=by
 funext z;unfold AR;by_cases h:z=(N:Int)
 ·subst h;rw[qH rfl,qB Y,qH Y];rfl
 ·rw[qB h];by_cases h2:0≤z∧z<(N:Int)
  ·rw[qH h2,qH Y]
  ·rw[qB h2,qB Y]
theorem IR.src(h:IR w b n x (x+1)){j:Nat}(hj:j<2):w.cell? ⟨b,j,none⟩=some (U Z (x+j)):=by
 obtain⟨c0,c1⟩:=h.cells
 match j,hj with
 |0,_=>simpa using c0
 |1,_=>simpa using c1
theorem IL(w:qo)(h:cL w b0 n0 b1 n1 b2 n2):
 qw qx 70 #[ql #[U Z 0,qh (some ⟨b0,0,none⟩) 2 n0]] w fun e J=>e=qm (.map (some (w.heap.size+1)))∧an sV mY kg J (w.heap.size+1) 4 (AR 4)∧qz w.heap.size w J:=by
 have HP:qy (∀k,k<2→ ∃bk nk,w.cell? ⟨b0,k,none⟩=some (qh (some ⟨bk,0,none⟩) 2 nk)∧IR w bk nk (2*k:Nat) (2*k+1:Nat)):=Hd fun k hk=>h.src hk;have Ij:= @run_makeMap qx;clear h;go_enter func70,ntmps70;go_wp2_with fail
 clear Ij;obtain⟨mb,zG⟩: ∃mb,mb=w.heap.size+1:=⟨_,rfl⟩;have Te:=Hd zG;rw[←zG];clear zG
 go_loopw [12] (fun i wr=> ∃k:Nat,k≤2∧i=U Z (k:Int)∧an sV mY kg wr mb (2*k) (AR (2*k))∧qz w.heap.size w wr) (fun i _=>((2:Int)-intOf i).toNat)
 case atStart=>
  refine⟨0,Y,rfl,?_,sh w _ _⟩;rw[Te.o];have:=an.made (mk:=sV) (ok:=mY) (mv:=kg) (w.alloc (qn #[U Z 0,qh (some ⟨b0,0,none⟩) 2 n0] 54));rw[show(w.alloc (qn #[U Z 0,qh (some ⟨b0,0,none⟩) 2 n0] 54)).heap.size=w.heap.size+1 by simp]at this;exact this.congr (by funext z;unfold AR;rw[qB Y])
 case round=>
  obtain⟨k,hk,rfl,hm,hb⟩:=hrel;have HM:=Hd hm;have HB:=Hd hb;by_cases aN:k<2
  ·have hk0:(0:Int)≤(k:Int):=by omega
   have vN:(k:Int)<2:=Y;obtain⟨bk,nk,s0,s1⟩:=HP.o k aN;have e0:=ah hb s0;have dZ:=Hd s1;have dO:=Hd aN;clear hm hb aN s0 s1;go_wp2_with fail
   clear e0
   go_loopw [18] (fun i wq=> ∃j:Nat,j≤2∧i=U Z (j:Int)∧an sV mY kg wq mb (2*k+j) (AR (2*k+j))∧qz w.heap.size w wq) (fun i _=>((2:Int)-intOf i).toNat)
   case atStart=>exact⟨0,Y,rfl,HM.o,HB.o⟩
   case round=>
    obtain⟨j,hj,rfl,hm,hb⟩:=hrel;have HMJ:=Hd hm;have HBJ:=Hd hb;by_cases aN:j<2
    ·have hj0:(0:Int)≤(j:Int):=by omega
     have Ac:(j:Int)<2:=Y;obtain⟨N,hN⟩: ∃N,N=2*k+j:=⟨_,rfl⟩
     have e1:wr.cell? ⟨bk,j,none⟩=some (U Z (N:Int)):=by
      have:=IR.src (n:=nk) (x:=(2*k:Nat)) (by have:=dZ.o.ag (M:=[]) (Ch.af hb);simpa using this) aN;rw[this,hN];simp
     rw[←hN]at hm;have HJ:=Hd aN;have bI:mY (N:Int):=mZ (by have:=dO.o;omega);obtain⟨st,w6,pz,hm6,ho6,hs6,sT⟩:=an.entry (an.drew hm) PR WE underlying167 0 dR (by have:=dO.o;unfold maxLen;omega) (N:Int) bI;have hv0:(AR N (N:Int)).getD 0=0:=by unfold AR;rw[qB Y];rfl
     obtain⟨w7,uL,hm7,ho7,hs7⟩:=sT w6 1 rfl;have BS:=an.look (an.drew hm) PR underlying167 (dR wr.drew) (N:Int) bI false;have BU:=an.look hm6 PR underlying167 (dR w6) (N:Int) bI false;rw[qB qc]at BS BU;rw[show((AR N (N:Int)).map kg).getD (kg 0)=U Z 0 by unfold AR;rw[qB Y];rfl]at BS;rw[qH rfl,hv0]at BU;rw[hv0]at pz
     have HM7:qy (an sV mY kg w7 mb (2*k+(j+1)) (AR (2*k+(j+1)))):=Hd (by
      refine an.congr (an.mono hm7 Y) ?_;have:=PT N;rw[hv0]at this;rw[show 2*k+(j+1)=N+1 by omega,←this];funext z;split<;>rfl)
     have Kk:qy (qz w.heap.size w w7):=Hd (by
      have h1:ax mb wr.drew w7:=ho6.trans ho7;exact hb.trans ((show ax mb wr w7 from⟨h1.os,h1.tape,h1.output,h1.size,h1.block⟩).below (by rw[Te.o];omega) hb.size))
     have PU:=Hd BS;have Un:=Hd BU;have Uo:=Hd pz;have HE7:=Hd uL;clear hN hm hb aN bI pz hm6 ho6 hs6 sT uL hm7 ho7 hs7 BS BU hv0;go_wp2_with fail
     clear e1;have hw1:IntKind.i64.wrap 1=1:=qa;have au:qy True:=Hd trivial;refine aB 7 8 (fun _=>True) qd rfl ?_;refine tL 0 22 ?_ au.o ?_ (tL 1 23 ?_ au.o ?_ (tL 2 24 ?_ au.o ?_ ?_))
     iterate 3
      rotate_left
      ·intro wq hq;exact bJ
     simp only[pS,aS,sZ,sS];refine oP 3 5 qd rfl rfl rfl rfl (aw (some 25) (v:=U Z 0) (J:=wr.drew) rfl (by have h5:=PU.o;unfold sV at h5;go_simp) ⟨fun _=>trivial,?_⟩) (aw (some 27) (v:=qj #[U Z 0,goInt st]) (J:=w6) rfl (by have h5:=Uo.o;unfold sV kg at h5;go_simp) ⟨fun _=>trivial,?_⟩)
     ·simp only[pS,aS,sZ,sS];refine tL 4 26 ?_ au.o ?_ ?_;rotate_left
      ·intro wq hq;exact bJ
      simp only[pS,aS,sZ,sS];refine ay 5 qd rfl rfl (aw (some 27) (v:=qj #[U Z 0,goInt st]) (J:=w6) rfl (by have h5:=Uo.o;unfold sV kg at h5;go_simp) ⟨fun _=>trivial,?_⟩);simp only[pS,aS,sZ,sS];refine tL 6 28 ?_ au.o ?_ ?_;rotate_left
      ·intro wq hq;exact bJ
      simp only[pS,aS,sZ,sS];refine ay 7 qd rfl rfl (bm none (J:=w7) rfl ?_ ⟨fun e=>qZ rfl e,?_⟩)
      ·have h5:(Instr.entryStore 167 (.map (some mb)) (U Z (st:Int)) (U Z 1)).run qx w6= .ok () w7:=HE7.o;go_simp
      refine aU qd ?_;go_wp2_with fail
      exact⟨⟨j+1,by have:=HJ.o;omega,qc,HM7.o,Kk.o⟩,by simp[intOf];have:=HJ.o;omega⟩
     ·simp only[pS,aS,sZ,sS];refine tL 6 28 ?_ au.o ?_ ?_;rotate_left
      ·intro wq hq;exact bJ
      simp only[pS,aS,sZ,sS];refine ay 3 qd rfl rfl (aw (some 25) (v:=U Z 0) (J:=w6) rfl (by have h5:=Un.o;unfold sV kg at h5;go_simp) ⟨fun _=>trivial,?_⟩);simp only[pS,aS,sZ,sS];refine tL 4 26 ?_ au.o ?_ ?_;rotate_left
      ·intro wq hq;exact bJ
      simp only[pS,aS,sZ,sS];refine ay 7 qd rfl rfl (bm none (J:=w7) rfl ?_ ⟨fun e=>qZ rfl e,?_⟩)
      ·have h5:(Instr.entryStore 167 (.map (some mb)) (U Z (st:Int)) (U Z 1)).run qx w6= .ok () w7:=HE7.o;go_simp
      refine aU qd ?_;go_wp2_with fail
      exact⟨⟨j+1,by have:=HJ.o;omega,qc,HM7.o,Kk.o⟩,by simp[intOf];have:=HJ.o;omega⟩
    ·obtain rfl:j=2:=by omega
     clear hm hb aN;go_wp2_with fail
     exact⟨⟨k+1,by have:=dO.o;omega,qc,HMJ.o,HBJ.o⟩,by simp[intOf];have:=dO.o;omega⟩
  ·obtain rfl:k=2:=by omega
   clear hm hb aN;go_wp2_with fail
   go_ret;rw[←Te.o];exact⟨rfl,HM.o,HB.o⟩
end TopW
namespace TopW
open Go.RowKit OpW
variable{w J:qo}{M:List Nat}{b b0 b1 b2 n n0 n1 n2:Nat}{x y:Int}
theorem cG(w:qo)(h:cL w b0 n0 b1 n1 b2 n2):
 qw qx 40 #[ql #[U Z 0,qh (some ⟨b0,0,none⟩) 2 n0]] w fun e J=>e=qm (qk true)∧qz w.heap.size w J:=by
 have HH:=Hd h;have HP:qy (∀k,k<2→ ∃bk nk,w.cell? ⟨b0,k,none⟩=some (qh (some ⟨bk,0,none⟩) 2 nk)∧IR w bk nk (2*k:Nat) (2*k+1:Nat)):=Hd fun k hk=>h.src hk;clear h;go_enter func40,ntmps40;go_wp2_with fail
 have bu:qy (qz w.heap.size w (w.alloc (qn #[U Z 0,qh (some ⟨b0,0,none⟩) 2 n0] 54))):=Hd (aa w _)
 go_loopw [30] (fun i wr=> ∃k:Nat,k≤2∧i=U Z (k:Int)∧qz w.heap.size w wr∧wr.heap[w.heap.size]? =some (qn #[U Z 0,qh (some ⟨b0,0,none⟩) 2 n0] 54 (0,0))) (fun i _=>((2:Int)-intOf i).toNat)
 case atStart=>exact⟨0,Y,rfl,bu.o,qA w _⟩
 case round=>
  obtain⟨k,hk,rfl,hb,hx⟩:=hrel;have HB:=Hd hb;have HX:=Hd hx;by_cases aN:k<2
  ·have hk0:(0:Int)≤(k:Int):=by omega
   have vN:(k:Int)<2:=Y;obtain⟨bk,nk,s0,s1⟩:=HP.o k aN;have e0:=ah hb s0;have dO:=Hd aN;clear hb hx aN s0 s1;go_wp2_with fail
   exact⟨⟨k+1,by have:=dO.o;omega,qc,HB.o,HX.o⟩,by simp[intOf];have:=dO.o;omega⟩
  ·obtain rfl:k=2:=by omega
   obtain⟨q0,q1⟩:=cp hx;clear hb hx aN;go_wp2_with fail
   refine(IL _ (HH.o.ag (M:=[]) (Ch.af HB.o))).mono ?_;rintro e w2⟨rfl,hm,hb2⟩;have HM:=Hd hm;have az:=Hd (ai HB.o hb2);obtain⟨mb,zG⟩: ∃mb,wr.heap.size+1=mb:=⟨_,rfl⟩;rw[zG]at HM⊢;clear hm hb2 q0 q1 zG;go_wp2_with(at_range;go_loud (refine lf _ rfl _ 167 3 rfl underlying167 mb 4 (AR 4) HM.o (by rfl) ?_;intro w3 cT hr3 hc3 hb3 hs3;have eE:=Hd hr3;have cu:=Hd (ai az.o hb3);have eP:=Hd hs3;clear hr3 hc3 hb3 hs3))
   go_frame
   have HR:qy (w2.heap.size≠mb):=Hd (by have:=an.lt HM.o;omega);have Gr:qy (mb<w2.heap.size∧w.heap.size≤w2.heap.size):=Hd ⟨an.lt HM.o,az.o.size⟩;obtain⟨r,hr⟩: ∃r,r=w2.heap.size:=⟨_,rfl⟩;rw[←hr]at HR eE Gr⊢;clear hr
   go_loopw [46] (fun _ wr=> ∃(seen:Int→Bool) (cT:Nat),aI sV mY kg wr mb r 4 (AR 4) seen cT∧qz w.heap.size w wr) (fun _ wr=>rangeLeft wr mb r)
   case atStart=>exact⟨_,_,eE.o,cu.o⟩
   case round=>
    obtain⟨seen,cT,PW,dz⟩:=hrel;have HG:=Hd PW;have IM:=Hd dz;have PX:=Hd (aI.left PW);clear PW dz;go_wp2_with(at_next;go_loud (refine mr _ rfl _ rfl PR mb r 4 cT _ seen (by rfl) HG.o ?_ ?_))
    ·intro IN;clear IN;go_wp2_with fail
     go_ret;exact⟨rfl,IM.o⟩
    ·intro i v w5 PY YW Gs hsx hr5 hc5 ho5 hs5 Nt
     have hv:0≤i∧i<4∧v=1:=by
      unfold AR at Gs;by_cases h:0≤i∧i<((4:Nat):Int)
      ·rw[qH h]at Gs;injection Gs with Gs;exact⟨h.1,Y,Gs.symm⟩
      ·rw[qB h]at Gs;cases Gs
     obtain⟨v1,v2,rfl⟩:=hv;have ada:(Instr.entry (qi (some ⟨r,0,none⟩))).run qx w5= .ok (qj #[ql #[U Z i],U Z 1]) w5:=Nt;have kS:=Hd hr5;have dP:=Hd hc5;have gx:qy (qz w.heap.size w w5):=Hd (IM.o.trans (ho5.below Gr.o.2 IM.o.size));have b1: ¬i<0:=Y;have b2: ¬(16:Int)≤i:=Y;clear Nt YW Gs hsx hr5 hc5 ho5 hs5 v1 v2;go_wp2_with fail
     have hr6:=aI.ag kS.o (aa w5 (qn #[U Z i] 170));exact⟨⟨_,PY,hr6,gx.o.alloc gx.o.size _⟩,by rw[aI.left hr6,PX.o];exact dP.o⟩
theorem fD:(prog.info? 344).map (·.size)=some 2:=qd
theorem kJ(a c p:Int)(ha:0≤a∧a<16384)(hc:a.tmod 2=c)(hp:a.tdiv 2=p)(w:qo)(h:cL w b0 n0 b1 n1 b2 n2):
 qw qx 312 #[ql #[U Z 0,qh (some ⟨b0,0,none⟩) 2 n0],U Z a] w fun e J=>e=qm (qj #[ql #[U Z c,U Z p],qk true])∧qz w.heap.size w J:=by
 have HH:=Hd h;have a1: ¬a<0:=Y;have a2: ¬(16384:Int)≤a:=Y;have HW:=Hd (aP w (qn #[U Z 0,qh (some ⟨b0,0,none⟩) 2 n0] 54) (qn #[U Z 0,U Z 0] 344));have hcb:0≤c∧c<2:=⟨by rw[←hc];exact Int.tmod_nonneg _ ha.1,by rw[←hc];exact Int.tmod_lt_of_pos _ Y⟩;have Gt:0≤p∧p≤a:=⟨by rw[←hp];exact Int.tdiv_nonneg ha.1 Y,by rw[←hp];exact Int.tdiv_le_self _ ha.1⟩;have hw1:IntKind.i64.wrap c=c:=qO _ Y;have hw2:IntKind.i64.wrap p=p:=qO _ Y;clear h ha hcb Gt;go_enter func312,ntmps312;go_wp2_with fail
 generalize(w.alloc (qn #[U Z 0,qh (some ⟨b0,0,none⟩) 2 n0] 54)).alloc (qn #[U Z 0,U Z 0] 344)=W at HW⊢;obtain⟨hA,hB,hb,_⟩:=HW.o;have HB:=Hd hb;have St:=Hd hA;have fu:=Hd hB;clear hA hB hb HW;refine(cG W (HH.o.ag (M:=[]) (Ch.af HB.o))).mono ?_;rintro e w2⟨rfl,hb2⟩;have az:=Hd (ai HB.o hb2);have agQ:=Hd (ae hb2 St.o);have lh:=Hd (ae hb2 fu.o);obtain⟨q0,q1⟩:=cp agQ.o;clear hb2;go_wp2_with fail
 go_still_tail 7,qd
 have cu:qy (qz w.heap.size w w2.drew):=Hd az.o.drew;have oE:qy (w2.drew.heap[w.heap.size+1]? =some (qn #[U Z 0,U Z 0] 344 (0,0))):=Hd lh.o;change wpList _ _ _ _ _ w2.drew
 generalize w2.drew=W1 at cu oE⊢;go_wp2_with(refine qE rfl 344 (Operand.tmp 4) _ rfl (w.heap.size+1) _ rfl rfl 344 _ oE.o fD rfl (by simp[Value.oneCell']) ?_)
 refine aY rfl rfl rfl (qJ _ _ _ _ _ _ oE.o) underlying344 rfl fD ?_;exact⟨rfl,aj cu.o Y _⟩
theorem ly(a p:Int)(c:Nat)(hc2:c<2)(ha:0≤a∧a<16384)(hc:a.tmod 2=(c:Int))(hp:a.tdiv 2=p)(w:qo)(h:cL w b0 n0 b1 n1 b2 n2):
 qw qx 537 #[ql #[U Z 0,qh (some ⟨b0,0,none⟩) 2 n0],U Z a] w fun e J=> ∃g m,e=qm (qh (some ⟨g,0,none⟩) 2 m)∧IR J g m (2*c:Nat) (2*c+1:Nat)∧w.heap.size≤g∧qz w.heap.size w J:=by
 have HH:=Hd h;have HA:=Hd ha;have HC:=Hd hc;have HP:=Hd hp;have dD:=Hd hc2;have bu:=Hd (aa w (qn #[U Z 0,qh (some ⟨b0,0,none⟩) 2 n0] 54));have HX:=Hd (qA w (qn #[U Z 0,qh (some ⟨b0,0,none⟩) 2 n0] 54));clear h ha hc hp hc2;go_enter func537,ntmps537;go_wp2_with fail
 generalize w.alloc (qn #[U Z 0,qh (some ⟨b0,0,none⟩) 2 n0] 54)=W at bu HX⊢;refine(kJ a c p HA.o HC.o HP.o W (HH.o.ag (M:=[]) (Ch.af bu.o))).mono ?_;rintro e w2⟨rfl,hb2⟩;have az:=Hd (ai bu.o hb2);obtain⟨q0,q1⟩:=cp (ae hb2 HX.o);obtain⟨bk,nk,s0,s1⟩:=HH.o.src dD.o;have e0:=ah az.o s0;have dZ:=Hd s1;have p1: ∀A:Obj,(w2.alloc A).cell? ⟨w.heap.size,1,none⟩=some (qh (some ⟨b0,0,none⟩) 2 n0):=fun A=>aA q1;have p2: ∀A:Obj,(w2.alloc A).cell? ⟨b0,c,none⟩=some (qh (some ⟨bk,0,none⟩) 2 nk):=fun A=>aA e0;have c0:(0:Int)≤(c:Int):=Y;have c1:(c:Int)<2:=by have:=dD.o;omega
 clear hb2 s0 s1;go_wp2_with fail
 have cu:=Hd (ai az.o (aa w2 (qn #[U Z (c:Int),U Z p] 344)));refine(DU _ (dZ.o.ag (M:=[]) (Ch.af cu.o))).mono ?_;rintro e w3⟨g,m,rfl,h1,h2,h3⟩;have HI:=Hd h1;have HG:=Hd h2;have dp:=Hd (ai cu.o h3);clear h1 h2 h3;go_wp2_with fail
 go_ret;exact⟨g,m,rfl,HI.o,qM cu.o.size HG.o,dp.o⟩
theorem adb{P:Program}{fn:Func}{R:Ending→qo→Prop}{a:Act}{w:qo}{t u v x:Tmp}(h:fn.results=#[.tmp t,.tmp u,.tmp v,.tmp x])(hd:a.defers=[])
 (hR:R (qm (qj #[a.tmps.getD t undef,a.tmps.getD u undef,a.tmps.getD v undef,a.tmps.getD x undef])) w):bodyPost P fn R .ret a w:=
 xB (v:=qj #[a.tmps.getD t undef,a.tmps.getD u undef,a.tmps.getD v undef,a.tmps.getD x undef]) (by simp[results,h]) hd hR
abbrev YX(b0 n0:Nat)(addr:Int)(fill:Bool)(at' kind:Int)(s:ByteArray):Array qp:=#[U Z 0,qh (some ⟨b0,0,none⟩) 2 n0,U Z addr,qk fill,U Z at',U Z 0,U Z 0,U Z kind,qg s,U Z 0]
structure jt(w:qo)(fb:Nat)(addr:Int)(fill:Bool)(at' kind:Int)(s:ByteArray):Prop where
 cells: ∃b0 n0 b1 n1 b2 n2,w.heap[fb]? =some (qn (YX b0 n0 addr fill at' kind s) 415 (0,0))∧cL w b0 n0 b1 n1 b2 n2
theorem jt.ag{fb:Nat}{addr:Int}{fill:Bool}{at' kind:Int}{s:ByteArray}(h:jt w fb addr fill at' kind s)(c:Ch M w J)(hn:fb∉M):jt J fb addr fill at' kind s:=by
 obtain⟨b0,n0,b1,n1,b2,n2,h1,h2⟩:=h.cells;exact⟨b0,n0,b1,n1,b2,n2,c.heap h1 hn,h2.ag c⟩
theorem jt.lt{fb:Nat}{addr:Int}{fill:Bool}{at' kind:Int}{s:ByteArray}(h:jt w fb addr fill at' kind s):fb<w.heap.size:=by
 obtain⟨b0,n0,b1,n1,b2,n2,h1,h2⟩:=h.cells;exact qK h1
theorem PZ(fb:Nat)(addr:Int)(fill:Bool)(kind:Int)(s:ByteArray)(w:qo)(h:jt w fb addr fill 2 kind s):
 qw qx 542 #[qi (some ⟨fb,0,none⟩),U Z 0,qk true] w fun e J=>e=qm (qk false)∧qz w.heap.size w J:=by
 obtain⟨b0,n0,b1,n1,b2,n2,h1,h2⟩:=h.cells;have c4:=aJ h1 4;simp only[gA,gZ,gS]at c4;clear h h1 h2;go_enter func542,ntmps542;go_wp2
 go_ret;exact⟨rfl,Below.refl _ _⟩
theorem vo(fb:Nat)(addr:Int)(fill:Bool)(at' kind:Int)(s:ByteArray)(b:Bool)(hb:decide (at'=6)=b)(w:qo)(h:jt w fb addr fill at' kind s):
 qw qx 213 #[qi (some ⟨fb,0,none⟩)] w fun e J=>e=qm (qj #[U Z (if b then kind else 0),qg (if b then s else⟨#[]⟩),U Z 0,qk b])∧qz w.heap.size w J:=by
 obtain⟨b0,n0,b1,n1,b2,n2,h1,h2⟩:=h.cells;have c4:=aJ h1 4;have c7:=aJ h1 7;have c8:=aJ h1 8;have c9:=aJ h1 9;simp only[gA,gZ,gS]at c4 c7 c8 c9;have hx:(at' !=6)= !b:=by subst hb;cases hd:decide (at'=6)<;>simp_all
 clear h h1 h2 hb;cases b
 ·go_enter func213,ntmps213;go_wp2
  refine adb rfl rfl ?_;exact⟨rfl,Below.refl _ _⟩
 ·go_enter func213,ntmps213;go_wp2
  go_quiet (fail)
  go_wp2
  refine adb rfl rfl ?_;exact⟨rfl,below_drewN (Below.refl _ _) _⟩
theorem agR(fb:Nat)(addr:Int)(fill:Bool)(at' kind:Int)(s:ByteArray)(w:qo)(h:jt w fb addr fill at' kind s):
 qw qx 541 #[qi (some ⟨fb,0,none⟩)] w fun e J=> ∃c0 m0 c1 m1 c2 m2,e=qm (ql #[U Z 0,qh (some ⟨c0,0,none⟩) 2 m0])∧cL J c0 m0 c1 m1 c2 m2∧w.heap.size≤c0∧qz w.heap.size w J:=by
 obtain⟨b0,n0,b1,n1,b2,n2,h1,h2⟩:=h.cells;have HP:=Hd h2;have c0:=aJ h1 0;have c1:=aJ h1 1;simp only[gA,gZ,gS]at c0 c1;have bu:=Hd (aa w (qn #[U Z 0,qh none 0 0] 54));have HX:=Hd (qA w (qn #[U Z 0,qh none 0 0] 54));have f0:=ah bu.o c0;have f1:=ah bu.o c1;clear h h1 h2 c0 c1;go_enter func541,ntmps541;go_wp2_with fail
 generalize w.alloc (qn #[U Z 0,qh none 0 0] 54)=W at bu HX f0 f1⊢;refine(gT W (HP.o.ag (M:=[]) (Ch.af bu.o))).mono ?_;rintro e w2⟨c0,m0,c1,m1,c2,m2,rfl,h1,l0,l1,l2,hb2⟩;have az:=Hd (ai bu.o hb2);have aF:=Hd (ae hb2 HX.o);have iC:=Hd h1;have HL:=Hd (qM bu.o.size l0);clear h1 l0 l1 l2 hb2 f0 f1;go_wp2_with(refine qE rfl 54 (Operand.tmp 2) _ rfl w.heap.size _ rfl rfl 54 _ aF.o iW rfl (by simp[Value.oneCell']) ?_)
 simp only[Act.put];refine aR rfl rfl rfl (qJ _ _ _ _ _ _ aF.o) underlying54 rfl iW ?_;exact⟨c0,m0,c1,m1,c2,m2,rfl,iC.o.ag (Ch.kj aF.o qa _),HL.o,aj az.o Y _⟩
theorem Qa(addr:Int)(fill:Bool)(ha:0≤addr∧addr<16384)(w:qo)(h:cL w b0 n0 b1 n1 b2 n2):
 qw qx 246 #[ql #[U Z 0,qh (some ⟨b0,0,none⟩) 2 n0],U Z addr,qk fill] w fun e J=> ∃fb,e=qm (qi (some ⟨fb,0,none⟩))∧jt J fb addr fill 2 0 ⟨#[]⟩∧w.heap.size≤fb∧qz w.heap.size w J:=by
 have HH:=Hd h;have HA:=Hd ha;have bu:=Hd (aa w (qn #[U Z 0,qh (some ⟨b0,0,none⟩) 2 n0] 54));have HX:=Hd (qA w (qn #[U Z 0,qh (some ⟨b0,0,none⟩) 2 n0] 54));obtain⟨C,hC⟩: ∃C,addr.tmod 2=C:=⟨_,rfl⟩;obtain⟨P,hP⟩: ∃P,addr.tdiv 2=P:=⟨_,rfl⟩;have HC:=Hd hC;have yu:=Hd hP;clear h ha hC hP;go_enter func246,ntmps246;go_wp2_with fail
 generalize w.alloc (qn #[U Z 0,qh (some ⟨b0,0,none⟩) 2 n0] 54)=W at bu HX⊢;refine(gT W (HH.o.ag (M:=[]) (Ch.af bu.o))).mono ?_;rintro e w2⟨c0,m0,c1,m1,c2,m2,rfl,h1,l0,l1,l2,hb2⟩;have az:=Hd (ai bu.o hb2);have HP:=Hd h1;obtain⟨q0,q1⟩:=cp (ae hb2 HX.o);have p0: ∀A:Obj,(w2.alloc A).cell? ⟨w.heap.size,0,none⟩=some (U Z 0):=fun A=>aA q0;have p1: ∀A:Obj,(w2.alloc A).cell? ⟨w.heap.size,1,none⟩=some (qh (some ⟨b0,0,none⟩) 2 n0):=fun A=>aA q1;clear h1 l0 l1 l2 hb2;go_wp2_with fail
 have cu:=Hd (ai az.o (aa w2 (qn (YX c0 m0 addr fill 2 0 ⟨#[]⟩) 415)));have jn:=Hd (qA w2 (qn (YX c0 m0 addr fill 2 0 ⟨#[]⟩) 415));have uW:=Hd (HP.o.ag (M:=[]) (Ch.af (aa w2 (qn (YX c0 m0 addr fill 2 0 ⟨#[]⟩) 415))));generalize w2.alloc (qn (YX c0 m0 addr fill 2 0 ⟨#[]⟩) 415)=W3 at cu jn uW⊢;refine(kJ addr C P HA.o HC.o yu.o W3 (HH.o.ag (M:=[]) (Ch.af cu.o))).mono ?_;rintro e w4⟨rfl,hb4⟩;have dp:=Hd (ai cu.o hb4);have jA:=Hd (ae hb4 jn.o);have pB:=Hd (uW.o.ag (M:=[]) (Ch.af hb4));have HXE:=Hd (qA w4 (qn #[U Z 0,U Z 0] 344));clear hb4 p0 p1 q0 q1
 go_wp2_with(refine qE rfl 344 (Operand.tmp 8) _ rfl w4.heap.size _ rfl rfl 344 _ HXE.o fD rfl (by simp[Value.oneCell']) ?_)
 go_ret;have hz:=dp.o.size;have hb5:qz w4.heap.size w4 ((w4.alloc (qn #[U Z 0,U Z 0] 344)).setRow w4.heap.size #[U Z C,U Z P]):=aj (aa w4 _) (Nat.le_refl _) _;exact⟨w2.heap.size,rfl,⟨c0,m0,c1,m1,c2,m2,ae hb5 jA.o,pB.o.ag (M:=[]) (Ch.af hb5)⟩,az.o.size,ai dp.o hb5⟩
abbrev WG(b0 n0:Nat)(rec:ByteArray)(at' i addr:Int)(ph:Bool):Array qp:=#[U Z 0,qh (some ⟨b0,0,none⟩) 2 n0,qg rec,U Z at',U Z 0,U Z i,U Z addr,U Z 0,qk ph]
structure ij(w:qo)(ab:Nat)(rec:ByteArray)(at' i addr:Int)(ph:Bool):Prop where
 cells: ∃b0 n0 b1 n1 b2 n2,w.heap[ab]? =some (qn (WG b0 n0 rec at' i addr ph) 413 (0,0))∧cL w b0 n0 b1 n1 b2 n2
theorem ij.ag{ab:Nat}{rec:ByteArray}{at' i addr:Int}{ph:Bool}(h:ij w ab rec at' i addr ph)(c:Ch M w J)(hn:ab∉M):ij J ab rec at' i addr ph:=by
 obtain⟨b0,n0,b1,n1,b2,n2,h1,h2⟩:=h.cells;exact⟨b0,n0,b1,n1,b2,n2,c.heap h1 hn,h2.ag c⟩
theorem ij.lt{ab:Nat}{rec:ByteArray}{at' i addr:Int}{ph:Bool}(h:ij w ab rec at' i addr ph):ab<w.heap.size:=by
 obtain⟨b0,n0,b1,n1,b2,n2,h1,h2⟩:=h.cells;exact qK h1
theorem YY(rec:ByteArray)(hr:rec.size≤4096)(w:qo)(h:cL w b0 n0 b1 n1 b2 n2):
 qw qx 309 #[ql #[U Z 0,qh (some ⟨b0,0,none⟩) 2 n0],qg rec] w fun e J=> ∃ab,e=qm (qi (some ⟨ab,0,none⟩))∧ij J ab rec 2 0 0 false∧w.heap.size≤ab∧qz w.heap.size w J:=by
 have HH:=Hd h;have bu:=Hd (aa w (qn #[U Z 0,qh (some ⟨b0,0,none⟩) 2 n0] 54));have HX:=Hd (qA w (qn #[U Z 0,qh (some ⟨b0,0,none⟩) 2 n0] 54));have hr1: ¬(4096:Int)<(rec.size:Nat):=Y;clear h hr;go_enter func309,ntmps309;go_wp2_with fail
 generalize w.alloc (qn #[U Z 0,qh (some ⟨b0,0,none⟩) 2 n0] 54)=W at bu HX⊢;refine(gT W (HH.o.ag (M:=[]) (Ch.af bu.o))).mono ?_;rintro e w2⟨c0,m0,c1,m1,c2,m2,rfl,h1,l0,l1,l2,hb2⟩;have az:=Hd (ai bu.o hb2);have HP:=Hd h1;obtain⟨q0,q1⟩:=cp (ae hb2 HX.o);have p0: ∀A:Obj,(w2.alloc A).cell? ⟨w.heap.size,0,none⟩=some (U Z 0):=fun A=>aA q0;have p1: ∀A:Obj,(w2.alloc A).cell? ⟨w.heap.size,1,none⟩=some (qh (some ⟨b0,0,none⟩) 2 n0):=fun A=>aA q1;clear h1 l0 l1 l2 hb2;go_wp2_with fail
 have cu:=Hd (ai az.o (aa w2 (qn (WG c0 m0 rec 2 0 0 false) 413)));have jn:=Hd (qA w2 (qn (WG c0 m0 rec 2 0 0 false) 413));have uW:=Hd (HP.o.ag (M:=[]) (Ch.af (aa w2 (qn (WG c0 m0 rec 2 0 0 false) 413))));generalize w2.alloc (qn (WG c0 m0 rec 2 0 0 false) 413)=W3 at cu jn uW⊢;refine(cG W3 (HH.o.ag (M:=[]) (Ch.af cu.o))).mono ?_;rintro e w4⟨rfl,hb4⟩;have dp:=Hd (ai cu.o hb4);have jA:=Hd (ae hb4 jn.o);have pB:=Hd (uW.o.ag (M:=[]) (Ch.af hb4));clear hb4 p0 p1 q0 q1;go_wp2_with fail
 go_ret;exact⟨w2.heap.size,rfl,⟨c0,m0,c1,m1,c2,m2,jA.o,pB.o⟩,az.o.size,dp.o⟩
abbrev zI:Array qp:=#[U Z 0,U Z 0,U Z 0,U Z 0,U Z 0,U Z 0,qg ⟨#[]⟩,U Z 0,qh none 0 0]
theorem Up(ab:Nat)(rec:ByteArray)(ph:Bool)(w:qo)(h:ij w ab rec 2 0 0 ph):
 qw qx 534 #[qi (some ⟨ab,0,none⟩)] w fun e J=>e=qm (qj #[ql (bF 6 0 0 0 0 0 ⟨#[]⟩),qk true])∧qz w.heap.size w J:=by
 obtain⟨b0,n0,b1,n1,b2,n2,h1,h2⟩:=h.cells;have HH:=Hd h1;have HP:=Hd h2;have HW:=Hd (aP w (qn zI 129) (qn zI 129));have f0: ∀A:Obj,(w.alloc A).cell? ⟨ab,3,none⟩=some (U Z 2):=fun A=>aA (aJ h1 3);have f1: ∀A:Obj,(w.alloc A).cell? ⟨ab,0,none⟩=some (U Z 0):=fun A=>aA (aJ h1 0);clear h h1 h2;go_enter func534,ntmps534;go_wp2_with fail
 generalize(w.alloc (qn zI 129)).alloc (qn zI 129)=W at HW⊢;obtain⟨hA,hB,hb,_⟩:=HW.o;have HB:=Hd hb;have St:=Hd hA;have fu:=Hd hB;have HO:=Hd (ae hb HH.o);have Ur:=Hd (HP.o.ag (M:=[]) (Ch.af hb));have c0:=aJ HO.o 0;have c1:=aJ HO.o 1;have c6:=aJ HO.o 6;simp only[gA,gZ,gS]at c0 c1 c6;clear hA hB hb HW f0 f1;have au:qy (qz W.heap.size W W.drew):=Hd (Below.refl _ _).drew;refine aB 14 15 (fun X=>qz W.heap.size W X) qd rfl ?_
 refine tL 0 24 ?_ au.o ?_ (tL 1 25 ?_ au.o ?_ (tL 2 26 ?_ au.o ?_ (tL 3 27 ?_ au.o ?_ (tL 4 28 ?_ au.o ?_ (tL 5 29 ?_ au.o ?_ (tL 6 30 ?_ au.o ?_ (tL 7 31 ?_ au.o ?_ ?_)))))))
 iterate 8
  rotate_left
  ·intro wq hq;have g0:=ah hq c0;have g1:=ah hq c1;have g6:=ah hq c6;exact bJ
 simp only[pS,aS,sZ,sS];clear c0 c1 c6
 have Fs: ∀X,qz W.heap.size W X→qw qx 312 #[ql #[U Z 0,qh (some ⟨b0,0,none⟩) 2 n0],U Z 0] X fun e J=>e=qm (qj #[ql #[U Z 0,U Z 0],qk true])∧qz X.heap.size X J:=
  fun X hX=>kJ 0 0 0 Y rfl rfl X (Ur.o.ag (M:=[]) (Ch.af hX))
 refine oP 8 12 qd rfl rfl rfl rfl (al (some 32) (f:=312) (args:=#[ql #[U Z 0,qh (some ⟨b0,0,none⟩) 2 n0],U Z 0]) rfl qf (fun u X=>u=qj #[ql #[U Z 0,U Z 0],qk true]∧qz W.heap.size W X) ((Fs _ au.o).mono fun e J ⟨h1,h2⟩=>⟨_,h1,rfl,au.o.trans h2⟩) ?_) (aw (some 5) (v:=qi (some ⟨W.heap.size,0,none⟩)) (J:=(W.alloc (qn #[U Z 0,U Z 0] 344)).drew) rfl qf ⟨fun _=>(aa W _).drew,?_⟩)
 ·rintro u w2⟨rfl,h2⟩;have cX:=Hd h2;clear h2;refine⟨fun _=>cX.o,?_⟩;simp only[pS,aS,sZ,sS];refine tL 9 23 ?_ cX.o ?_ (tL 10 33 ?_ cX.o ?_ (tL 11 34 ?_ cX.o ?_ ?_))
  iterate 3
   rotate_left
   ·intro wq hq;exact bJ
  simp only[pS,aS,sZ,sS];refine ay 12 qd rfl rfl (aw (some 5) (v:=qi (some ⟨w2.heap.size,0,none⟩)) (J:=w2.alloc (qn #[U Z 0,U Z 0] 344)) rfl qf ⟨fun _=>ai cX.o (aa w2 _),?_⟩);simp only[pS,aS,sZ,sS];have HX:qy ((w2.alloc (qn #[U Z 0,U Z 0] 344)).heap[w2.heap.size]? =some (qn #[U Z 0,U Z 0] 344 (0,0))∧qz W.heap.size W (w2.alloc (qn #[U Z 0,U Z 0] 344))∧W.heap.size≤w2.heap.size):=Hd ⟨qA _ _,ai cX.o (aa w2 _),cX.o.size⟩;generalize w2.alloc (qn #[U Z 0,U Z 0] 344)=w3 at HX⊢;generalize w2.heap.size=pb at HX⊢;have aF:=HX;clear HX cX
  refine ay 13 qd rfl rfl (dG rfl 344 _ _ rfl pb #[U Z 0,U Z 0] rfl rfl 344 _ aF.o.1 fD rfl (by simp[Value.oneCell']) ⟨fun _=>aj aF.o.2.1 aF.o.2.2 _,?_⟩);refine ay 14 qd rfl rfl (aw (some 6) (v:=qk true) (J:=w3.setRow pb #[U Z 0,U Z 0]) rfl qf ⟨fun h=>qZ rfl h,?_⟩);simp only[pS,aS,sZ,sS];refine aU qd ?_;have cu:qy (qz w.heap.size w (w3.setRow pb #[U Z 0,U Z 0])):=Hd (aj (ai HB.o aF.o.2.1) (qM HB.o.size aF.o.2.2) _);have HY:qy (qz W.heap.size W (w3.setRow pb #[U Z 0,U Z 0])):=Hd (aj aF.o.2.1 aF.o.2.2 _);clear aF;generalize w3.setRow pb #[U Z 0,U Z 0]=w4 at cu HY⊢;have c3:=ah HY.o (aJ HO.o 3)
  obtain⟨d0,d1,d2,d3,d4,d5,d6,d7,d8⟩:=eX (ae HY.o fu.o);have df:=(aC (ae HY.o fu.o) 0 qc).2;simp only[gA,gZ,gS]at c3;clear au Fs;have HE:qy ((w4.setCell ⟨w.heap.size+1,0,none⟩ (U Z 6)).heap[w.heap.size]? =some (qn zI 129 (0,0))):=Hd (aZ (ae HY.o St.o) Y);go_wp2_with(refine qE rfl 129 (Operand.tmp 2) _ rfl w.heap.size _ rfl rfl 129 _ HE.o fC rfl (by simp[Value.oneCell']) ?_)
  refine aY rfl rfl rfl (qJ _ _ _ _ _ _ HE.o) underlying129 rfl fC ?_;exact⟨rfl,aj (cu.o.setCell (p:=⟨w.heap.size+1,0,none⟩) qc _) Y _⟩
 ·simp only[pS,aS,sZ,sS];have dZ:qy (qz W.heap.size W (W.alloc (qn #[U Z 0,U Z 0] 344)).drew):=Hd (aa W _).drew;have zw:qy ((W.alloc (qn #[U Z 0,U Z 0] 344)).drew.heap[W.heap.size]? =some (qn #[U Z 0,U Z 0] 344 (0,0))):=Hd (qA W _);refine ay 8 qd rfl rfl (al (some 32) (f:=312) (args:=#[ql #[U Z 0,qh (some ⟨b0,0,none⟩) 2 n0],U Z 0]) rfl qf (fun u X=>u=qj #[ql #[U Z 0,U Z 0],qk true]∧qz W.heap.size W X∧X.heap[W.heap.size]? =some (qn #[U Z 0,U Z 0] 344 (0,0))) ((Fs _ dZ.o).mono fun e J ⟨h1,h2⟩=>⟨_,h1,rfl,ai dZ.o h2,ae h2 zw.o⟩) ?_);rintro u w3⟨rfl,h2,h3⟩;have cX:=Hd h2
  have aF:qy (w3.heap[W.heap.size]? =some (qn #[U Z 0,U Z 0] 344 (0,0))∧qz W.heap.size W w3∧W.heap.size≤W.heap.size):=Hd ⟨h3,h2,Nat.le_refl _⟩;clear h2 h3;refine⟨fun _=>cX.o,?_⟩;simp only[pS,aS,sZ,sS];refine tL 9 23 ?_ cX.o ?_ (tL 10 33 ?_ cX.o ?_ (tL 11 34 ?_ cX.o ?_ ?_))
  iterate 3
   rotate_left
   ·intro wq hq;exact bJ
  simp only[pS,aS,sZ,sS];clear cX dZ zw;refine ay 13 qd rfl rfl (dG rfl 344 _ _ rfl W.heap.size #[U Z 0,U Z 0] rfl rfl 344 _ aF.o.1 fD rfl (by simp[Value.oneCell']) ⟨fun _=>aj aF.o.2.1 aF.o.2.2 _,?_⟩);refine ay 14 qd rfl rfl (aw (some 6) (v:=qk true) (J:=w3.setRow W.heap.size #[U Z 0,U Z 0]) rfl qf ⟨fun h=>qZ rfl h,?_⟩);simp only[pS,aS,sZ,sS];refine aU qd ?_;have cu:qy (qz w.heap.size w (w3.setRow W.heap.size #[U Z 0,U Z 0])):=Hd (aj (ai HB.o aF.o.2.1) HB.o.size _);have HY:qy (qz W.heap.size W (w3.setRow W.heap.size #[U Z 0,U Z 0])):=Hd (aj aF.o.2.1 aF.o.2.2 _);clear aF
  generalize w3.setRow W.heap.size #[U Z 0,U Z 0]=w4 at cu HY⊢;generalize W.heap.size=pb;have c3:=ah HY.o (aJ HO.o 3);obtain⟨d0,d1,d2,d3,d4,d5,d6,d7,d8⟩:=eX (ae HY.o fu.o);have df:=(aC (ae HY.o fu.o) 0 qc).2;simp only[gA,gZ,gS]at c3;clear au Fs;have HE:qy ((w4.setCell ⟨w.heap.size+1,0,none⟩ (U Z 6)).heap[w.heap.size]? =some (qn zI 129 (0,0))):=Hd (aZ (ae HY.o St.o) Y);go_wp2_with(refine qE rfl 129 (Operand.tmp 2) _ rfl w.heap.size _ rfl rfl 129 _ HE.o fC rfl (by simp[Value.oneCell']) ?_)
  refine aY rfl rfl rfl (qJ _ _ _ _ _ _ HE.o) underlying129 rfl fC ?_;exact⟨rfl,aj (cu.o.setCell (p:=⟨w.heap.size+1,0,none⟩) qc _) Y _⟩
theorem IP(ab:Nat)(rec:ByteArray)(ph:Bool)(i:Nat)(hi:i<2)(a p:Int)(c:Nat)(hc2:c<2)(ha:0≤a∧a<16384)(hc:a.tmod 2=(c:Int))(hp:a.tdiv 2=p)(Uq:Nat)(hU:2*c+i=Uq)(w:qo)(h:ij w ab rec 3 (i:Nat) a ph):
 qw qx 534 #[qi (some ⟨ab,0,none⟩)] w fun e J=>e=qm (qj #[ql (bF 1 (Uq:Nat) 0 p 0 0 rec),qk true])∧qz w.heap.size w J:=by
 obtain⟨b0,n0,b1,n1,b2,n2,h1,h2⟩:=h.cells;have HH:=Hd h1;have HI:=Hd hi;have HA:=Hd ha;have HC:=Hd hc;have yu:=Hd hp;have dD:=Hd hc2;have HP:=Hd h2;have HU:=Hd hU;have HW:=Hd (aP w (qn zI 129) (qn zI 129));have f0: ∀A:Obj,(w.alloc A).cell? ⟨ab,3,none⟩=some (U Z 3):=fun A=>aA (aJ h1 3);have f1: ∀A:Obj,(w.alloc A).cell? ⟨ab,0,none⟩=some (U Z 0):=fun A=>aA (aJ h1 0);clear h h1 h2 hi ha hc hp hc2 hU;go_enter func534,ntmps534;go_wp2_with fail
 generalize(w.alloc (qn zI 129)).alloc (qn zI 129)=W at HW⊢;obtain⟨hA,hB,hb,_⟩:=HW.o;have HB:=Hd hb;have St:=Hd hA;have fu:=Hd hB;have HO:=Hd (ae hb HH.o);have Ur:=Hd (HP.o.ag (M:=[]) (Ch.af hb));have c0:=aJ HO.o 0;have c1:=aJ HO.o 1;have c6:=aJ HO.o 6;simp only[gA,gZ,gS]at c0 c1 c6;clear hA hB hb HW f0 f1;have au:qy (qz W.heap.size W W.drew):=Hd (Below.refl _ _).drew;refine aB 14 15 (fun X=>qz W.heap.size W X) qd rfl ?_
 refine tL 0 24 ?_ au.o ?_ (tL 1 25 ?_ au.o ?_ (tL 2 26 ?_ au.o ?_ (tL 3 27 ?_ au.o ?_ (tL 4 28 ?_ au.o ?_ (tL 5 29 ?_ au.o ?_ (tL 6 30 ?_ au.o ?_ (tL 7 31 ?_ au.o ?_ ?_)))))))
 iterate 8
  rotate_left
  ·intro wq hq;have g0:=ah hq c0;have g1:=ah hq c1;have g6:=ah hq c6;exact bJ
 simp only[pS,aS,sZ,sS];clear c0 c1 c6
 have Fs: ∀X,qz W.heap.size W X→qw qx 312 #[ql #[U Z 0,qh (some ⟨b0,0,none⟩) 2 n0],U Z a] X fun e J=>e=qm (qj #[ql #[U Z (c:Int),U Z p],qk true])∧qz X.heap.size X J:=
  fun X hX=>kJ a (c:Int) p HA.o HC.o yu.o X (Ur.o.ag (M:=[]) (Ch.af hX))
 refine oP 8 12 qd rfl rfl rfl rfl (al (some 32) (f:=312) (args:=#[ql #[U Z 0,qh (some ⟨b0,0,none⟩) 2 n0],U Z a]) rfl qf (fun u X=>u=qj #[ql #[U Z (c:Int),U Z p],qk true]∧qz W.heap.size W X) ((Fs _ au.o).mono fun e J ⟨h1,h2⟩=>⟨_,h1,rfl,au.o.trans h2⟩) ?_) (aw (some 5) (v:=qi (some ⟨W.heap.size,0,none⟩)) (J:=(W.alloc (qn #[U Z 0,U Z 0] 344)).drew) rfl qf ⟨fun _=>(aa W _).drew,?_⟩)
 all_goals
  first
  |(rintro u w2 ⟨rfl,h2⟩
    have cX:=Hd h2;clear h2;refine⟨fun _=>cX.o,?_⟩;simp only[pS,aS,sZ,sS];refine tL 9 23 ?_ cX.o ?_ (tL 10 33 ?_ cX.o ?_ (tL 11 34 ?_ cX.o ?_ ?_))
    iterate 3
     rotate_left
     ·intro wq hq;exact bJ
    simp only[pS,aS,sZ,sS];refine ay 12 qd rfl rfl (aw (some 5) (v:=qi (some ⟨w2.heap.size,0,none⟩)) (J:=w2.alloc (qn #[U Z 0,U Z 0] 344)) rfl qf ⟨fun _=>ai cX.o (aa w2 _),?_⟩);simp only[pS,aS,sZ,sS];have HX:qy ((w2.alloc (qn #[U Z 0,U Z 0] 344)).heap[w2.heap.size]? =some (qn #[U Z 0,U Z 0] 344 (0,0))∧qz W.heap.size W (w2.alloc (qn #[U Z 0,U Z 0] 344))∧W.heap.size≤w2.heap.size):=Hd ⟨qA _ _,ai cX.o (aa w2 _),cX.o.size⟩;generalize w2.alloc (qn #[U Z 0,U Z 0] 344)=w3 at HX⊢;generalize w2.heap.size=pb at HX⊢;have aF:=HX;clear HX cX
    refine ay 13 qd rfl rfl (dG rfl 344 _ _ rfl pb #[U Z (c:Int),U Z p] rfl rfl 344 _ aF.o.1 fD rfl (by simp[Value.oneCell']) ⟨fun _=>aj aF.o.2.1 aF.o.2.2 _,?_⟩);refine ay 14 qd rfl rfl (aw (some 6) (v:=qk true) (J:=w3.setRow pb #[U Z (c:Int),U Z p]) rfl qf ⟨fun h=>qZ rfl h,?_⟩);simp only[pS,aS,sZ,sS];refine aU qd ?_;have cu:qy (qz w.heap.size w (w3.setRow pb #[U Z (c:Int),U Z p])):=Hd (aj (ai HB.o aF.o.2.1) (qM HB.o.size aF.o.2.2) _);have HY:qy (qz W.heap.size W (w3.setRow pb #[U Z (c:Int),U Z p])):=Hd (aj aF.o.2.1 aF.o.2.2 _)
    have Eh:qy ((w3.setRow pb #[U Z (c:Int),U Z p]).heap[pb]? =some (qn #[U Z (c:Int),U Z p] 344 (0,0))∧W.heap.size≤pb):=Hd ⟨qJ _ _ _ _ _ _ aF.o.1,aF.o.2.2⟩;clear aF;generalize w3.setRow pb #[U Z (c:Int),U Z p]=w4 at cu HY Eh⊢
    skip)
  |(simp only[pS,aS,sZ,sS]
    have dZ:qy (qz W.heap.size W (W.alloc (qn #[U Z 0,U Z 0] 344)).drew):=Hd (aa W _).drew;have zw:qy ((W.alloc (qn #[U Z 0,U Z 0] 344)).drew.heap[W.heap.size]? =some (qn #[U Z 0,U Z 0] 344 (0,0))):=Hd (qA W _);refine ay 8 qd rfl rfl (al (some 32) (f:=312) (args:=#[ql #[U Z 0,qh (some ⟨b0,0,none⟩) 2 n0],U Z a]) rfl qf (fun u X=>u=qj #[ql #[U Z (c:Int),U Z p],qk true]∧qz W.heap.size W X∧X.heap[W.heap.size]? =some (qn #[U Z 0,U Z 0] 344 (0,0))) ((Fs _ dZ.o).mono fun e J ⟨h1,h2⟩=>⟨_,h1,rfl,ai dZ.o h2,ae h2 zw.o⟩) ?_);rintro u w3⟨rfl,h2,h3⟩;have cX:=Hd h2
    have aF:qy (w3.heap[W.heap.size]? =some (qn #[U Z 0,U Z 0] 344 (0,0))∧qz W.heap.size W w3∧W.heap.size≤W.heap.size):=Hd ⟨h3,h2,Nat.le_refl _⟩;clear h2 h3;refine⟨fun _=>cX.o,?_⟩;simp only[pS,aS,sZ,sS];refine tL 9 23 ?_ cX.o ?_ (tL 10 33 ?_ cX.o ?_ (tL 11 34 ?_ cX.o ?_ ?_))
    iterate 3
     rotate_left
     ·intro wq hq;exact bJ
    simp only[pS,aS,sZ,sS];clear cX dZ zw;refine ay 13 qd rfl rfl (dG rfl 344 _ _ rfl W.heap.size #[U Z (c:Int),U Z p] rfl rfl 344 _ aF.o.1 fD rfl (by simp[Value.oneCell']) ⟨fun _=>aj aF.o.2.1 aF.o.2.2 _,?_⟩);refine ay 14 qd rfl rfl (aw (some 6) (v:=qk true) (J:=w3.setRow W.heap.size #[U Z (c:Int),U Z p]) rfl qf ⟨fun h=>qZ rfl h,?_⟩);simp only[pS,aS,sZ,sS];refine aU qd ?_;have cu:qy (qz w.heap.size w (w3.setRow W.heap.size #[U Z (c:Int),U Z p])):=Hd (aj (ai HB.o aF.o.2.1) HB.o.size _);have HY:qy (qz W.heap.size W (w3.setRow W.heap.size #[U Z (c:Int),U Z p])):=Hd (aj aF.o.2.1 aF.o.2.2 _)
    have Eh:qy ((w3.setRow W.heap.size #[U Z (c:Int),U Z p]).heap[W.heap.size]? =some (qn #[U Z (c:Int),U Z p] 344 (0,0))∧W.heap.size≤W.heap.size):=Hd ⟨qJ _ _ _ _ _ _ aF.o.1,aF.o.2.2⟩;clear aF;generalize w3.setRow W.heap.size #[U Z (c:Int),U Z p]=w4 at cu HY Eh⊢;obtain⟨WS,hWS⟩: ∃WS,W.heap.size=WS:=⟨_,rfl⟩;obtain⟨pb,Gt⟩: ∃pb,W.heap.size=pb:=⟨_,rfl⟩;have adf:qy (w4.heap[pb]? =some (qn #[U Z (c:Int),U Z p] 344 (0,0))∧W.heap.size≤pb):=Hd (by rw[←Gt];exact Eh.o);clear Eh;have Eh:=adf;clear adf;rw[Gt];clear Gt hWS WS
    skip)
  have Qb:qy (w.heap.size<w.heap.size+1∧w.heap.size+1<W.heap.size∧ab<w.heap.size∧W.heap.size≤pb):=Hd ⟨Y,qK fu.o,qK HH.o,Eh.o.2⟩;have gH:=Hd (ae cu.o HH.o);have Lq:=Hd (ae HY.o fu.o);have adg:=Hd (ae HY.o St.o);have pB:=Hd (HP.o.ag (M:=[]) (Ch.af cu.o));have Qc:=Hd Eh.o.1;have c3:=aJ gH.o 3;simp only[gA,gZ,gS]at c3;clear Eh;go_wp2_with fail
  clear c3;have dT:qy (w4.drew.heap[ab]? =some (qn (WG b0 n0 rec 3 (i:Nat) a ph) 413 (0,0))):=gH;refine aB 7 8 (fun X=>X.heap[ab]? =some (qn (WG b0 n0 rec 3 (i:Nat) a ph) 413 (0,0))) qd rfl ?_;refine tL 0 50 ?_ dT.o ?_ (tL 1 51 ?_ dT.o ?_ (tL 2 52 ?_ dT.o ?_ (tL 3 53 ?_ dT.o ?_ (tL 4 54 ?_ dT.o ?_ ?_))))
  iterate 5
   rotate_left
   ·intro wq hq;have g2:=(aJ hq 2);simp only[gA,gZ,gS]at g2;exact bJ
  simp only[pS,aS,sZ,sS];have Ei:qy ((w4.drew.setCell ⟨w.heap.size+1,0,none⟩ (U Z 1)).heap[ab]? =some (qn (WG b0 n0 rec 3 (i:Nat) a ph) 413 (0,0))):=Hd (aZ dT.o (by have:=Qb.o;omega));have d0:=aJ Lq.o 0;have e0:=cn Lq.o 0;have d6:=aJ Lq.o 6;have e6:=cn Lq.o 6;simp only[gA,gZ,gS]at d0 d6;refine ay 5 qd rfl rfl (bm none (J:=w4.drew.setCell ⟨w.heap.size+1,0,none⟩ (U Z 1)) rfl qf ⟨fun _=>Ei.o,?_⟩);simp only[Act.put];refine tL 6 55 ?_ Ei.o ?_ ?_;rotate_left
  ·intro wq hq;exact bJ
  simp only[pS,aS,sZ,sS];refine ay 7 qd rfl rfl (bm none (J:=(w4.drew.setCell ⟨w.heap.size+1,0,none⟩ (U Z 1)).setCell ⟨w.heap.size+1,6,none⟩ (qg rec)) rfl qf ⟨fun h=>qZ rfl h,?_⟩);simp only[Act.put];refine aU qd ?_;have hv:w.heap.size+1≠w.heap.size∧pb≠w.heap.size+1:=by have:=Qb.o;omega
  have eV:=Hd (aZ (b:=w.heap.size+1) (i:=6) (v:=qg rec) Ei.o (by have:=Qb.o;omega));have YZ:=Hd (aZ (b:=w.heap.size+1) (i:=6) (v:=qg rec) (aZ (w:=w4.drew) (b:=w.heap.size+1) (i:=0) (v:=U Z 1) adg.o Y) Y);have Za:=Hd (aZ (b:=w.heap.size+1) (i:=6) (v:=qg rec) (aZ (w:=w4.drew) (b:=w.heap.size+1) (i:=0) (v:=U Z 1) Qc.o hv.2) hv.2);have Us:=Hd (av (i:=6) (av (w:=w4.drew) (i:=0) Lq.o (U Z 1)) (qg rec))
  have gx:qy (qz w.heap.size w ((w4.drew.setCell ⟨w.heap.size+1,0,none⟩ (U Z 1)).setCell ⟨w.heap.size+1,6,none⟩ (qg rec))):=Hd ((cu.o.drew.setCell (p:=⟨w.heap.size+1,0,none⟩) qc _).setCell (p:=⟨w.heap.size+1,6,none⟩) qc _);clear dT Ei d0 d6 e0 e6 gH adg Lq Qc pB cu HY St fu HO Ur HB hv;generalize(w4.drew.setCell ⟨w.heap.size+1,0,none⟩ (U Z 1)).setCell ⟨w.heap.size+1,6,none⟩ (qg rec)=w5 at eV YZ Us Za gx⊢;simp only[aS,sZ,sS]at Us;have Iu:=Hd (HP.o.ag (M:=[]) (Ch.af gx.o));go_wp2_with fail
  have dP:qy (Ch [w.heap.size+1] w5 w5.drew):=Hd (Ch.refl _ _).drew;have oW:ab∉[w.heap.size+1]:=by have:=Qb.o;simp;omega
  have Gt:pb∉[w.heap.size+1]:=by have:=Qb.o;simp;omega
  refine aB 20 21 (fun X=>Ch [w.heap.size+1] w5 X) qd rfl ?_;refine tL 0 56 ?_ dP.o ?_ (tL 1 57 ?_ dP.o ?_ (tL 2 58 ?_ dP.o ?_ (tL 3 59 ?_ dP.o ?_ (tL 4 60 ?_ dP.o ?_ (tL 5 61 ?_ dP.o ?_ (tL 6 62 ?_ dP.o ?_ (tL 7 63 ?_ dP.o ?_ (tL 9 65 ?_ dP.o ?_ (tL 10 66 ?_ dP.o ?_ (tL 11 67 ?_ dP.o ?_ (tL 12 68 ?_ dP.o ?_ (tL 15 71 ?_ dP.o ?_ (tL 16 72 ?_ dP.o ?_ ?_)))))))))))))
  iterate 14
   rotate_left
   ·intro wq hq;have HQ:=hq.heap eV.o oW;have HR:=hq.heap Za.o Gt;have g0:=(aJ HQ 0);have g1:=(aJ HQ 1);have g5:=(aJ HQ 5);have g6:=(aJ HQ 6);have r1:=(aJ HR 1);simp only[gA,gZ,gS]at g0 g1 g5 g6 r1;exact bJ
  simp only[pS,aS,sZ,sS];refine ay 8 qd rfl rfl (al (some 64) (f:=537) (args:=#[ql #[U Z 0,qh (some ⟨b0,0,none⟩) 2 n0],U Z a]) rfl qf (fun u X=> ∃g m,u=qh (some ⟨g,0,none⟩) 2 m∧IR X g m (2*c:Nat) (2*c+1:Nat)∧w5.heap.size≤g∧qz w5.heap.size w5 X) ((ly a p c dD.o HA.o HC.o yu.o w5.drew (Iu.o.ag dP.o)).mono fun e J ⟨g,m,h1,h2,h3,h4⟩=>⟨_,h1,g,m,rfl,h2,h3,(Below.refl _ _).drew.trans h4⟩) ?_);rintro u w6⟨g,m,rfl,hir,hg6,hb6⟩;have Wz:=Hd hir;have BV:=Hd (ae hb6 Us.o);have ee:qy (Ch [w.heap.size+1] w5 w6):=Hd (Ch.af hb6);have jd:=Hd hb6;clear hir hb6;refine⟨fun _=>ee.o,?_⟩;simp only[pS,aS,sZ,sS]
  have hi2:i=0∨i=1:=by have:=HI.o;omega
  have HGU:qy (∀X,Ch [w.heap.size+1] w6 X→X.cell? ⟨g,i,none⟩=some (U Z (Uq:Nat))):=by
   refine Hd fun X hX=>?_;have hh:=(Wz.o.ag hX).cells;rcases hi2 with rfl|rfl
   ·rw[←HU.o];exact hh.1
   ·rw[←HU.o];exact hh.2
  have IC:qy (Ch [w.heap.size+1] w6 w6):=Hd (Ch.refl _ _);have aN:i<2:=HI.o;have uY: ¬((i:Nat):Int)<0:=Y;have Yj:((i:Nat):Int)<2:=Y;refine tL 13 69 ?_ ee.o ?_ ?_;rotate_left
  ·intro wq hq;exact bJ
  simp only[pS,aS,sZ,sS];have g9:=HGU.o w6 IC.o;have d0:=aJ BV.o 1;have e0:=cn BV.o 1;have d6:=aJ BV.o 3;have e6:=cn BV.o 3;simp only[gA,gZ,gS]at d0 d6;refine ay 14 qd rfl rfl (aw (some 70) (v:=U Z (Uq:Nat)) (J:=w6) rfl qf ⟨fun _=>ee.o,?_⟩);simp only[pS,aS,sZ,sS];refine tL 17 73 ?_ ee.o ?_ ?_;rotate_left
  ·intro wq hq;exact bJ
  simp only[pS,aS,sZ,sS];have sY:qy (Ch [w.heap.size+1] w5 (w6.setCell ⟨w.heap.size+1,1,none⟩ (U Z (Uq:Nat)))):=Hd (ee.o.aq (Ch.dn BV.o qa 1 _));refine ay 18 qd rfl rfl (bm none (J:=w6.setCell ⟨w.heap.size+1,1,none⟩ (U Z (Uq:Nat))) rfl qf ⟨fun _=>sY.o,?_⟩);simp only[Act.put];refine tL 19 74 ?_ sY.o ?_ ?_;rotate_left
  ·intro wq hq;exact bJ
  simp only[pS,aS,sZ,sS];refine ay 20 qd rfl rfl (bm none (J:=(w6.setCell ⟨w.heap.size+1,1,none⟩ (U Z (Uq:Nat))).setCell ⟨w.heap.size+1,3,none⟩ (U Z p)) rfl qf ⟨fun h=>qZ rfl h,?_⟩);simp only[Act.put];refine aU qd ?_;have Qd:=Hd (av (i:=3) (av (w:=w6) (i:=1) BV.o (U Z (Uq:Nat))) (U Z p));simp only[aS,sZ,sS]at Qd;have Zb:=Hd (aZ (b:=w.heap.size+1) (i:=3) (v:=U Z p) (aZ (w:=w6) (b:=w.heap.size+1) (i:=1) (v:=U Z (Uq:Nat)) (ae jd.o YZ.o) Y) Y)
  have Kk:qy (qz w.heap.size w ((w6.setCell ⟨w.heap.size+1,1,none⟩ (U Z (Uq:Nat))).setCell ⟨w.heap.size+1,3,none⟩ (U Z p))):=Hd (((ai gx.o jd.o).setCell (p:=⟨w.heap.size+1,1,none⟩) qc _).setCell (p:=⟨w.heap.size+1,3,none⟩) qc _);clear ee sY dP IC HGU g9 d0 d6 e0 e6 jd BV Wz Iu eV YZ Za gx Us au Fs;generalize(w6.setCell ⟨w.heap.size+1,1,none⟩ (U Z (Uq:Nat))).setCell ⟨w.heap.size+1,3,none⟩ (U Z p)=w7 at Qd Zb Kk⊢;obtain⟨d0,d1,d2,d3,d4,d5,d6,d7,d8⟩:=eX Qd.o;go_wp2_with(refine qE rfl 129 (Operand.tmp 2) _ rfl w.heap.size _ rfl rfl 129 _ Zb.o fC rfl (by simp[Value.oneCell']) ?_)
  refine aY rfl rfl rfl (qJ _ _ _ _ _ _ Zb.o) underlying129 rfl fC ?_;exact⟨rfl,aj Kk.o Y _⟩
theorem yv(ab:Nat)(rec:ByteArray)(at' i a:Int)(ph:Bool)(w:qo)(h:ij w ab rec at' i a ph):
 qw qx 538 #[qi (some ⟨ab,0,none⟩),U Z 0,qk true] w fun e J=>e=qm (qk false)∧qz w.heap.size w J:=by
 go_enter func538,ntmps538;go_wp2
 go_ret;exact⟨rfl,Below.refl _ _⟩
theorem sA(ab:Nat)(rec:ByteArray)(at' i a:Int)(ph:Bool)(b:Bool)(hb:decide (at'=5)=b)(w:qo)(h:ij w ab rec at' i a ph):
 qw qx 212 #[qi (some ⟨ab,0,none⟩)] w fun e J=>e=qm (qj #[U Z (if b then a else 0),U Z 0,qk b])∧qz w.heap.size w J:=by
 obtain⟨b0,n0,b1,n1,b2,n2,h1,h2⟩:=h.cells;have c3:=aJ h1 3;have c6:=aJ h1 6;have c7:=aJ h1 7;simp only[gA,gZ,gS]at c3 c6 c7;have hx:(at' !=5)= !b:=by subst hb;cases hd:decide (at'=5)<;>simp_all
 clear h h1 h2 hb;cases b
 ·go_enter func212,ntmps212;go_wp2
  go_ret3
  exact⟨rfl,Below.refl _ _⟩
 ·go_enter func212,ntmps212;go_wp2
  go_quiet (fail)
  go_wp2
  go_ret3
  exact⟨rfl,below_drewN (Below.refl _ _) _⟩
theorem agS(ab:Nat)(rec:ByteArray)(at' i a:Int)(ph:Bool)(w:qo)(h:ij w ab rec at' i a ph):
 qw qx 536 #[qi (some ⟨ab,0,none⟩)] w fun e J=> ∃c0 m0 c1 m1 c2 m2,e=qm (ql #[U Z 0,qh (some ⟨c0,0,none⟩) 2 m0])∧cL J c0 m0 c1 m1 c2 m2∧w.heap.size≤c0∧qz w.heap.size w J:=by
 obtain⟨b0,n0,b1,n1,b2,n2,h1,h2⟩:=h.cells;have HP:=Hd h2;have c0:=aJ h1 0;have c1:=aJ h1 1;simp only[gA,gZ,gS]at c0 c1;have bu:=Hd (aa w (qn #[U Z 0,qh none 0 0] 54));have HX:=Hd (qA w (qn #[U Z 0,qh none 0 0] 54));have f0:=ah bu.o c0;have f1:=ah bu.o c1;clear h h1 h2 c0 c1;go_enter func536,ntmps536;go_wp2_with fail
 generalize w.alloc (qn #[U Z 0,qh none 0 0] 54)=W at bu HX f0 f1⊢;refine(gT W (HP.o.ag (M:=[]) (Ch.af bu.o))).mono ?_;rintro e w2⟨c0,m0,c1,m1,c2,m2,rfl,h1,l0,l1,l2,hb2⟩;have az:=Hd (ai bu.o hb2);have aF:=Hd (ae hb2 HX.o);have iC:=Hd h1;have HL:=Hd (qM bu.o.size l0);clear h1 l0 l1 l2 hb2 f0 f1;go_wp2_with(refine qE rfl 54 (Operand.tmp 2) _ rfl w.heap.size _ rfl rfl 54 _ aF.o iW rfl (by simp[Value.oneCell']) ?_)
 simp only[Act.put];refine aR rfl rfl rfl (qJ _ _ _ _ _ _ aF.o) underlying54 rfl iW ?_;exact⟨c0,m0,c1,m1,c2,m2,rfl,iC.o.ag (Ch.kj aF.o qa _),HL.o,aj az.o Y _⟩
abbrev taC(b0 n0:Nat)(at' addr:Int):Array qp:=#[U Z 0,qh (some ⟨b0,0,none⟩) 2 n0,U Z at',U Z addr,U Z 0]
structure mh(w:qo)(tb:Nat)(at' addr:Int):Prop where
 cells: ∃b0 n0 b1 n1 b2 n2,w.heap[tb]? =some (qn (taC b0 n0 at' addr) 371 (0,0))∧cL w b0 n0 b1 n1 b2 n2
theorem mh.ag{tb:Nat}{at' addr:Int}(h:mh w tb at' addr)(c:Ch M w J)(hn:tb∉M):mh J tb at' addr:=by
 obtain⟨b0,n0,b1,n1,b2,n2,h1,h2⟩:=h.cells;exact⟨b0,n0,b1,n1,b2,n2,c.heap h1 hn,h2.ag c⟩
theorem mh.lt{tb:Nat}{at' addr:Int}(h:mh w tb at' addr):tb<w.heap.size:=by
 obtain⟨b0,n0,b1,n1,b2,n2,h1,h2⟩:=h.cells;exact qK h1
theorem sB(tb:Nat)(at' addr:Int)(b:Bool)(hb:decide (at'=2)=b)(w:qo)(h:mh w tb at' addr):
 qw qx 214 #[qi (some ⟨tb,0,none⟩)] w fun e J=>e=qm (qj #[U Z (if b then addr else 0),U Z 0,qk b])∧qz w.heap.size w J:=by
 obtain⟨b0,n0,b1,n1,b2,n2,h1,h2⟩:=h.cells;obtain⟨c0,c1,c2,c3,c4⟩:=Bl h1;have hx:(at' !=2)= !b:=by subst hb;cases hd:decide (at'=2)<;>simp_all
 clear h h1 h2 hb;cases b
 ·go_enter func214,ntmps214;go_wp2
  go_ret3
  exact⟨rfl,Below.refl _ _⟩
 ·go_enter func214,ntmps214;go_wp2
  go_quiet (fail)
  go_wp2
  go_ret3
  exact⟨rfl,below_drewN (Below.refl _ _) _⟩
theorem agT(tb:Nat)(at' addr:Int)(w:qo)(h:mh w tb at' addr):
 qw qx 533 #[qi (some ⟨tb,0,none⟩)] w fun e J=> ∃c0 m0 c1 m1 c2 m2,e=qm (ql #[U Z 0,qh (some ⟨c0,0,none⟩) 2 m0])∧cL J c0 m0 c1 m1 c2 m2∧w.heap.size≤c0∧qz w.heap.size w J:=by
 obtain⟨b0,n0,b1,n1,b2,n2,h1,h2⟩:=h.cells;have HP:=Hd h2;obtain⟨c0,c1,c2,c3,c4⟩:=Bl h1;have bu:=Hd (aa w (qn #[U Z 0,qh none 0 0] 54));have HX:=Hd (qA w (qn #[U Z 0,qh none 0 0] 54));have f0:=ah bu.o c0;have f1:=ah bu.o c1;clear h h1 h2 c0 c1 c2 c3 c4;go_enter func533,ntmps533;go_wp2_with fail
 generalize w.alloc (qn #[U Z 0,qh none 0 0] 54)=W at bu HX f0 f1⊢;refine(gT W (HP.o.ag (M:=[]) (Ch.af bu.o))).mono ?_;rintro e w2⟨c0,m0,c1,m1,c2,m2,rfl,h1,l0,l1,l2,hb2⟩;have az:=Hd (ai bu.o hb2);have aF:=Hd (ae hb2 HX.o);have iC:=Hd h1;have HL:=Hd (qM bu.o.size l0);clear h1 l0 l1 l2 hb2 f0 f1;go_wp2_with(refine qE rfl 54 (Operand.tmp 2) _ rfl w.heap.size _ rfl rfl 54 _ aF.o iW rfl (by simp[Value.oneCell']) ?_)
 simp only[Act.put];refine aR rfl rfl rfl (qJ _ _ _ _ _ _ aF.o) underlying54 rfl iW ?_;exact⟨c0,m0,c1,m1,c2,m2,rfl,iC.o.ag (Ch.kj aF.o qa _),HL.o,aj az.o Y _⟩
theorem Zc(w:qo)(h:cL w b0 n0 b1 n1 b2 n2):
 qw qx 178 #[ql #[U Z 0,qh (some ⟨b0,0,none⟩) 2 n0]] w fun e J=> ∃tb,e=qm (qi (some ⟨tb,0,none⟩))∧mh J tb 1 0∧w.heap.size≤tb∧qz w.heap.size w J:=by
 have HH:=Hd h;have bu:=Hd (aa w (qn #[U Z 0,qh (some ⟨b0,0,none⟩) 2 n0] 54));have HX:=Hd (qA w (qn #[U Z 0,qh (some ⟨b0,0,none⟩) 2 n0] 54));clear h;go_enter func178,ntmps178;go_wp2_with fail
 generalize w.alloc (qn #[U Z 0,qh (some ⟨b0,0,none⟩) 2 n0] 54)=W at bu HX⊢;refine(gT W (HH.o.ag (M:=[]) (Ch.af bu.o))).mono ?_;rintro e w2⟨c0,m0,c1,m1,c2,m2,rfl,h1,l0,l1,l2,hb2⟩;have az:=Hd (ai bu.o hb2);have HP:=Hd h1;obtain⟨q0,q1⟩:=cp (ae hb2 HX.o);have p0: ∀A:Obj,(w2.alloc A).cell? ⟨w.heap.size,0,none⟩=some (U Z 0):=fun A=>aA q0;have p1: ∀A:Obj,(w2.alloc A).cell? ⟨w.heap.size,1,none⟩=some (qh (some ⟨b0,0,none⟩) 2 n0):=fun A=>aA q1;clear h1 l0 l1 l2 hb2;go_wp2_with fail
 have cu:=Hd (ai az.o (aa w2 (qn (taC c0 m0 1 0) 371)));have jn:=Hd (qA w2 (qn (taC c0 m0 1 0) 371));have uW:=Hd (HP.o.ag (M:=[]) (Ch.af (aa w2 (qn (taC c0 m0 1 0) 371))));generalize w2.alloc (qn (taC c0 m0 1 0) 371)=W3 at cu jn uW⊢;refine(cG W3 (HH.o.ag (M:=[]) (Ch.af cu.o))).mono ?_;rintro e w4⟨rfl,hb4⟩;have dp:=Hd (ai cu.o hb4);have jA:=Hd (ae hb4 jn.o);have pB:=Hd (uW.o.ag (M:=[]) (Ch.af hb4));clear hb4 p0 p1 q0 q1;go_wp2_with fail
 go_ret;exact⟨w2.heap.size,rfl,⟨c0,m0,c1,m1,c2,m2,jA.o,pB.o⟩,az.o.size,dp.o⟩
theorem Zd(tb:Nat)(addr:Int)(w:qo)(h:mh w tb 1 addr):
 qw qx 531 #[qi (some ⟨tb,0,none⟩)] w fun e J=>e=qm (qj #[ql (bF 7 0 0 0 0 0 ⟨#[]⟩),qk true])∧qz w.heap.size w J:=by
 obtain⟨b0,n0,b1,n1,b2,n2,h1,h2⟩:=h.cells;have HH:=Hd h1;have bu:=Hd (aa w (qn (bF 0 0 0 0 0 0 ⟨#[]⟩) 129));have HX:=Hd (qA w (qn (bF 0 0 0 0 0 0 ⟨#[]⟩) 129));obtain⟨c0,c1,c2,c3,c4⟩:=Bl (ae bu.o HH.o);clear h h1 h2;go_enter func531,ntmps531;go_wp2_with fail
 refine aY rfl rfl rfl (qA _ _) underlying129 rfl fC ?_;exact⟨rfl,aa _ _⟩
theorem Ut(tb:Nat)(n:Int)(hn:0≤n∧n≤16384)(w:qo)(h:mh w tb 1 0):
 qw qx 532 #[qi (some ⟨tb,0,none⟩),ql (nM n),qk true] w fun e J=>e=qm (qj #[])∧mh J tb 2 n∧Ch [tb] w J:=by
 obtain⟨b0,n0,b1,n1,b2,n2,h1,h2⟩:=h.cells;have HH:=Hd h1;have HP:=Hd h2;have n1': ¬n<0:=Y;have n2': ¬16384<n:=Y;have bu:=Hd (aa w (qn (nM n) 126));have HX:=Hd (qA w (qn (nM n) 126));have HO:=Hd (ae bu.o HH.o);obtain⟨c0,c1,c2,c3,c4⟩:=Bl HO.o;have e2:=cn HO.o 2;have e3:=cn HO.o 3;have e4:=cn HO.o 4;have d0:=aJ HX.o 0;have d1:=aJ HX.o 1;have bd:w.heap.size≠tb:=by have:=qK HH.o;omega
 simp only[gA,gZ,gS]at d0 d1;clear h h1 h2 hn;go_enter func532,ntmps532;go_wp2_with fail
 generalize w.alloc (qn (nM n) 126)=W at bu HX HO c0 c1 c2 c3 c4 d0 d1 e2 e3 e4⊢;refine lN 0 rfl ?_;go_wp2_with fail
 go_step3
 refine And.intro rfl ?_;go_wp2_with fail
 rw[xu]
 go_end0
 have H1:=av (i:=2) HO.o (U Z 2);have H2:=av (i:=4) H1 (U Z 0);have H3:=av (i:=3) H2 (U Z n);have hc:=((Ch.dn HO.o qa 2 (U Z 2)).aq (Ch.dn H1 qa 4 (U Z 0))).aq (Ch.dn H2 qa 3 (U Z n));simp only[aS,sZ,sS]at H3;exact⟨rfl,⟨b0,n0,b1,n1,b2,n2,H3,(HP.o.ag (M:=[]) (Ch.af bu.o)).ag hc⟩,Ch.pre bu.o hc⟩
abbrev pC:Array qp:=#[U Z 0,U Z 0,U Z 0,U Z 0,U Z 0,U Z 0,qg ⟨#[]⟩,U Z 0,qh none 0 0]
theorem Qe(fb:Nat)(a:Int)(fill:Bool)(kind:Int)(s:ByteArray)(p:Int)(c:Nat)(hc2:c<2)(ha:0≤a∧a<16384)(hc:a.tmod 2=(c:Int))(hp:a.tdiv 2=p)(Uq:Nat)(hU:2*c+1=Uq)(w:qo)(h:jt w fb a fill 2 kind s):
 qw qx 539 #[qi (some ⟨fb,0,none⟩)] w fun e J=>e=qm (qj #[ql (bF 3 (Uq:Nat) 0 p 0 0 ⟨#[]⟩),qk true])∧qz w.heap.size w J:=by
 obtain⟨b0,n0,b1,n1,b2,n2,h1,h2⟩:=h.cells;have HH:=Hd h1;have HA:=Hd ha;have HC:=Hd hc;have yu:=Hd hp;have dD:=Hd hc2;have HU:=Hd hU;obtain⟨V,hV⟩: ∃V:Nat,2*c=V:=⟨_,rfl⟩;have HV:=Hd hV;have HP:=Hd h2;have bu:=Hd (aa w (qn pC 129));have HX:=Hd (qA w (qn pC 129));have HO:=Hd (ae bu.o HH.o);have Ur:=Hd (HP.o.ag (M:=[]) (Ch.af bu.o));have c4:=aJ HO.o 4;simp only[gA,gZ,gS]at c4;clear h h1 h2 ha hc hp hc2 hU hV;go_enter func539,ntmps539;go_wp2_with fail
 generalize w.alloc (qn pC 129)=W at bu HX HO Ur c4⊢;go_wp2_with fail
 clear c4;have au:qy (Ch [] W W.drew):=Hd (Ch.refl _ _).drew;refine aB 14 15 (fun X=>Ch [] W X) qd rfl ?_;refine tL 0 32 ?_ au.o ?_ (tL 1 33 ?_ au.o ?_ (tL 2 34 ?_ au.o ?_ (tL 3 35 ?_ au.o ?_ (tL 4 36 ?_ au.o ?_ (tL 5 37 ?_ au.o ?_ (tL 6 38 ?_ au.o ?_ (tL 7 39 ?_ au.o ?_ ?_)))))))
 iterate 8
  rotate_left
  ·intro wq hq;have HQ:=hq.heap HO.o qc;have g0:=(aJ HQ 0);have g1:=(aJ HQ 1);have g2:=(aJ HQ 2);simp only[gA,gZ,gS]at g0 g1 g2;exact bJ
 simp only[pS,aS,sZ,sS]
 have Fs: ∀X,Ch [] W X→qw qx 312 #[ql #[U Z 0,qh (some ⟨b0,0,none⟩) 2 n0],U Z a] X fun e J=>e=qm (qj #[ql #[U Z (c:Int),U Z p],qk true])∧qz X.heap.size X J:=
  fun X hX=>kJ a (c:Int) p HA.o HC.o yu.o X (Ur.o.ag hX)
 refine oP 8 12 qd rfl rfl rfl rfl (al (some 40) (f:=312) (args:=#[ql #[U Z 0,qh (some ⟨b0,0,none⟩) 2 n0],U Z a]) rfl qf (fun u X=>u=qj #[ql #[U Z (c:Int),U Z p],qk true]∧Ch [] W X) ((Fs _ au.o).mono fun e J ⟨h1,h2⟩=>⟨_,h1,rfl,au.o.step h2⟩) ?_) (aw (some 4) (v:=qi (some ⟨W.heap.size,0,none⟩)) (J:=(W.alloc (qn #[U Z 0,U Z 0] 344)).drew) rfl qf ⟨fun _=>((Ch.refl [] W).alloc _).drew,?_⟩)
 all_goals
  first
  |(rintro u wx ⟨rfl,h2⟩
    have sC:=Hd h2;clear h2;refine⟨fun _=>sC.o,?_⟩;simp only[pS,aS,sZ,sS];refine tL 9 31 ?_ sC.o ?_ (tL 10 41 ?_ sC.o ?_ (tL 11 42 ?_ sC.o ?_ ?_))
    iterate 3
     rotate_left
     ·intro wq hq;exact bJ
    simp only[pS,aS,sZ,sS];refine ay 12 qd rfl rfl (aw (some 4) (v:=qi (some ⟨wx.heap.size,0,none⟩)) (J:=wx.alloc (qn #[U Z 0,U Z 0] 344)) rfl qf ⟨fun _=>sC.o.alloc _,?_⟩);simp only[pS,aS,sZ,sS];have Uu:qy ((wx.alloc (qn #[U Z 0,U Z 0] 344)).heap[wx.heap.size]? =some (qn #[U Z 0,U Z 0] 344 (0,0))∧Ch [] W (wx.alloc (qn #[U Z 0,U Z 0] 344))∧W.heap.size≤wx.heap.size):=Hd ⟨qA _ _,sC.o.alloc _,sC.o.size⟩;generalize wx.alloc (qn #[U Z 0,U Z 0] 344)=wy at Uu⊢;generalize wx.heap.size=pb at Uu⊢;have oF:=Uu
    clear Uu sC)
  |(simp only[pS,aS,sZ,sS]
    have Ze:qy (Ch [] W (W.alloc (qn #[U Z 0,U Z 0] 344)).drew):=Hd ((Ch.refl [] W).alloc _).drew;have zw:qy ((W.alloc (qn #[U Z 0,U Z 0] 344)).drew.heap[W.heap.size]? =some (qn #[U Z 0,U Z 0] 344 (0,0))):=Hd (qA W _);refine ay 8 qd rfl rfl (al (some 40) (f:=312) (args:=#[ql #[U Z 0,qh (some ⟨b0,0,none⟩) 2 n0],U Z a]) rfl qf (fun u X=>u=qj #[ql #[U Z (c:Int),U Z p],qk true]∧Ch [] W X∧X.heap[W.heap.size]? =some (qn #[U Z 0,U Z 0] 344 (0,0))) ((Fs _ Ze.o).mono fun e J ⟨h1,h2⟩=>⟨_,h1,rfl,Ze.o.step h2,ae h2 zw.o⟩) ?_);rintro u wy⟨rfl,h2,h3⟩;have sC:=Hd h2
    obtain⟨pb,Gt⟩: ∃pb,W.heap.size=pb:=⟨_,rfl⟩;have oF:qy (wy.heap[pb]? =some (qn #[U Z 0,U Z 0] 344 (0,0))∧Ch [] W wy∧W.heap.size≤pb):=by rw[←Gt];exact Hd ⟨h3,h2,Nat.le_refl _⟩
    clear h2 h3;refine⟨fun _=>sC.o,?_⟩;simp only[pS,aS,sZ,sS];refine tL 9 31 ?_ sC.o ?_ (tL 10 41 ?_ sC.o ?_ (tL 11 42 ?_ sC.o ?_ ?_))
    iterate 3
     rotate_left
     ·intro wq hq;exact bJ
    simp only[pS,aS,sZ,sS];clear sC Ze zw;rw[Gt];clear Gt)
 all_goals
  refine ay 13 qd rfl rfl (dG rfl 344 _ _ rfl pb #[U Z (c:Int),U Z p] rfl rfl 344 _ oF.o.1 fD rfl (by simp[Value.oneCell']) ⟨fun _=>oF.o.2.1.row oF.o.2.2 _,?_⟩);refine ay 14 qd rfl rfl (aw (some 5) (v:=qk true) (J:=wy.setRow pb #[U Z (c:Int),U Z p]) rfl qf ⟨fun h=>qZ rfl h,?_⟩);simp only[pS,aS,sZ,sS];refine aU qd ?_;have HY:qy (qz W.heap.size W (wy.setRow pb #[U Z (c:Int),U Z p])):=Hd ((oF.o.2.1.row oF.o.2.2 _).below qc (Nat.le_refl _));have Eh:qy ((wy.setRow pb #[U Z (c:Int),U Z p]).heap[pb]? =some (qn #[U Z (c:Int),U Z p] 344 (0,0))∧W.heap.size≤pb):=Hd ⟨qJ _ _ _ _ _ _ oF.o.1,oF.o.2.2⟩
  clear oF au Fs;generalize wy.setRow pb #[U Z (c:Int),U Z p]=w4 at HY Eh⊢
 all_goals
  have gH:=Hd (ae HY.o HO.o);have jA:=Hd (ae HY.o HX.o);have pB:=Hd (Ur.o.ag (M:=[]) (Ch.af HY.o));have dp:=Hd (ai bu.o HY.o);have Qc:=Hd Eh.o.1;clear Eh HY HO HX Ur;go_wp2_with fail
  have cA:qy (Ch [] w4 w4.drew):=Hd (Ch.refl _ _).drew;refine aB 10 10 (fun X=>Ch [] w4 X) qd rfl ?_;refine tN 0 43 ?_ cA.o ?_ (tN 1 44 ?_ cA.o ?_ (tN 2 45 ?_ cA.o ?_ (tN 3 46 ?_ cA.o ?_ (tN 4 47 ?_ cA.o ?_ (tN 5 48 ?_ cA.o ?_ (tN 6 49 ?_ cA.o ?_ (tN 7 50 ?_ cA.o ?_ ?_)))))))
  iterate 8
   rotate_left
   ·intro wq hq;have HQ:=hq.heap gH.o qc;have g0:=(aJ HQ 0);have g1:=(aJ HQ 1);have g2:=(aJ HQ 2);simp only[gA,gZ,gS]at g0 g1 g2;exact bJ
  simp only[pS,aS,sZ,sS];refine ay 8 qd rfl rfl (al (some 51) (f:=537) (args:=#[ql #[U Z 0,qh (some ⟨b0,0,none⟩) 2 n0],U Z a]) rfl qf (fun u X=> ∃g m,u=qh (some ⟨g,0,none⟩) 2 m∧IR X g m (2*c:Nat) (2*c+1:Nat)∧Ch [] w4 X) ((ly a p c dD.o HA.o HC.o yu.o w4.drew (pB.o.ag cA.o)).mono fun e J ⟨g,m,h1,h2,h3,h4⟩=>⟨_,h1,g,m,rfl,h2,cA.o.step h4⟩) ?_);rintro u w6⟨g,m,rfl,hir,hc6⟩;have Wz:qy (IR w6 g m (V:Nat) (Uq:Nat)):=Hd (by rw[←HV.o,←HU.o];exact hir);have ee:=Hd hc6;clear hir hc6 cA;refine⟨fun _=>ee.o,?_⟩;simp only[pS,aS,sZ,sS];refine tN 9 6 ?_ ee.o ?_ ?_;rotate_left
  ·intro wq hq;exact bJ
  simp only[pS,aS,sZ,sS];refine aU qd ?_;have iD:=Hd (ee.o.heap gH.o qc);have vp:=Hd (ee.o.heap jA.o qc);have adj:=Hd (ee.o.heap Qc.o qc);have jd:=Hd (ai dp.o (ee.o.below qc (Nat.le_refl _)));clear gH jA Qc pB dp ee;go_wp2_with fail
  have dT:qy (Ch [] w6 w6.drew):=Hd (Ch.refl _ _).drew;refine aB 13 13 (fun X=>Ch [] w6 X) qd rfl ?_;refine tN 0 52 ?_ dT.o ?_ (tN 1 53 ?_ dT.o ?_ (tN 2 54 ?_ dT.o ?_ (tN 3 55 ?_ dT.o ?_ (tN 4 56 ?_ dT.o ?_ (tN 5 57 ?_ dT.o ?_ (tN 6 58 ?_ dT.o ?_ (tN 7 59 ?_ dT.o ?_ (tN 8 60 ?_ dT.o ?_ (tN 9 61 ?_ dT.o ?_ (tN 10 62 ?_ dT.o ?_ ?_))))))))))
  iterate 11
   rotate_left
   ·intro wq hq;have HQ:=hq.heap iD.o qc;have HR:=hq.heap adj.o qc;have g0:=(aJ HQ 0);have r1:=(aJ HR 1);obtain⟨i0,i1⟩:=(Wz.o.ag hq).cells;simp only[gA,gZ,gS]at g0 r1;exact bJ
  simp only[pS,aS,sZ,sS];have HXE:=Hd (qA w6.drew (qn pC 129));have HCE:qy (Ch [] w6 (w6.drew.alloc (qn pC 129))):=Hd (dT.o.alloc _);refine ay 11 qd rfl rfl (aw (some 7) (v:=qi (some ⟨w6.heap.size,0,none⟩)) (J:=w6.drew.alloc (qn pC 129)) rfl qf ⟨fun _=>HCE.o,?_⟩);simp only[pS,aS,sZ,sS];refine ay 12 qd rfl rfl (dG rfl 129 _ _ rfl w6.heap.size (bF 3 (V:Nat) 0 p 0 0 ⟨#[]⟩) rfl rfl 129 _ HXE.o fC rfl (by simp[Value.oneCell']) ⟨fun _=>HCE.o.row (Nat.le_refl _) _,?_⟩);refine aU qd ?_
  have sY:qy (Ch [] w6 ((w6.drew.alloc (qn pC 129)).setRow w6.heap.size (bF 3 (V:Nat) 0 p 0 0 ⟨#[]⟩))):=Hd (HCE.o.row (Nat.le_refl _) _);have Uv:qy (((w6.drew.alloc (qn pC 129)).setRow w6.heap.size (bF 3 (V:Nat) 0 p 0 0 ⟨#[]⟩)).heap[w6.heap.size]? =some (qn (bF 3 (V:Nat) 0 p 0 0 ⟨#[]⟩) 129 (0,0))):=Hd (qJ _ _ _ _ _ _ HXE.o);have aN:w.heap.size<w6.heap.size:=qK vp.o;clear HXE HCE dT;obtain⟨qb,hqb⟩: ∃qb,w6.heap.size=qb:=⟨_,rfl⟩;rw[hqb]at aN Uv;rw[hqb]at sY;rw[hqb];clear hqb;generalize(w6.drew.alloc (qn pC 129)).setRow qb (bF 3 (V:Nat) 0 p 0 0 ⟨#[]⟩)=w7 at sY Uv⊢;have WH:=Hd (sY.o.heap iD.o qc)
  have HX7:=Hd (sY.o.heap vp.o qc);have agU:=Hd (Wz.o.ag sY.o);have Kk:=Hd (ai jd.o (sY.o.below qc (Nat.le_refl _)));have dO:=Hd aN;clear aN iD vp Wz jd sY adj;have c4:=aJ WH.o 4;obtain⟨i0,i1⟩:=agU.o.cells;obtain⟨d0,d1,d2,d3,d4,d5,d6,d7,d8⟩:=eX Uv.o;have e1:=cn Uv.o 1;simp only[gA,gZ,gS]at c4;have HE:qy ((w7.setCell ⟨qb,1,none⟩ (U Z (Uq:Nat))).heap[w.heap.size]? =some (qn pC 129 (0,0))):=Hd (aZ HX7.o (by have:=dO.o;omega));go_wp2_with(refine qE rfl 129 (Operand.tmp 2) _ rfl w.heap.size _ rfl rfl 129 _ HE.o fC rfl (by simp[Value.oneCell']) ?_)
  refine aY rfl rfl rfl (qJ _ _ _ _ _ _ HE.o) underlying129 rfl fC ?_;exact⟨rfl,aj (Kk.o.setCell (p:=⟨qb,1,none⟩) (by have:=dO.o;simp;omega) _) Y _⟩
theorem Qf(ab:Nat)(rec:ByteArray)(n:Int)(hn:0≤n∧n<16384)(w:qo)(h:ij w ab rec 2 0 0 false):
 qw qx 535 #[qi (some ⟨ab,0,none⟩),ql (nM n),qk true] w fun e J=>e=qm (qj #[])∧ij J ab rec 3 0 n false∧Ch [ab] w J:=by
 obtain⟨b0,n0,b1,n1,b2,n2,h1,h2⟩:=h.cells;have HH:=Hd h1;have HN:=Hd hn;have HP:=Hd h2;have bu:=Hd (aa w (qn (nM n) 126));have HX:=Hd (qA w (qn (nM n) 126));have HO:=Hd (ae bu.o HH.o);have c0:=aJ HX.o 0;have c3:=aJ HO.o 3;simp only[gA,gZ,gS]at c0 c3;clear h h1 h2 hn;go_enter func535,ntmps535;go_wp2_with fail
 generalize w.alloc (qn (nM n) 126)=W at bu HX HO c0 c3⊢;go_wp2_with fail
 go_step3
 go_wp2_with fail
 refine(yv ab rec 2 0 0 false W ⟨b0,n0,b1,n1,b2,n2,HO.o,HP.o.ag (M:=[]) (Ch.af bu.o)⟩).mono ?_;rintro e w2⟨rfl,hb2⟩;have az:=Hd (ai bu.o hb2);have aF:=Hd (ae hb2 HX.o);have kN:=Hd (ae hb2 HO.o);have c0:=aJ aF.o 0;have c1:=aJ aF.o 1;have c3:=aJ kN.o 3;simp only[gA,gZ,gS]at c0 c1 c3;have iC:=Hd (HP.o.ag (M:=[]) (Ch.af az.o));obtain⟨C,hC⟩: ∃C,n.tmod 2=C:=⟨_,rfl⟩;obtain⟨P,hP⟩: ∃P,n.tdiv 2=P:=⟨_,rfl⟩;have HC:=Hd hC;have yu:=Hd hP;clear hb2 hC hP;go_wp2_with fail
 clear c0 c1 c3;have au:qy (Ch [] w2 w2.drew):=Hd (Ch.refl _ _).drew;refine aB 12 13 (fun X=>Ch [] w2 X) qd rfl ?_;refine tL 0 85 ?_ au.o ?_ (tL 1 86 ?_ au.o ?_ (tL 2 87 ?_ au.o ?_ (tL 3 88 ?_ au.o ?_ (tL 4 89 ?_ au.o ?_ (tL 5 90 ?_ au.o ?_ ?_)))))
 iterate 6
  rotate_left
  ·intro wq hq;have HQ:=hq.heap kN.o qc;have HR:=hq.heap aF.o qc;have g0:=(aJ HQ 0);have g1:=(aJ HQ 1);have r1:=(aJ HR 1);simp only[gA,gZ,gS]at g0 g1 r1;exact bJ
 simp only[pS,aS,sZ,sS]
 have Fs: ∀X,Ch [] w2 X→qw qx 312 #[ql #[U Z 0,qh (some ⟨b0,0,none⟩) 2 n0],U Z n] X fun e J=>e=qm (qj #[ql #[U Z C,U Z P],qk true])∧qz X.heap.size X J:=
  fun X hX=>kJ n C P HN.o HC.o yu.o X (iC.o.ag hX)
 refine oP 6 10 qd rfl rfl rfl rfl (al (some 91) (f:=312) (args:=#[ql #[U Z 0,qh (some ⟨b0,0,none⟩) 2 n0],U Z n]) rfl qf (fun u X=>u=qj #[ql #[U Z C,U Z P],qk true]∧Ch [] w2 X) ((Fs _ au.o).mono fun e J ⟨h1,h2⟩=>⟨_,h1,rfl,au.o.step h2⟩) ?_) (aw (some 7) (v:=qi (some ⟨w2.heap.size,0,none⟩)) (J:=(w2.alloc (qn #[U Z 0,U Z 0] 344)).drew) rfl qf ⟨fun _=>((Ch.refl [] w2).alloc _).drew,?_⟩)
 all_goals
  first
  |(rintro u wx ⟨rfl,h2⟩
    have sC:=Hd h2;clear h2;refine⟨fun _=>sC.o,?_⟩;simp only[pS,aS,sZ,sS];refine tL 7 84 ?_ sC.o ?_ (tL 8 92 ?_ sC.o ?_ (tL 9 93 ?_ sC.o ?_ ?_))
    iterate 3
     rotate_left
     ·intro wq hq;exact bJ
    simp only[pS,aS,sZ,sS];refine ay 10 qd rfl rfl (aw (some 7) (v:=qi (some ⟨wx.heap.size,0,none⟩)) (J:=wx.alloc (qn #[U Z 0,U Z 0] 344)) rfl qf ⟨fun _=>sC.o.alloc _,?_⟩);simp only[pS,aS,sZ,sS];have Uu:qy ((wx.alloc (qn #[U Z 0,U Z 0] 344)).heap[wx.heap.size]? =some (qn #[U Z 0,U Z 0] 344 (0,0))∧Ch [] w2 (wx.alloc (qn #[U Z 0,U Z 0] 344))∧w2.heap.size≤wx.heap.size):=Hd ⟨qA _ _,sC.o.alloc _,sC.o.size⟩;generalize wx.alloc (qn #[U Z 0,U Z 0] 344)=wy at Uu⊢;generalize wx.heap.size=pb at Uu⊢;have oF:=Uu
    clear Uu sC)
  |(simp only[pS,aS,sZ,sS]
    have Ze:qy (Ch [] w2 (w2.alloc (qn #[U Z 0,U Z 0] 344)).drew):=Hd ((Ch.refl [] w2).alloc _).drew;have zw:qy ((w2.alloc (qn #[U Z 0,U Z 0] 344)).drew.heap[w2.heap.size]? =some (qn #[U Z 0,U Z 0] 344 (0,0))):=Hd (qA w2 _);refine ay 6 qd rfl rfl (al (some 91) (f:=312) (args:=#[ql #[U Z 0,qh (some ⟨b0,0,none⟩) 2 n0],U Z n]) rfl qf (fun u X=>u=qj #[ql #[U Z C,U Z P],qk true]∧Ch [] w2 X∧X.heap[w2.heap.size]? =some (qn #[U Z 0,U Z 0] 344 (0,0))) ((Fs _ Ze.o).mono fun e J ⟨h1,h2⟩=>⟨_,h1,rfl,Ze.o.step h2,ae h2 zw.o⟩) ?_);rintro u wy⟨rfl,h2,h3⟩;have sC:=Hd h2
    obtain⟨pb,Gt⟩: ∃pb,w2.heap.size=pb:=⟨_,rfl⟩;have oF:qy (wy.heap[pb]? =some (qn #[U Z 0,U Z 0] 344 (0,0))∧Ch [] w2 wy∧w2.heap.size≤pb):=by rw[←Gt];exact Hd ⟨h3,h2,Nat.le_refl _⟩
    clear h2 h3;refine⟨fun _=>sC.o,?_⟩;simp only[pS,aS,sZ,sS];refine tL 7 84 ?_ sC.o ?_ (tL 8 92 ?_ sC.o ?_ (tL 9 93 ?_ sC.o ?_ ?_))
    iterate 3
     rotate_left
     ·intro wq hq;exact bJ
    simp only[pS,aS,sZ,sS];clear sC Ze zw;rw[Gt];clear Gt)
 all_goals
  refine ay 11 qd rfl rfl (dG rfl 344 _ _ rfl pb #[U Z C,U Z P] rfl rfl 344 _ oF.o.1 fD rfl (by simp[Value.oneCell']) ⟨fun _=>oF.o.2.1.row oF.o.2.2 _,?_⟩);refine ay 12 qd rfl rfl (aw (some 8) (v:=qk true) (J:=wy.setRow pb #[U Z C,U Z P]) rfl qf ⟨fun h=>qZ rfl h,?_⟩);simp only[pS,aS,sZ,sS];refine aU qd ?_;have HY:qy (qz w2.heap.size w2 (wy.setRow pb #[U Z C,U Z P])):=Hd ((oF.o.2.1.row oF.o.2.2 _).below qc (Nat.le_refl _));have Eh:qy ((wy.setRow pb #[U Z C,U Z P]).heap[pb]? =some (qn #[U Z C,U Z P] 344 (0,0))∧w2.heap.size≤pb):=Hd ⟨qJ _ _ _ _ _ _ oF.o.1,oF.o.2.2⟩;clear oF au Fs
  generalize wy.setRow pb #[U Z C,U Z P]=w4 at HY Eh⊢
 all_goals
  have gH:=Hd (ae HY.o kN.o);have jA:=Hd (ae HY.o aF.o);have pB:=Hd (iC.o.ag (M:=[]) (Ch.af HY.o));have dp:=Hd (ai az.o HY.o);have hx:w.heap.size∉[ab]:=by have:=qK HH.o;simp;omega
  clear Eh HY;go_wp2_with fail
  have dP:qy (Ch [ab] w4 w4.drew):=Hd (Ch.refl _ _).drew;refine aB 13 14 (fun X=>Ch [ab] w4 X) qd rfl ?_;refine tL 0 99 ?_ dP.o ?_ (tL 1 100 ?_ dP.o ?_ (tL 2 101 ?_ dP.o ?_ (tL 3 102 ?_ dP.o ?_ (tL 4 103 ?_ dP.o ?_ (tL 5 104 ?_ dP.o ?_ (tL 6 105 ?_ dP.o ?_ ?_))))))
  iterate 7
   rotate_left
   ·intro wq hq;have HR:=hq.heap jA.o hx;have r1:=(aJ HR 1);simp only[gA,gZ,gS]at r1;exact bJ
  simp only[pS,aS,sZ,sS];have d0:=aJ gH.o 3;have e0:=cn gH.o 3;have d1:=aJ gH.o 5;have e1:=cn gH.o 5;have d6:=aJ gH.o 6;have e6:=cn gH.o 6;simp only[gA,gZ,gS]at d0 d1 d6;have ee:qy (Ch [ab] w4 (w4.drew.setCell ⟨ab,3,none⟩ (U Z 3))):=Hd (dP.o.aq (Ch.dn (w:=w4.drew) gH.o qa 3 _));have iD:=Hd (av (w:=w4.drew) (i:=3) gH.o (U Z 3));refine ay 7 qd rfl rfl (bm none (J:=w4.drew.setCell ⟨ab,3,none⟩ (U Z 3)) rfl qf ⟨fun _=>ee.o,?_⟩);simp only[Act.put];refine tL 8 106 ?_ ee.o ?_ (tL 9 107 ?_ ee.o ?_ ?_)
  iterate 2
   rotate_left
   ·intro wq hq;exact bJ
  simp only[pS,aS,sZ,sS];have sY:qy (Ch [ab] w4 ((w4.drew.setCell ⟨ab,3,none⟩ (U Z 3)).setCell ⟨ab,5,none⟩ (U Z 0))):=Hd (ee.o.aq (Ch.dn iD.o qa 5 _));have WH:=Hd (av (i:=5) iD.o (U Z 0));refine ay 10 qd rfl rfl (bm none (J:=(w4.drew.setCell ⟨ab,3,none⟩ (U Z 3)).setCell ⟨ab,5,none⟩ (U Z 0)) rfl qf ⟨fun _=>sY.o,?_⟩);simp only[Act.put];refine ay 11 qd rfl rfl (aw (some 108) (v:=qi (some ⟨ab,0,none⟩)) (J:=(w4.drew.setCell ⟨ab,3,none⟩ (U Z 3)).setCell ⟨ab,5,none⟩ (U Z 0)) rfl qf ⟨fun _=>sY.o,?_⟩);simp only[pS,aS,sZ,sS]
  refine ay 12 qd rfl rfl (aw (some 109) (v:=qi (some ⟨ab,6,none⟩)) (J:=(w4.drew.setCell ⟨ab,3,none⟩ (U Z 3)).setCell ⟨ab,5,none⟩ (U Z 0)) rfl qf ⟨fun _=>sY.o,?_⟩);simp only[pS,aS,sZ,sS];have IQ:qy (Ch [ab] w4 (((w4.drew.setCell ⟨ab,3,none⟩ (U Z 3)).setCell ⟨ab,5,none⟩ (U Z 0)).setCell ⟨ab,6,none⟩ (U Z n))):=Hd (sY.o.aq (Ch.dn WH.o qa 6 _));have Uw:=Hd (av (i:=6) WH.o (U Z n));refine ay 13 qd rfl rfl (bm none (J:=((w4.drew.setCell ⟨ab,3,none⟩ (U Z 3)).setCell ⟨ab,5,none⟩ (U Z 0)).setCell ⟨ab,6,none⟩ (U Z n)) rfl qf ⟨fun h=>qZ rfl h,?_⟩);simp only[Act.put];refine aU qd ?_
  clear sY ee dP WH iD d0 d1 d6 e0 e1 e6;generalize((w4.drew.setCell ⟨ab,3,none⟩ (U Z 3)).setCell ⟨ab,5,none⟩ (U Z 0)).setCell ⟨ab,6,none⟩ (U Z n)=w8 at IQ Uw⊢;simp only[aS,sZ,sS]at Uw;go_wp2_with fail
  rw[Exit.noGoto_ret];refine xB (results_none rfl _ _ _) rfl ?_;exact⟨rfl,⟨b0,n0,b1,n1,b2,n2,Uw.o,pB.o.ag IQ.o⟩,Ch.pre dp.o IQ.o⟩
theorem Ej(ab:Nat)(rec:ByteArray)(ph:Bool)(i:Nat)(hi:i<2)(at2 i2:Int)(je:(i=0→at2=3∧i2=1)∧(i=1→at2=5∧i2=2))(a p:Int)(c:Nat)(hc2:c<2)(ha:0≤a∧a<16384)(hc:a.tmod 2=(c:Int))(hp:a.tdiv 2=p)(w:qo)(h:ij w ab rec 3 (i:Nat) a ph):
 qw qx 535 #[qi (some ⟨ab,0,none⟩),ql bG,qk true] w fun e J=>e=qm (qj #[])∧ij J ab rec at2 i2 a true∧Ch [ab] w J:=by
 have h0:i=0∨i=1:=Y;rcases h0 with rfl|rfl
 ·obtain⟨rfl,rfl⟩:=je.1 rfl;obtain⟨b0,n0,b1,n1,b2,n2,h1,h2⟩:=h.cells;have HH:=Hd h1;have HA:=Hd ha;have HC:=Hd hc;have yu:=Hd hp;have dD:=Hd hc2;have HP:=Hd h2;have bu:=Hd (aa w (qn bG 126));have HX:=Hd (qA w (qn bG 126));have HO:=Hd (ae bu.o HH.o);have c0:=aJ HX.o 0;have c3:=aJ HO.o 3;simp only[gA,gZ,gS]at c0 c3;clear h h1 h2 ha hc hp hc2 je hi;go_enter func535,ntmps535;go_wp2_with fail
  generalize w.alloc (qn bG 126)=W at bu HX HO c0 c3⊢;go_wp2_with fail
  refine lN 2 rfl ?_;go_wp2_with fail
  refine(yv ab rec 3 _ a ph W ⟨b0,n0,b1,n1,b2,n2,HO.o,HP.o.ag (M:=[]) (Ch.af bu.o)⟩).mono ?_;rintro e w2⟨rfl,hb2⟩;have az:=Hd (ai bu.o hb2);have aF:=Hd (ae hb2 HX.o);have kN:=Hd (ae hb2 HO.o);have c0:=aJ aF.o 0;have c1:=aJ aF.o 1;have c3:=aJ kN.o 3;have e3:=cn kN.o 3;have c5:=aJ kN.o 5;have e5:=cn kN.o 5;have c8:=aJ kN.o 8;have e8:=cn kN.o 8;simp only[gA,gZ,gS]at c0 c1 c3 c5 c8;have iC:=Hd (HP.o.ag (M:=[]) (Ch.af az.o));clear hb2;go_wp2_with fail
  go_step3
  refine And.intro rfl ?_;go_wp2_with fail
  have Gu:=Hd (av (w:=w2) (i:=8) kN.o (qk true));have Gv:=Hd (av (i:=5) Gu.o (U Z 1));have gH:=Hd (av (i:=3) Gv.o (U Z 3));have iH:qy (Ch [ab] w2 (((w2.setCell ⟨ab,8,none⟩ (qk true)).setCell ⟨ab,5,none⟩ (U Z 1)).setCell ⟨ab,3,none⟩ (U Z 3))):=Hd (((Ch.dn (w:=w2) kN.o qa 8 (qk true)).aq (Ch.dn Gu.o qa 5 (U Z 1))).aq (Ch.dn Gv.o qa 3 (U Z 3)));clear Gu Gv c0 c1 c3 e3 c5 e5 c8 e8;generalize((w2.setCell ⟨ab,8,none⟩ (qk true)).setCell ⟨ab,5,none⟩ (U Z 1)).setCell ⟨ab,3,none⟩ (U Z 3)=w4 at gH iH⊢;simp only[aS,sZ,sS]at gH;have pB:=Hd (iC.o.ag iH.o)
  have au:qy (Ch [] w4 w4.drew):=Hd (Ch.refl _ _).drew;refine aB 15 15 (fun X=>Ch [] w4 X) qd rfl ?_;refine tN 0 177 ?_ au.o ?_ (tN 1 178 ?_ au.o ?_ (tN 2 179 ?_ au.o ?_ (tN 3 180 ?_ au.o ?_ (tN 4 181 ?_ au.o ?_ (tN 5 182 ?_ au.o ?_ (tN 6 183 ?_ au.o ?_ (tN 7 184 ?_ au.o ?_ (tN 8 185 ?_ au.o ?_ (tN 9 186 ?_ au.o ?_ (tN 10 187 ?_ au.o ?_ (tN 11 188 ?_ au.o ?_ ?_)))))))))))
  iterate 12
   rotate_left
   ·intro wq hq;have HQ:=hq.heap gH.o qc;have g0:=(aJ HQ 0);have g1:=(aJ HQ 1);have g5:=(aJ HQ 5);have g6:=(aJ HQ 6);simp only[gA,gZ,gS]at g0 g1 g5 g6;exact bJ
  simp only[pS,aS,sZ,sS];refine ay 12 qd rfl rfl (al (some 189) (f:=537) (args:=#[ql #[U Z 0,qh (some ⟨b0,0,none⟩) 2 n0],U Z a]) rfl qf (fun u X=> ∃g m,u=qh (some ⟨g,0,none⟩) 2 m∧Ch [] w4 X) ((ly a p c dD.o HA.o HC.o yu.o w4.drew (pB.o.ag au.o)).mono fun e J ⟨g,m,h1,h2,h3,h4⟩=>⟨_,h1,g,m,rfl,au.o.step h4⟩) ?_);rintro u w6⟨g,m,rfl,hc6⟩;have ee:=Hd hc6;clear hc6;refine⟨fun _=>ee.o,?_⟩;simp only[pS,aS,sZ,sS];refine ay 13 qd rfl rfl (aw (some 190) (v:=U Z 2) (J:=w6) rfl qf ⟨fun _=>ee.o,?_⟩);simp only[pS,aS,sZ,sS]
  refine ay 14 qd rfl rfl (aw (some 191) (v:=qk false) (J:=w6) rfl qf ⟨fun _=>ee.o,?_⟩);simp only[pS,aS,sZ,sS];refine aU qd ?_;have iD:=Hd (ee.o.heap gH.o qc);have za:=Hd (pB.o.ag ee.o);have sY:qy (Ch [ab] w w6):=Hd ((Ch.pre az.o iH.o).trans ee.o qc);have d3:=aJ iD.o 3;have e3:=cn iD.o 3;simp only[gA,gZ,gS]at d3;clear au iH gH pB;go_wp2_with fail
  rw[Exit.noGoto_ret];refine xB (results_none rfl _ _ _) rfl ?_;exact⟨rfl,⟨b0,n0,b1,n1,b2,n2,iD.o,za.o⟩,sY.o⟩
 ·obtain⟨rfl,rfl⟩:=je.2 rfl;obtain⟨b0,n0,b1,n1,b2,n2,h1,h2⟩:=h.cells;have HH:=Hd h1;have HA:=Hd ha;have HC:=Hd hc;have yu:=Hd hp;have dD:=Hd hc2;have HP:=Hd h2;have bu:=Hd (aa w (qn bG 126));have HX:=Hd (qA w (qn bG 126));have HO:=Hd (ae bu.o HH.o);have c0:=aJ HX.o 0;have c3:=aJ HO.o 3;simp only[gA,gZ,gS]at c0 c3;clear h h1 h2 ha hc hp hc2 je hi;go_enter func535,ntmps535;go_wp2_with fail
  generalize w.alloc (qn bG 126)=W at bu HX HO c0 c3⊢;go_wp2_with fail
  refine lN 2 rfl ?_;go_wp2_with fail
  refine(yv ab rec 3 _ a ph W ⟨b0,n0,b1,n1,b2,n2,HO.o,HP.o.ag (M:=[]) (Ch.af bu.o)⟩).mono ?_;rintro e w2⟨rfl,hb2⟩;have az:=Hd (ai bu.o hb2);have aF:=Hd (ae hb2 HX.o);have kN:=Hd (ae hb2 HO.o);have c0:=aJ aF.o 0;have c1:=aJ aF.o 1;have c3:=aJ kN.o 3;have e3:=cn kN.o 3;have c5:=aJ kN.o 5;have e5:=cn kN.o 5;have c8:=aJ kN.o 8;have e8:=cn kN.o 8;simp only[gA,gZ,gS]at c0 c1 c3 c5 c8;have iC:=Hd (HP.o.ag (M:=[]) (Ch.af az.o));clear hb2;go_wp2_with fail
  go_step3
  refine And.intro rfl ?_;go_wp2_with fail
  have Gu:=Hd (av (w:=w2) (i:=8) kN.o (qk true));have Gv:=Hd (av (i:=5) Gu.o (U Z 2));have gH:=Hd (av (i:=3) Gv.o (U Z 3));have iH:qy (Ch [ab] w2 (((w2.setCell ⟨ab,8,none⟩ (qk true)).setCell ⟨ab,5,none⟩ (U Z 2)).setCell ⟨ab,3,none⟩ (U Z 3))):=Hd (((Ch.dn (w:=w2) kN.o qa 8 (qk true)).aq (Ch.dn Gu.o qa 5 (U Z 2))).aq (Ch.dn Gv.o qa 3 (U Z 3)));clear Gu Gv c0 c1 c3 e3 c5 e5 c8 e8;generalize((w2.setCell ⟨ab,8,none⟩ (qk true)).setCell ⟨ab,5,none⟩ (U Z 2)).setCell ⟨ab,3,none⟩ (U Z 3)=w4 at gH iH⊢;simp only[aS,sZ,sS]at gH;have pB:=Hd (iC.o.ag iH.o)
  have au:qy (Ch [] w4 w4.drew):=Hd (Ch.refl _ _).drew;refine aB 15 15 (fun X=>Ch [] w4 X) qd rfl ?_;refine tN 0 177 ?_ au.o ?_ (tN 1 178 ?_ au.o ?_ (tN 2 179 ?_ au.o ?_ (tN 3 180 ?_ au.o ?_ (tN 4 181 ?_ au.o ?_ (tN 5 182 ?_ au.o ?_ (tN 6 183 ?_ au.o ?_ (tN 7 184 ?_ au.o ?_ (tN 8 185 ?_ au.o ?_ (tN 9 186 ?_ au.o ?_ (tN 10 187 ?_ au.o ?_ (tN 11 188 ?_ au.o ?_ ?_)))))))))))
  iterate 12
   rotate_left
   ·intro wq hq;have HQ:=hq.heap gH.o qc;have g0:=(aJ HQ 0);have g1:=(aJ HQ 1);have g5:=(aJ HQ 5);have g6:=(aJ HQ 6);simp only[gA,gZ,gS]at g0 g1 g5 g6;exact bJ
  simp only[pS,aS,sZ,sS];refine ay 12 qd rfl rfl (al (some 189) (f:=537) (args:=#[ql #[U Z 0,qh (some ⟨b0,0,none⟩) 2 n0],U Z a]) rfl qf (fun u X=> ∃g m,u=qh (some ⟨g,0,none⟩) 2 m∧Ch [] w4 X) ((ly a p c dD.o HA.o HC.o yu.o w4.drew (pB.o.ag au.o)).mono fun e J ⟨g,m,h1,h2,h3,h4⟩=>⟨_,h1,g,m,rfl,au.o.step h4⟩) ?_);rintro u w6⟨g,m,rfl,hc6⟩;have ee:=Hd hc6;clear hc6;refine⟨fun _=>ee.o,?_⟩;simp only[pS,aS,sZ,sS];refine ay 13 qd rfl rfl (aw (some 190) (v:=U Z 2) (J:=w6) rfl qf ⟨fun _=>ee.o,?_⟩);simp only[pS,aS,sZ,sS];refine ay 14 qd rfl rfl (aw (some 191) (v:=qk true) (J:=w6) rfl qf ⟨fun _=>ee.o,?_⟩)
  simp only[pS,aS,sZ,sS];refine aU qd ?_;have iD:=Hd (ee.o.heap gH.o qc);have za:=Hd (pB.o.ag ee.o);have sY:qy (Ch [ab] w w6):=Hd ((Ch.pre az.o iH.o).trans ee.o qc);have d3:=aJ iD.o 3;have e3:=cn iD.o 3;simp only[gA,gZ,gS]at d3;clear au iH gH pB;go_wp2_with fail
  rw[Exit.noGoto_ret];refine xB (results_none rfl _ _ _) rfl ?_;have Uw:=av (i:=3) iD.o (U Z 5);simp only[aS,sZ,sS]at Uw;have hc8:=Ch.dn iD.o qa 3 (U Z 5);exact⟨rfl,⟨b0,n0,b1,n1,b2,n2,Uw,za.o.ag hc8⟩,sY.o.aq hc8⟩
theorem Zf(fb:Nat)(a:Int)(fill:Bool)(s s0:ByteArray)(w:qo)(h1:w.heap[fb]? =some (qn (YX b0 n0 a fill 2 0 s0) 415 (0,0))):
 qw qx 358 #[qi (some ⟨fb,0,none⟩),U Z 1,qg s] w fun e J=>e=qm (qj #[])∧J.heap[fb]? =some (qn (YX b0 n0 a fill 6 1 s) 415 (0,0))∧Ch [fb] w J:=by
 have HH:=Hd h1;have c4:=aJ h1 4;have e4:=cn h1 4;have c7:=aJ h1 7;have e7:=cn h1 7;have c8:=aJ h1 8;have e8:=cn h1 8;simp only[gA,gZ,gS]at c4 c7 c8;clear h1;go_enter func358,ntmps358;go_wp2
 go_end0
 have H1:=av (i:=4) HH.o (U Z 6);have H2:=av (i:=7) H1 (U Z 1);have H3:=av (i:=8) H2 (qg s);have hc:=((Ch.dn HH.o qa 4 (U Z 6)).aq (Ch.dn H1 qa 7 (U Z 1))).aq (Ch.dn H2 qa 8 (qg s));simp only[aS,sZ,sS]at H3;exact⟨rfl,H3,hc⟩
theorem IS(fb:Nat)(fill:Bool)(s:ByteArray)(a p:Int)(c:Nat)(hc2:c<2)(ha:0≤a∧a<16384)(hc:a.tmod 2=(c:Int))(hp:a.tdiv 2=p)(w:qo)(h:jt w fb a fill 2 0 ⟨#[]⟩):
 qw qx 540 #[qi (some ⟨fb,0,none⟩),ql (tT s),qk true] w fun e J=>e=qm (qj #[])∧jt J fb a fill 6 1 s∧Ch [fb] w J:=by
 obtain⟨b0,n0,b1,n1,b2,n2,h1,h2⟩:=h.cells;have HH:=Hd h1;have HA:=Hd ha;have HC:=Hd hc;have yu:=Hd hp;have dD:=Hd hc2;have HP:=Hd h2;have bu:=Hd (aa w (qn (tT s) 126));have HX:=Hd (qA w (qn (tT s) 126));have HO:=Hd (ae bu.o HH.o);have c0:=aJ HX.o 0;have c4:=aJ HO.o 4;simp only[gA,gZ,gS]at c0 c4;clear h h1 h2 ha hc hp hc2;go_enter func540,ntmps540;go_wp2_with fail
 generalize w.alloc (qn (tT s) 126)=W at bu HX HO c0 c4⊢;go_wp2_with fail
 go_step3
 go_wp2_with fail
 refine(PZ fb a fill 0 _ W ⟨b0,n0,b1,n1,b2,n2,HO.o,HP.o.ag (M:=[]) (Ch.af bu.o)⟩).mono ?_;rintro e w2⟨rfl,hb2⟩;have az:=Hd (ai bu.o hb2);have aF:=Hd (ae hb2 HX.o);have kN:=Hd (ae hb2 HO.o);have iC:=Hd (HP.o.ag (M:=[]) (Ch.af az.o));clear hb2 c0 c4;go_wp2_with fail
 have cA:qy (Ch [] w2 w2.drew):=Hd (Ch.refl _ _).drew;refine aB 10 10 (fun X=>Ch [] w2 X) qd rfl ?_;refine tN 0 25 ?_ cA.o ?_ (tN 1 26 ?_ cA.o ?_ (tN 2 27 ?_ cA.o ?_ (tN 3 28 ?_ cA.o ?_ (tN 4 29 ?_ cA.o ?_ (tN 5 30 ?_ cA.o ?_ (tN 6 31 ?_ cA.o ?_ (tN 7 32 ?_ cA.o ?_ ?_)))))))
 iterate 8
  rotate_left
  ·intro wq hq;have HQ:=hq.heap kN.o qc;have g0:=(aJ HQ 0);have g1:=(aJ HQ 1);have g2:=(aJ HQ 2);simp only[gA,gZ,gS]at g0 g1 g2;exact bJ
 simp only[pS,aS,sZ,sS];refine ay 8 qd rfl rfl (al (some 33) (f:=537) (args:=#[ql #[U Z 0,qh (some ⟨b0,0,none⟩) 2 n0],U Z a]) rfl qf (fun u X=> ∃g m,u=qh (some ⟨g,0,none⟩) 2 m∧Ch [] w2 X) ((ly a p c dD.o HA.o HC.o yu.o w2.drew (iC.o.ag cA.o)).mono fun e J ⟨g,m,h1,h2,h3,h4⟩=>⟨_,h1,g,m,rfl,cA.o.step h4⟩) ?_);rintro u w6⟨g,m,rfl,hc6⟩;have ee:=Hd hc6;clear hc6 cA;refine⟨fun _=>ee.o,?_⟩;simp only[pS,aS,sZ,sS];refine tN 9 7 ?_ ee.o ?_ ?_;rotate_left
 ·intro wq hq;exact bJ
 simp only[pS,aS,sZ,sS];refine aU qd ?_;have iD:=Hd (ee.o.heap kN.o qc);have vp:=Hd (ee.o.heap aF.o qc);have za:=Hd (iC.o.ag ee.o);have jd:=Hd (ai az.o (ee.o.below qc (Nat.le_refl _)));have c2:=aJ vp.o 2;have c4:=aJ iD.o 4;simp only[gA,gZ,gS]at c2 c4;clear ee kN aF iC az;go_wp2_with fail
 refine(Zf fb a fill s _ w6 iD.o).mono ?_;rintro e w8⟨rfl,h1,h2⟩;have H1:=Hd h1;have H2:=Hd h2;clear h1 h2 c2 c4;go_wp2_with fail
 rw[Exit.noGoto_ret];refine xB (results_none rfl _ _ _) rfl ?_;exact⟨rfl,⟨b0,n0,b1,n1,b2,n2,H1.o,za.o.ag H2.o⟩,Ch.pre jd.o H2.o⟩
