/- Part 40 of the texts that the law's walk needs. -/
import Derived.Test.YtimabpfjjpjfjaaGreatDoorM32
import Derived.Test.YtimabpfjjpjfjaaGreatDoorM38
set_option maxHeartbeats 3200000
set_option maxRecDepth 100000
set_option linter.all false
open Go renaming World→qo,TypeId→qu,Value→qp,Calls→qw
open Go.Obj renaming cells→qn
open Go.Value renaming int→U,slice→qh,agg→ql,tuple→qj,bool→qk,pointer→qi
open Go.IntKind renaming i64→Z
open Go.Ending renaming returned→qm
open Go.RowKit renaming Below→qz,Hid→qy
namespace Go.Proofs.YtimabpfjjpjfjaaGreatDoor
open Tryz
open Tryz renaming prog→qx
namespace TopW
open Go.RowKit OpW
open Go.Maps (Keyed)
open Go.WideMaps (KeyLaw)
variable{w J:qo}{M:List Nat}{b0 b1 b2 n0 n1 n2:Nat}
theorem aan:prog.keyType 210=true:=qd
theorem aev:(210:qu)<prog.types.size:=xr qd
theorem aao:(match prog.underlying 210 with|some (.array _ _)|some (.struct _)=>true|_=>false)=true:=by rw[underlying210]
theorem Xl:KeyLaw qx 210:=deep_law_laid vh (m:=2) Y aev qd aao
theorem Vt:Keyed qx 210:=Keyed.of_law Xl
theorem Jr:prog.cellsOf 210=1:=qd
theorem Rt(i:Int):(sV i).formed qx 210=true:=by simp[sV,Value.formed,underlying210,Jr]
theorem aew(i:Int)(h:mY i): ∃l,keyOf qx 210 (sV i)=some l:=by
 obtain⟨m,hm⟩:=uu;unfold keyOf;rw[underlying210];simp only[aan,Rt,Bool.and_self,if_true];unfold Program.keyLits;rw[underlying210];unfold mY at h;simp[sV,Value.cells,Jr,hm,Program.keyLits,underlying3,h,iN]
theorem aap:MK qx 210 sV mY:=⟨Vt,aew,fun x y h=>by simpa [sV]using h⟩
theorem yP:(prog.info? 54).map (·.size)=some 2:=qd
theorem Js{w:qo}{b:Nat}{v0 v1 v2 v3 v4 v5:qp}{t:qu}(h:w.heap[b]? =some (qn #[v0,v1,v2,v3,v4,v5] t (0,0))):
 w.cell? ⟨b,0,none⟩=some v0∧w.cell? ⟨b,1,none⟩=some v1∧w.cell? ⟨b,2,none⟩=some v2∧w.cell? ⟨b,3,none⟩=some v3:=
 ⟨(aJ h 0),(aJ h 1),(aJ h 2),(aJ h 3)⟩
abbrev lyC(b0 n0 ub:Nat):Array qp:=#[U Z 0,qh (some ⟨b0,0,none⟩) 2 n0,.map (some ub),U Z (-1),U Z 0,U Z (-1)]
structure nS(w:qo)(lb:Nat):Prop where
 row: ∃b0 n0 b1 n1 b2 n2 ub,w.heap[lb]? =some (qn (lyC b0 n0 ub) 158 (0,0))∧cL w b0 n0 b1 n1 b2 n2
theorem nS.ag{lb:Nat}(h:nS w lb)(k:Ch M w J):nS J lb:=by
 obtain⟨b0,n0,b1,n1,b2,n2,ub,h1,h2⟩:=h.row;exact⟨b0,n0,b1,n1,b2,n2,ub,k.bC _ _ _ _ h1 qa,h2.ag k⟩
theorem IR.other{b n lb:Nat}{x y:Int}{cs:Array qp}{t:qu}(h:IR w b n x y)(hb:w.heap[lb]? =some (qn cs t (0,0)))(ht:t≠3)(hh: ∀k cs t,k≠lb→w.heap[k]? =some (qn cs t (0,0))→J.heap[k]? =some (qn cs t (0,0))):IR J b n x y:=by
 obtain⟨cs',h1,h2,h3⟩:=h.row;exact⟨⟨cs',hh _ _ _ (by rintro rfl;rw[hb]at h1;injection h1 with h1;injection h1 with _ h1 _;exact ht h1) h1,h2,h3⟩,h.ge,h.le⟩
theorem cL.other{lb:Nat}{cs:Array qp}{t:qu}(h:cL w b0 n0 b1 n1 b2 n2)(hb:w.heap[lb]? =some (qn cs t (0,0)))(ht:t≠35)(ht2:t≠3)(hh: ∀k cs t,k≠lb→w.heap[k]? =some (qn cs t (0,0))→J.heap[k]? =some (qn cs t (0,0))):cL J b0 n0 b1 n1 b2 n2:=by
 obtain⟨cs',h1,h2,h3⟩:=h.row;exact⟨⟨cs',hh _ _ _ (by rintro rfl;rw[hb]at h1;injection h1 with h1;injection h1 with _ h1 _;exact ht h1) h1,h2,h3⟩,h.ge,h.le,IR.other h.r1 hb ht2 hh,IR.other h.r2 hb ht2 hh⟩
theorem jB(lb ub:Nat)(bd:lb≠ub)(w:qo)(h:cL w b0 n0 b1 n1 b2 n2)(hl:w.heap[lb]? =some (qn #[U Z 0,qh none 0 0,.map (some ub),U Z (-1),U Z 0,U Z (-1)] 158 (0,0)))(hm:an sV mY kg w ub 0 (fun _=>none)):
 qw qx 65 #[pV lb,ql #[U Z 0,qh (some ⟨b0,0,none⟩) 2 n0]] w fun e J=>e=qm (qj #[])∧nS J lb∧ ∀B,B≤lb→B≤ub→B≤w.heap.size→qz B w J:=by
 have HH:=Hd h;have HL:=Hd hl;have HM:=Hd hm;have lS:=Hd bd;obtain⟨wA,p,hA,hp,h1,hb,l1⟩:=aD w (qn #[U Z 0,qh (some ⟨b0,0,none⟩) 2 n0] 54);have oN:=Hd hb;have eO:=Hd h1;have yG:=Hd l1;obtain⟨q0,q1⟩:=cp h1;clear h hl hm bd h1 hb l1;go_enter func65,ntmps65;go_wp2_with fail
 refine(gT wA (HH.o.ag (M:=[]) (Ch.af oN.o))).mono ?_;rintro e w2⟨c0,m0,c1,m1,c2,m2,rfl,h1,h2,h3,h4,h5⟩;have dD:=Hd h1;have az:=Hd (ai oN.o h5);have Gr:=Hd (ae az.o HL.o);have UQ:=Hd (an.ag HM.o az.o);have aF:=Hd (ae h5 eO.o);clear h1 h2 h3 h4 h5 q0 q1 hA hp;obtain⟨w3,hw3⟩: ∃w3,w2.setCells lb 0 (#[U Z 0,qh (some ⟨c0,0,none⟩) 2 m0]:Array qp).toList=w3:=⟨_,rfl⟩;have Xe:qy (w3.heap[lb]? =some (qn (lyC c0 m0 ub) 158 (0,0))):=Hd (by rw[←hw3];exact fR _ 0 _ _ Gr.o);have mx:qy (∀k o,k≠lb→w2.heap[k]? =some o→w3.heap[k]? =some o):=Hd fun k o hk ho=>by rw[←hw3];exact aZ (aZ ho hk) hk
 have cu:qy (∀B,B≤lb→B≤w.heap.size→qz B w w3):=Hd fun B h1 h2=>by rw[←hw3];exact((az.o.mono h2).setCell (p:=⟨lb,0,none⟩) h1 _).setCell (p:=⟨lb,1,none⟩) h1 _
 have vc:p≠lb:=by have:=qK HL.o;have:=yG.o;omega
 have jn:=Hd (mx.o _ _ vc aF.o);obtain⟨q0,q1⟩:=cp jn.o
 have HM3:qy (an sV mY kg w3 ub 0 (fun _=>none)):=Hd (by
  refine an.of_block UQ.o ?_;have aN:=an.lt UQ.o;exact(mx.o ub _ lS.o.symm (Array.getElem?_eq_getElem aN)).trans (Array.getElem?_eq_getElem aN).symm)
 have jY:qy (cL w3 c0 m0 c1 m1 c2 m2):=Hd (by
  have hh: ∀k cs t,k≠lb→w2.heap[k]? =some (qn cs t (0,0))→w3.heap[k]? =some (qn cs t (0,0)):=fun k cs t hk h=>mx.o k _ hk h;exact cL.other dD.o Gr.o qa qa hh)
 have uW:qy (cL w3 b0 n0 b1 n1 b2 n2):=Hd (by
  have hh: ∀k cs t,k≠lb→w2.heap[k]? =some (qn cs t (0,0))→w3.heap[k]? =some (qn cs t (0,0)):=fun k cs t hk h=>mx.o k _ hk h;exact cL.other (HH.o.ag (M:=[]) (Ch.af az.o)) Gr.o qa qa hh)
 have HLk:=Gr;clear Gr UQ dD aF
 go_wp2_with(first
  |((with_reducible(refine wpList_store_mid rfl 54 (Operand.tmp 10) (Operand.tmp 8) rfl lb 0 #[U Z 0,qh (some ⟨c0,0,none⟩) 2 m0] ?_ ?_ ?_ ?_ ?_ ?_));(·rfl);(·rfl);(·exact fS HLk.o qc);(·exact yP);(·simp[Value.oneCell']);(rw[hw3])))
 refine(LJ w3 uW.o).mono ?_;rintro e w4⟨v,l,rfl,h1,h2,h3,h4⟩;obtain⟨ao,ac,rfl⟩:=fg h1;have gH:=Hd h1;have HN4:=Hd h2;have HE4:=Hd h3;have dp:qy (∀B,B≤lb→B≤w.heap.size→qz B w w4):=Hd fun B hb1 hb2=>(cu.o B hb1 hb2).trans (h4.mono (by have:=(cu.o B hb1 hb2).size;omega));have ZB:=Hd (ae h4 Xe.o);have HM4:=Hd (an.ag HM3.o h4);have iH:=Hd (jY.o.ag (M:=[]) (Ch.af h4));clear h1 h2 h3 h4 q0 q1 hw3 Xe HM3 jY uW jn mx HLk;go_wp2_with fail
 go_loopw [5,14] (fun _ i wr=> ∃(k N:Nat) (g:Int→Option Int),k≤l.length∧i=U Z (k:Nat)∧an sV mY kg wr ub N g∧N≤k∧Ch [ub] w4 wr) (fun _ i _=>((l.length:Int)-intOf i).toNat)
 case atStart=>exact⟨0,0,_,Y,rfl,HM4.o,Nat.le_refl _,Ch.refl _ _⟩
 case round=>
  obtain⟨k,N,g,hk,rfl,hm,hNk,hc⟩:=hrel;have HMR:=Hd hm;have HCR:=Hd hc;by_cases aN:k<l.length
  ·obtain⟨x,hx⟩: ∃x,l[k]? =some x:=⟨_,qN aN⟩
   obtain⟨g0,cap,cur,he,_,CB,_⟩: ∃g0 cap cur,Value.slice ao l.length ac=qh (some ⟨g0,0,none⟩) l.length cap∧w3.heap.size≤g0∧w4.heap[g0]? =some (qn cur 3 (0,0))∧cur.toList.take (l.length*1)=l.map (U Z):=by
    rcases gH.o.2 with⟨_,h0⟩|⟨g0,cap,cur,h1,h2,h3,h4,h5,h6,h7⟩
    ·omega
    ·exact⟨g0,cap,cur,h1,h2,h3,h7⟩
   injection he with he1 _ he2
   subst he1 he2
   have hx4:w4.cell? ⟨g0,k,none⟩=some (U Z x):=by
    have:=gH.o.cellAt k (by simpa using aN);simpa [qN,hx]using this
   have aey:=HCR.o.bC _ _ _ _ CB qa;have hx5:wr.cell? ⟨g0,k,none⟩=some (U Z x):=by rw[←hx4,qI CB,qI aey]
   have hk0:(0:Int)≤(k:Int):=Y;have vN:(k:Int)<(l.length:Int):=Y;have hk1:IntKind.i64.wrap ((k:Int)+1)=((k+1:Nat):Int):=by rw[qO _ ⟨Y,by have:=HN4.o;omega⟩];omega
   have dI:=HE4.o x (xp hx);have dO:=Hd aN
   have bI:mY x:=by
    obtain⟨m,rfl⟩:=xo dI.1;exact mZ Y
   have uq:=Hd bI;clear hm hc aN hk hx4 CB aey hx dI bI;go_wp2_with fail
   clear hx5;have hm:=HMR.o;obtain⟨y,hy⟩: ∃y,(g x).getD 0=y:=⟨_,rfl⟩;obtain⟨st,w6,pz,hm6,ho6,hs6,sT⟩:=an.entry (an.drew hm) aap Xl underlying156 0 dR (by have:=HN4.o;unfold maxLen;omega) x uq.o;obtain⟨w7,uL,hm7,ho7,hs7⟩:=sT w6 (IntKind.i64.wrap (y+1)) rfl;have BS:=an.look (an.drew hm) aap underlying156 (dR wr.drew) x uq.o false;have BU:=an.look hm6 aap underlying156 (dR w6) x uq.o false;rw[qB qc]at BS BU;rw[show((g x).map kg).getD (kg 0)=U Z y by rw[←hy];cases g x<;>rfl]at BS;rw[qH rfl,hy]at BU;rw[hy]at pz;have HM7:=Hd hm7
   have WH:qy (Ch [ub] w4 w7):=Hd (by
    have h1:ax ub wr.drew w7:=ho6.trans ho7;have h2:ax ub wr w7:=⟨h1.os,h1.tape,h1.output,h1.size,h1.block⟩;refine HCR.o.aq (Ch.lI h2 qc fun cs t fr hh=>?_);obtain⟨es,cl,hh2,_⟩:=hm;rw[hh2]at hh;cases hh)
   have au:qy (wr.drew.heap[lb]? =some (qn (lyC c0 m0 ub) 158 (0,0))):=Hd (HCR.o.heap ZB.o (by simpa using lS.o));have dT:qy (w6.heap[lb]? =some (qn (lyC c0 m0 ub) 158 (0,0))):=Hd ((ho6.block lb (qK au.o) (fun e=>lS.o (by injection e))).trans au.o);have PU:=Hd BS;have Un:=Hd BU;have Uo:=Hd pz;have HE7:=Hd uL;clear hm hy pz hm6 ho6 hs6 sT uL hm7 ho7 hs7 BS BU;refine aB 10 11 (fun X=>X.heap[lb]? =some (qn (lyC c0 m0 ub) 158 (0,0))) qd rfl ?_;refine tL 0 18 ?_ au.o ?_ (tL 1 19 ?_ au.o ?_ (tL 2 20 ?_ au.o ?_ (tL 3 21 ?_ au.o ?_ (tL 4 22 ?_ au.o ?_ (tL 5 23 ?_ au.o ?_ ?_)))))
   iterate 6
    rotate_left
    ·intro wq hq;obtain⟨z0,z1,z2,z3⟩:=Js hq;exact bJ
   simp only[pS,aS,sZ,sS];refine oP 6 8 qd rfl rfl rfl rfl (aw (some 24) (v:=U Z y) (J:=wr.drew) rfl (by have h5:=PU.o;unfold sV at h5;go_simp) ⟨fun _=>au.o,?_⟩) (aw (some 26) (v:=qj #[U Z y,goInt st]) (J:=w6) rfl (by have h5:=Uo.o;unfold sV kg at h5;go_simp) ⟨fun _=>dT.o,?_⟩)
   ·simp only[pS,aS,sZ,sS];refine tL 7 25 ?_ au.o ?_ ?_;rotate_left
    ·intro wq hq;exact bJ
    simp only[pS,aS,sZ,sS];refine ay 8 qd rfl rfl (aw (some 26) (v:=qj #[U Z y,goInt st]) (J:=w6) rfl (by have h5:=Uo.o;unfold sV kg at h5;go_simp) ⟨fun _=>dT.o,?_⟩);simp only[pS,aS,sZ,sS];refine tL 9 27 ?_ dT.o ?_ ?_;rotate_left
    ·intro wq hq;exact bJ
    simp only[pS,aS,sZ,sS];refine ay 10 qd rfl rfl (bm none (J:=w7) rfl ?_ ⟨fun e=>qZ rfl e,?_⟩)
    ·have h5:(Instr.entryStore 156 (.map (some ub)) (U Z (st:Int)) (U Z (IntKind.i64.wrap (y+1)))).run qx w6= .ok () w7:=HE7.o;go_simp
    refine aU qd ?_;go_wp2_with fail
    exact⟨⟨k+1,_,_,by have:=dO.o;omega,qc,HM7.o,Y,WH.o⟩,by simp[intOf];have:=dO.o;omega⟩
   ·simp only[pS,aS,sZ,sS];refine tL 9 27 ?_ dT.o ?_ ?_;rotate_left
    ·intro wq hq;exact bJ
    simp only[pS,aS,sZ,sS];refine ay 6 qd rfl rfl (aw (some 24) (v:=U Z y) (J:=w6) rfl (by have h5:=Un.o;unfold sV kg at h5;go_simp) ⟨fun _=>dT.o,?_⟩);simp only[pS,aS,sZ,sS];refine tL 7 25 ?_ dT.o ?_ ?_;rotate_left
    ·intro wq hq;exact bJ
    simp only[pS,aS,sZ,sS];refine ay 10 qd rfl rfl (bm none (J:=w7) rfl ?_ ⟨fun e=>qZ rfl e,?_⟩)
    ·have h5:(Instr.entryStore 156 (.map (some ub)) (U Z (st:Int)) (U Z (IntKind.i64.wrap (y+1)))).run qx w6= .ok () w7:=HE7.o;go_simp
    refine aU qd ?_;go_wp2_with fail
    exact⟨⟨k+1,_,_,by have:=dO.o;omega,qc,HM7.o,Y,WH.o⟩,by simp[intOf];have:=dO.o;omega⟩
  ·obtain rfl:k=l.length:=by omega
   clear hm hc aN hk;go_wp2_with fail
   go_end0
   refine⟨rfl,⟨c0,m0,c1,m1,c2,m2,ub,HCR.o.heap ZB.o (by simpa using lS.o),iH.o.ag HCR.o⟩,fun B hb1 hb2 hb3=>(dp.o B hb1 hb3).trans (HCR.o.below (by simpa using hb2) (by have:=(dp.o B hb1 hb3).size;omega))⟩
end TopW
namespace TopW
open Go.RowKit OpW
variable{w J:qo}{M:List Nat}{b0 b1 b2 n0 n1 n2:Nat}
theorem Ru(w:qo)(h:cL w b0 n0 b1 n1 b2 n2):
 qw qx 36 #[ql #[U Z 0,qh (some ⟨b0,0,none⟩) 2 n0]] w fun e J=> ∃lb,e=qm (qj #[pV lb,U Z 0])∧nS J lb∧w.heap.size≤lb∧qz w.heap.size w J:=by
 have HH:=Hd h;have Ij:= @run_makeMap qx;obtain⟨wA,p,hA,hp,h1,hb,l1⟩:=aD w (qn #[U Z 0,qh (some ⟨b0,0,none⟩) 2 n0] 54);have oN:=Hd hb;have eO:=Hd h1;obtain⟨q0,q1⟩:=cp h1;clear h h1 hb l1;go_enter func36,ntmps36;go_wp2_with fail
 refine(cG wA (HH.o.ag (M:=[]) (Ch.af oN.o))).mono ?_;rintro e w1⟨rfl,hb1⟩;have cq:=Hd (ai oN.o hb1);have kh:=Hd (ae hb1 eO.o);clear hb1 q0 q1 hA hp;obtain⟨w2,w3,ub,lb,h2,h3,hu,AL,wU,aez,hb3,lu,ll⟩:=yF w1 (.map #[] 0) (qn #[U Z 0,qh none 0 0,.map (some w1.heap.size),U Z (-1),U Z 0,U Z (-1)] 158)
 have HM3:qy (an sV mY kg w3 ub 0 (fun _=>none)):=Hd (by
  have h0:=an.made (mk:=sV) (ok:=mY) (mv:=kg) w1;rw[h2,hu]at h0;have h9:=an.alloc h0 (qn #[U Z 0,qh none 0 0,.map (some w1.heap.size),U Z (-1),U Z 0,U Z (-1)] 158);rw[h3]at h9;exact h9)
 have Xe:=Hd aez;have cu:=Hd (ai cq.o hb3);have jn:=Hd (ae hb3 kh.o)
 have lS:qy (lb≠ub∧w.heap.size≤lb∧w.heap.size≤ub):=Hd (by
  have:w2.heap.size=w1.heap.size+1:=by rw[←h2];simp
  have:=cq.o.size;omega)
 obtain⟨q0,q1⟩:=cp jn.o;obtain⟨r0,r1⟩:=cp kh.o;clear wU aez hb3 lu ll;rw[hu]at h3 Xe;go_wp2_with fail
 refine(jB lb ub lS.o.1 w3 (HH.o.ag (M:=[]) (Ch.af cu.o)) Xe.o HM3.o).mono ?_;rintro e w4⟨rfl,h4,h5⟩;have ZB:=Hd h4;have dp:=Hd (cu.o.trans (h5 w.heap.size lS.o.2.1 lS.o.2.2 cu.o.size));clear h4 h5 q0 q1 r0 r1 h2 h3 hu AL Ij;go_wp2_with fail
 go_ret2
 exact⟨lb,rfl,ZB.o,lS.o.2.1,dp.o⟩
theorem Rv(lb:Nat)(w:qo)(h:nS w lb):
 qw qx 91 #[pV lb] w fun e J=> ∃c0 m0 c1 m1 c2 m2,e=qm (ql #[U Z 0,qh (some ⟨c0,0,none⟩) 2 m0])∧cL J c0 m0 c1 m1 c2 m2∧w.heap.size≤c0∧w.heap.size≤c1∧w.heap.size≤c2∧qz w.heap.size w J:=by
 obtain⟨b0,n0,b1,n1,b2,n2,ub,h1,h2⟩:=h.row;obtain⟨wA,p,hA,hp,hx,hb,l1⟩:=aD w (qn #[U Z 0,qh none 0 0] 54);have oN:=Hd hb;have HX:=Hd hx;have HL:=Hd l1;have HP:=Hd (h2.ag (M:=[]) (Ch.af hb));obtain⟨z0,z1,z2,z3⟩:=Js (ae hb h1);have AL:lb<w.heap.size:=qK h1;clear h h1 h2 hx hb l1;go_enter func91,ntmps91;go_wp2_with fail
 refine(gT wA HP.o).mono ?_;rintro e w2⟨c0,m0,c1,m1,c2,m2,rfl,h1,h2,h3,h4,h5⟩;have dD:=Hd h1;have az:=Hd (ai oN.o h5);have aF:=Hd (ae h5 HX.o);have HZ:=Hd (And.intro (qM oN.o.size h2) (And.intro (qM oN.o.size h3) (qM oN.o.size h4)));clear h1 h2 h3 h4 h5 z0 z1 z2 z3 hA hp;go_wp2_with(refine qE rfl 54 (Operand.tmp 2) (Operand.tmp 10) rfl p #[U Z 0,qh (some ⟨c0,0,none⟩) 2 m0] rfl rfl 54 #[U Z 0,qh none 0 0] aF.o yP rfl (by simp[Value.oneCell']) ?_)
 refine aR rfl rfl rfl (qJ _ _ _ _ _ _ aF.o) underlying54 rfl yP ?_;have hh: ∀k cs t,k≠p→w2.heap[k]? =some (qn cs t (0,0))→(w2.setRow p #[U Z 0,qh (some ⟨c0,0,none⟩) 2 m0]).heap[k]? =some (qn cs t (0,0)):=fun k cs t hk h=>by rw[xl _ _ _ _ hk];exact h
 exact⟨c0,m0,c1,m1,c2,m2,rfl,cL.other dD.o aF.o qa qa hh,HZ.o.1,HZ.o.2.1,HZ.o.2.2,(Ch.row (Ch.af (M:=[]) az.o) HL.o _).below qc (Nat.le_refl _)⟩
structure ug(B:Nat)(w:qo)(k:Nat)(u p m:Nat→Nat):Prop where
 unit: ∀i,i<k→w.heap[u i]? =some (qn #[pV (p i),U Z 0,qk false] 166 (0,0))
 ig: ∀i,i<k→eh w (p i) (m i) 0 (fun _=>none)
 mK: ∀i j,i<k→j<k→i≠j→m i≠m j
 ge: ∀i,i<k→B≤m i
def nT(T:qu)(w J:qo):Prop:= ∀(b:Nat) (o:Obj),w.heap[b]? =some o→(∀cs fr,o≠qn cs T fr)→J.heap[b]? =some o
theorem nT.af{T:qu}(h:qz w.heap.size w J):nT T w J:=fun b o hb _=>ae h hb
theorem nT.cells{T t:qu}{b:Nat}{cs:Array qp}{fr:Nat×Nat}(h:nT T w J)(hb:w.heap[b]? =some (qn cs t fr))(ht:t≠T):J.heap[b]? =some (qn cs t fr):=
 h b _ hb fun cs' fr' e=>by injection e with _ e _;exact ht e
theorem nT.map{T:qu}{b n:Nat}{κ β:Type}{mk:κ→qp}{ok:κ→Prop}{mv:β→qp}{g:κ→Option β}(h:nT T w J)(hm:an mk ok mv w b n g):an mk ok mv J b n g:=by
 obtain⟨es,cl,h1,h2⟩:=hm;exact⟨es,cl,h b _ h1 (fun _ _ e=>by cases e),h2⟩
theorem nT.mW{T:qu}{B k:Nat}{v:qp}{xs:List qp}(h:w.ownsRow B T 1 v k xs)(g:w.grownBy J v.ownBlock):nT T w J:=fun b o hb hn=>by
 refine(g.block b (qK hb) fun e=>?_).trans hb;rcases h.2 with⟨rfl,_⟩|⟨g0,cap,cur,rfl,_,hg,_⟩
 ·cases e
 ·obtain rfl:b=g0:=by simpa [Value.ownBlock]using e
  rw[hg]at hb;injection hb with hb
  exact hn _ _ hb.symm
theorem nT.set{T:qu}{b i:Nat}{v:qp}{cs:Array qp}{fr:Nat×Nat}(h:w.heap[b]? =some (qn cs T fr)):nT T w (w.setCell ⟨b,i,none⟩ v):=fun c o hc hn=>by
 refine aZ hc ?_;rintro rfl;rw[h]at hc;injection hc with hc
 exact hn _ _ hc.symm
theorem eh.jq{T:qu}{pb mb n:Nat}{g:Int→Option ByteArray}(h:eh w pb mb n g)(k:nT T w J)(hT:213≠T):eh J pb mb n g:=⟨k.cells h.head hT,k.map h.map⟩
theorem ug.jq{T:qu}{B k:Nat}{u p m:Nat→Nat}(h:ug B w k u p m)(g:nT T w J)(h1:213≠T)(h2:166≠T):ug B J k u p m where
 unit i hi:=g.cells (h.unit i hi) h2
 ig i hi:=(h.ig i hi).jq g h1
 mK:=h.mK
 ge:=h.ge
theorem IR.jq{T:qu}{b n:Nat}{x y:Int}(h:IR w b n x y)(g:nT T w J)(h1:3≠T):IR J b n x y:=by
 obtain⟨cs,e1,e2,e3⟩:=h.row;exact⟨⟨cs,g.cells e1 h1,e2,e3⟩,h.ge,h.le⟩
theorem cL.jq{T:qu}(h:cL w b0 n0 b1 n1 b2 n2)(g:nT T w J)(h1:3≠T)(h2:35≠T):cL J b0 n0 b1 n1 b2 n2:=by
 obtain⟨cs,e1,e2,e3⟩:=h.row;exact⟨⟨cs,g.cells e1 h2,e2,e3⟩,h.ge,h.le,h.r1.jq g h1,h.r2.jq g h1⟩
theorem nS.jq{T:qu}{lb:Nat}(h:nS w lb)(g:nT T w J)(h1:3≠T)(h2:35≠T)(h3:158≠T):nS J lb:=by
 obtain⟨b0,n0,b1,n1,b2,n2,ub,e1,e2⟩:=h.row;exact⟨b0,n0,b1,n1,b2,n2,ub,g.cells e1 h3,e2.jq g h1 h2⟩
theorem ug.below{B k:Nat}{u p m:Nat→Nat}(h:ug B w k u p m)(g:qz w.heap.size w J):ug B J k u p m:=
 h.jq (T:=3) (nT.af g) qa qa
theorem ug.snoc{B k u1 p1 m1:Nat}{u p m:Nat→Nat}(h:ug B w k u p m)(hw:w.heap.size≤m1)(hB:B≤w.heap.size)(g:qz w.heap.size w J)(h1:J.heap[u1]? =some (qn #[pV p1,U Z 0,qk false] 166 (0,0)))(h2:eh J p1 m1 0 (fun _=>none)):
 ug B J (k+1) (fun i=>if i=k then u1 else u i) (fun i=>if i=k then p1 else p i) (fun i=>if i=k then m1 else m i) where
 unit i hi:=by
  by_cases e:i=k
  ·simp only[e,if_true];exact h1
  ·simp only[e,if_false];exact(h.below g).unit i Y
 ig i hi:=by
  by_cases e:i=k
  ·simp only[e,if_true];exact h2
  ·simp only[e,if_false];exact(h.below g).ig i Y
 mK i j hi hj bd:=by
  have lt: ∀i,i<k→m i<w.heap.size:=fun i hi=>an.lt (h.ig i hi).map;by_cases e:i=k
  ·subst e;simp only[if_true,qB (show¬j=i by omega)];have:=lt j Y;omega
  ·by_cases e2:j=k
   ·subst e2;simp only[if_true,qB e];have:=lt i Y;omega
   ·simp only[qB e,qB e2];exact h.mK i j Y Y bd
 ge i hi:=by
  by_cases e:i=k
  ·simp only[e,if_true];omega
  ·simp only[e,if_false];exact h.ge i Y
def rz(u:Nat→Nat)(k:Nat):List qp:=(List.range k).map fun i=>pV (u i)
theorem Hk{u:Nat→Nat}{k u1:Nat}:rz u k++[pV u1]=rz (fun i=>if i=k then u1 else u i) (k+1):=by
 unfold rz;rw[List.range_succ,List.map_append]
 congr 1
 ·refine List.map_congr_left fun i hi=>?_;show pV (u i)=pV (if i=k then u1 else u i);rw[qB (by have:=List.mem_range.1 hi;omega)]
 ·simp
theorem aaq:(prog.info? 122).map (fun i=>(i.zero,i.size,i.bytes))=some (some (qi none),1,8):=qd
structure EU(B:Nat)(w:qo)(nb:Nat)(o l:Nat)(u p m:Nat→Nat):Prop where
 nodes: ∃r cap,16≤cap∧cap≤maxLen∧w.heap[nb]? =some (qn #[qh (some ⟨r,0,none⟩) 16 cap,pV o,pV l] 121 (0,0))∧ ∃x,w.heap[r]? =some (qn x 122 (0,0))∧ ∀i,i<4→x[i]? =some (pV (u i))
 un:ug B w 16 u p m
 ord:km w o 0
 lay:nS w l
 ge:B≤o
theorem Mo{w w5 w6:qo}{nb ob lb p b0 n0 k g' cap' u1:Nat}{v:qp}{xs ys:List qp}{u pg mp:Nat→Nat}
 (Fu:w5.heap[nb]? =some (qn #[v,pV ob,pV lb] 121 (0,0))) (kS:w5.ownsRow w.heap.size 122 1 v k xs) (TP:ug w.heap.size w5 (k+1) u pg mp)
 (eV:w5.heap[ob]? =some (qn #[U Z (-1),qk false,U Z 0] 161 (0,0))) (PU:nS w5 lb) (yB:w5.heap[p]? =some (qn #[U Z 0,qh (some ⟨b0,0,none⟩) 2 n0] 54 (0,0))) (gx:qz w.heap.size w w5)
 (fE:w6.ownsRow w.heap.size 122 1 (qh (some ⟨g',0,none⟩) (k+1) cap') (k+1) ys) (hg6:(w5.alloc (qn #[pV u1] 122)).grownBy w6 v.ownBlock):
 w6.heap[nb]? =some (qn #[v,pV ob,pV lb] 121 (0,0))∧ug w.heap.size w6 (k+1) u pg mp∧w6.heap[ob]? =some (qn #[U Z (-1),qk false,U Z 0] 161 (0,0))∧nS w6 lb∧w6.heap[p]? =some (qn #[U Z 0,qh (some ⟨b0,0,none⟩) 2 n0] 54 (0,0))∧qz w.heap.size w w6:=by
 have hb:=aa w5 (qn #[pV u1] 122);have hr:=kS.alloc (qn #[pV u1] 122);have jq:=nT.mW hr hg6;refine⟨jq.cells (ae hb Fu) qa,(TP.below hb).jq jq qa qa,jq.cells (ae hb eV) qa,(PU.ag (M:=[]) (Ch.af hb)).jq jq qa qa qa,jq.cells (ae hb yB) qa,?_⟩;exact(ai gx hb).grown hg6 (qM gx.size hb.size) (fun j hj=>(hr.lt j hj).1)
theorem Rw(w:qo)(h:cL w b0 n0 b1 n1 b2 n2):
 qw qx 23 #[ql #[U Z 0,qh (some ⟨b0,0,none⟩) 2 n0],U Z 3000] w fun e J=> ∃nb o l u p m,e=qm (qj #[pV nb,U Z 0])∧EU w.heap.size J nb o l u p m∧qz w.heap.size w J:=by
 have HH:=Hd h;obtain⟨i0,hi,hz0,hz1,hz2⟩:=info_parts aaq;obtain⟨wA,p,hA,hp,h1,hb,l1⟩:=aD w (qn #[U Z 0,qh (some ⟨b0,0,none⟩) 2 n0] 54);have oN:=Hd hb;have eO:=Hd h1;have yG:=Hd l1;obtain⟨q0,q1⟩:=cp h1;clear h h1 hb l1;go_enter func23,ntmps23;go_wp2_with fail
 refine(Ru wA (HH.o.ag (M:=[]) (Ch.af oN.o))).mono ?_;rintro e w1⟨lb,rfl,h1,h2,h3⟩;have QR:=Hd h1;have cq:=Hd (ai oN.o h3);have kh:=Hd (ae h3 eO.o);clear h1 h2 h3 q0 q1 hA hp;go_wp2_with fail
 refine(He w1).mono ?_;rintro e w2⟨rfl,h1,h2⟩;have Gr:=Hd (QR.o.ag (M:=[]) (Ch.af h2));have kN:=Hd h1;have az:=Hd (ai cq.o h2);have aF:=Hd (ae h2 kh.o);obtain⟨ob,rC⟩: ∃ob,w1.heap.size=ob:=⟨_,rfl⟩;rw[rC]at kN⊢;have EJ:qy (w.heap.size≤ob):=Hd (by have:=cq.o.size;omega);clear h1 h2 rC QR kh;obtain⟨w3,nb,hA3,hp3,h1,hb,l1⟩:=aD w2 (qn #[qh none 0 0,pV ob,pV lb] 121);have Rx:=Hd h1;have Xe:=Hd (Gr.o.ag (M:=[]) (Ch.af hb));have mx:=Hd (ae hb kN.o);have cu:=Hd (ai az.o hb);have jn:=Hd (ae hb aF.o);have HNB:qy (w.heap.size≤nb):=Hd (by have:=az.o.size;omega);clear h1 hb l1;go_wp2_with fail
 clear hA3 hp3
 go_loopw [9,10,23] (fun _ _ i wr=> ∃(k:Nat) (v:qp) (u pg mp:Nat→Nat),k≤16∧i=U Z (k:Nat)∧wr.heap[nb]? =some (qn #[v,pV ob,pV lb] 121 (0,0))∧wr.ownsRow w.heap.size 122 1 v k (rz u k)∧ug w.heap.size wr k u pg mp∧
  wr.heap[ob]? =some (qn #[U Z (-1),qk false,U Z 0] 161 (0,0))∧nS wr lb∧wr.heap[p]? =some (qn #[U Z 0,qh (some ⟨b0,0,none⟩) 2 n0] 54 (0,0))∧qz w.heap.size w wr) (fun _ _ i _=>((16:Int)-intOf i).toNat)
 case atStart=>exact⟨0,_,fun _=>0,fun _=>0,fun _=>0,Y,rfl,Rx.o,World.ownsRow_nil _ _ _ _,⟨fun i h=>qZ h Y,fun i h=>qZ h Y,fun i j h=>qZ h Y,fun i h=>qZ h Y⟩,mx.o,Xe.o,jn.o,cu.o⟩
 case round=>
  obtain⟨k,v,u,pg,mp,hk,rfl,hn,aW,Wj,ho,hl,hx,hb⟩:=hrel;have HN:=Hd hn;have HR:=Hd aW;have HU:=Hd Wj;have HO:=Hd ho;have HL:=Hd hl;have HX:=Hd hx;have HB:=Hd hb;clear hn aW Wj ho hl hx hb;by_cases aN:k<16
  ·have hk0:(0:Int)≤(k:Int):=by omega
   have vN:(k:Int)<16:=Y;have dO:=Hd aN;clear hk aN;go_wp2_with fail
   refine(Rk wr).mono ?_;rintro e w5⟨u1,p1,m1,rfl,h1,h2,h3,_,_,h4⟩;have gx:=Hd (HB.o.trans (h4.mono HB.o.size));have Fu:=Hd (ae h4 HN.o);have eV:=Hd (ae h4 HO.o);have yB:=Hd (ae h4 HX.o);have PU:=Hd (HL.o.ag (M:=[]) (Ch.af h4));have TP:=Hd (HU.o.snoc h3 HB.o.size h4 h2 h1)
   have kS:qy (w5.ownsRow w.heap.size 122 1 v k (rz u k)):=Hd (HR.o.kept (row:=none) ⟨h4.os,h4.tape,h4.output,h4.size,fun k hk _=>h4.block k hk⟩ (by cases hv:v.ownBlock with
    |none=>exact .inl rfl
    |some k=>exact .inr qc))
   clear h1 h2 h3 h4;obtain⟨n0',n1',n2'⟩:=bS Fu.o;have HK1:qy (IntKind.i64.wrap ((k:Int)+1)=((k+1:Nat):Int)):=Hd (by rw[qO _ ⟨Y,Y⟩];omega);have hk1:=HK1.o;have HAL:qy (∀(b:Nat) (o:Obj),w5.heap[b]? =some o→(w5.alloc (qn #[pV u1] 122)).heap[b]? =some o):=Hd fun b o h=>ae (aa _ _) h
   go_wp2_with(at_builtin;go_loud (refine wpList_append_own _ rfl _ _ 119 rfl w.heap.size 122 i0 (qi none) 1 8 underlying119 hi hz0 hz1 hz2 rfl qa v k _ rfl (kS.o.alloc _) ⟨w5.heap.size,0,none⟩ 1 1 [pV u1] rfl rfl (cell_one_new _ _ _) (by simp[Value.oneCell']) (by unfold maxLen;omega) Y (by have:=gx.o.size;simp;omega) ?_;intro v' w6 fE hg6 _;obtain⟨g',cap',rfl⟩:=ownsRow_succ fE;obtain⟨a1,a2,a3,a4,a5,a6⟩:=Mo Fu.o kS.o TP.o eV.o PU.o yB.o gx.o fE hg6;have tW:=Hd fE;have Ja:=Hd a1;have HU6:=Hd a2;have iD:=Hd a3;have Un:=Hd a4;have vp:=Hd a5;have jd:=Hd a6;clear a2 a3 a4 a5 a6 fE hg6;obtain⟨y0,_,_⟩:=bS a1;have yf:=(cn a1 0);clear a1))
   have o7:nT 121 w6 (w6.setCell ⟨nb,0,none⟩ (qh (some ⟨g',0,none⟩) (k+1) cap')):=nT.set Ja.o;refine⟨⟨k+1,_,_,_,_,by have:=dO.o;omega,qc,av (i:=0) Ja.o _,?_,HU6.o.jq o7 qa qa,o7.cells iD.o qa,Un.o.jq o7 qa qa qa,o7.cells vp.o qa,jd.o.setCell (p:=⟨nb,0,none⟩) HNB.o _⟩,by simp[intOf];have:=dO.o;omega⟩;rw[←Hk];refine tW.o.kept (grownBy_setCell' w6 nb _) (.inr fun e=>?_);rcases tW.o.2 with⟨h,_⟩|⟨g,c,cur,h1,_,h2,_⟩
   ·cases h
   ·have e1:g'=nb:=by simpa [Value.ownBlock]using e
    injection h1 with h1 _ _
    injection h1 with h1
    injection h1 with h1 _ _
    rw[←h1,e1,Ja.o]at h2;injection h2 with h2;injection h2 with _ h2 _;exact qZ h2 qa
  ·obtain rfl:k=16:=by omega
   clear hk aN;obtain⟨x0,x1⟩:=cp HX.o;obtain⟨y0,y1,y2⟩:=bS HN.o;have hpo:p≠ob:=by rintro rfl;have h1:=HX.o;rw[HO.o]at h1;injection h1 with h1;injection h1 with _ h1 _;exact qZ h1 qa
   have ux:nb≠ob:=by rintro rfl;have h1:=HN.o;rw[HO.o]at h1;injection h1 with h1;injection h1 with _ h1 _;exact qZ h1 qa
   have eO:qy (∀X,Ch [ob] wr X→X.cell? ⟨p,0,none⟩=some (U Z 0)∧X.cell? ⟨nb,1,none⟩=some (pV ob)):=Hd fun X hX=>⟨(cp (hX.heap HX.o (by simpa using hpo))).1,(bS (hX.heap HN.o (by simpa using ux))).2.1⟩;clear x0 x1 y0 y1 y2;go_wp2_with fail
   have au:qy (Ch [ob] wr wr.drew):=Hd (Ch.refl _ _).drew;have ZZ:qy (wr.drew.heap[ob]? =some (qn #[U Z (-1),qk false,U Z 0] 161 (0,0))):=Hd HO.o;have IZ:qy (qz w.heap.size w wr.drew∧wr.drew.heap=wr.heap):=Hd ⟨⟨HB.o.os,HB.o.tape,HB.o.output,HB.o.size,HB.o.block⟩,rfl⟩;refine aB 8 8 (fun X=>Ch [ob] wr X) qd rfl ?_;generalize wr.drew=W0 at au ZZ IZ⊢;refine tN 0 44 ?_ au.o ?_ (tN 1 45 ?_ au.o ?_ (tN 2 46 ?_ au.o ?_ (tN 3 47 ?_ au.o ?_ (tN 4 48 ?_ au.o ?_ (tN 5 49 ?_ au.o ?_ (tN 6 50 ?_ au.o ?_ ?_))))))
   iterate 7
    rotate_left
    ·intro wq hq;obtain⟨z0,z1⟩:=eO.o wq hq;exact bJ
   simp only[pS,aS,sZ,sS];refine ay 7 qd rfl rfl (al (some 51) (f:=39) (args:=#[pV ob,ql (bF 8 0 0 0 0 0 ⟨#[]⟩)]) rfl qf (fun v X=>km X ob 0∧Ch [ob] W0 X) ((Me ob W0 ZZ.o).mono fun e J ⟨h1,h2⟩=>⟨_,h1,h2⟩) ?_);rintro v9 w9⟨h1,h2⟩;have H1:=Hd h1;have H2:=Hd h2;clear h1 h2;refine⟨fun _=>au.o.aq H2.o,?_⟩;simp only[pS,aS,sZ,sS];refine aU qd ?_;have Vg:=Hd (au.o.aq H2.o);clear hpo ux;go_wp2_with fail
   go_ret2
   have Xm:=HR.o;obtain⟨g0,c0,rfl⟩:=ownsRow_succ Xm;have hb0:ob∉([]:List Nat):=qc;refine⟨nb,ob,lb,u,pg,mp,rfl,⟨?_,?_,H1.o,HL.o.ag Vg.o,EJ.o⟩,HB.o.trans (Vg.o.below (by simpa using EJ.o) HB.o.size)⟩
   ·rcases Xm.2 with⟨h,_⟩|⟨g,c,cur,h1,_,h2,h3,h4,h5,h6⟩
    ·cases h
    ·injection h1 with h1 _ h8
     injection h1 with h1
     injection h1 with h1 _ _
     subst h1 h8;refine⟨g0,c0,h3,h4,Vg.o.heap HN.o (by simp;rintro rfl;have h1:=HN.o;rw[HO.o]at h1;injection h1 with h1;injection h1 with _ h1 _;exact qZ h1 qa),cur,Vg.o.bC _ _ _ _ h2 qa,fun i hi=>?_⟩;have hc:=Xm.cellAt i Y;rw[qI h2]at hc
     have e1:(rz u 16)[i]? =some (pV (u i)):=by
      unfold rz;rw[List.getElem?_map,List.getElem?_range Y];rfl
     rw[e1]at hc;simpa using hc
   ·have lt: ∀i,i<16→mp i<wr.heap.size:=fun i hi=>an.lt (HU.o.ig i hi).map
    have hmo: ∀i,i<16→mp i≠ob:=fun i hi e=>by
     obtain⟨es,cl,h1,_⟩:=(HU.o.ig i hi).map;rw[e,HO.o]at h1;cases h1
    exact⟨fun i hi=>Vg.o.bC _ _ _ _ (HU.o.unit i hi) qa,fun i hi=>(HU.o.ig i hi).ag Vg.o (by simpa using hmo i hi),HU.o.mK,HU.o.ge⟩
def Su(id inc:Int):CS:={id:=id,sq:=inc*65536+1,V:=sv0,buf:=none,a:=ConP.jN 0 0,mv:=qh none 0 0,busy:=false,app:=false,cur:= .nilIface,th:= .nilFunc,over:=false,rc:=0,rh:=0,rd:=⟨#[]⟩}
theorem Bh(id inc:Int)(hid:0≤id∧id<8)(aic:0≤inc∧inc<16384)(w:qo)(h:cL w b0 n0 b1 n1 b2 n2):
 qw qx 25 #[U Z id,U Z inc,ql #[U Z 0,qh (some ⟨b0,0,none⟩) 2 n0]] w fun e J=> ∃K:CK,e=qm (qj #[pV K.cb,U Z 0])∧bt J K (Su id inc)∧(∀x∈K.soft,w.heap.size≤x)∧qz w.heap.size w J:=by
 have HH:=Hd h;have h1: ¬id<0:=Y;have h2: ¬(8:Int)≤id:=Y;have h3: ¬inc<0:=Y;have h4: ¬(16384:Int)≤inc:=Y;have hw1:IntKind.i64.wrap (inc*65536)=inc*65536:=qO _ ⟨Y,Y⟩;have hw2:IntKind.i64.wrap (inc*65536+1)=inc*65536+1:=qO _ ⟨Y,Y⟩;obtain⟨wA,p,hA,hp,h5,hb,l1⟩:=aD w (qn #[U Z 0,qh (some ⟨b0,0,none⟩) 2 n0] 54);have oN:=Hd hb;have eO:=Hd h5;obtain⟨q0,q1⟩:=cp h5;clear h h5 hb l1 hid aic;go_enter func25,ntmps25;go_wp2_with fail
 refine(cG wA (HH.o.ag (M:=[]) (Ch.af oN.o))).mono ?_;rintro e w1⟨rfl,h5⟩;have cq:=Hd (ai oN.o h5);have kh:=Hd (ae h5 eO.o);clear h5 q0 q1 hA hp;obtain⟨q0,q1⟩:=cp kh.o;go_wp2_with fail
 refine(gT w1 (HH.o.ag (M:=[]) (Ch.af cq.o))).mono ?_;rintro e w2⟨c0,m0,c1,m1,c2,m2,rfl,h5,_,_,_,h6⟩;have dD:=Hd h5;have az:=Hd (ai cq.o h6);clear h5 h6 q0 q1;go_wp2_with fail
 refine(QQ w2).mono ?_;rintro e w3⟨B,rfl,h5,h6,h7⟩;have eP:=Hd h5;have Rx:qy (∀x∈B.soft,w.heap.size≤x):=Hd fun x hx=>qM az.o.size (h6 x hx);have jY:=Hd (dD.o.ag (M:=[]) (Ch.af h7));have cu:=Hd (ai az.o h7);clear h5 h6 h7;go_wp2_with fail
 refine(Qg w3).mono ?_;rintro e w4⟨rfl,h5,h6⟩;have cA:=Hd (eP.o.ag (M:=[]) (Ch.af h6) qc);have iH:=Hd (jY.o.ag (M:=[]) (Ch.af h6));have dp:=Hd (ai cu.o h6);have LZ:=Hd h5;have dO:qy (∀x∈B.soft,x<w3.heap.size):=Hd eP.o.lt;obtain⟨bb,so⟩: ∃bb,w3.heap.size=bb:=⟨_,rfl⟩;rw[so]at LZ dO⊢;have Zw:qy (bb<w4.heap.size∧w.heap.size≤bb):=Hd ⟨LZ.o.lt,by have:=cu.o.size;omega⟩;clear h5 h6 so;go_wp2_with fail
 go_ret2
 refine⟨⟨w4.heap.size,bb,B⟩,rfl,⟨⟨c0,m0,c1,m1,c2,m2,qA _ _,iH.o.ag (M:=[]) (Ch.af (aa _ _))⟩,cA.o.ag (M:=[]) (Ch.af (aa _ _)) qc,LZ.o.ag (M:=[]) (Ch.af (aa _ _)) qc,?_⟩,?_,ai dp.o (aa _ _)⟩
 ·have h8:=Zw.o.1;refine xC.2 ⟨?_,xC.2 ⟨fun hx=>?_,cA.o.nd⟩⟩
  ·simp only[qG,not_or];exact⟨by show w4.heap.size≠bb;omega,fun hx=>by have:=dO.o _ hx;have h9:w4.heap.size<bb:=this;omega⟩
  ·have:=dO.o _ hx;have h9:bb<bb:=this;omega
 ·intro x hx;simp only[CK.soft,qG]at hx;rcases hx with rfl|rfl|hx
  ·show w.heap.size≤w4.heap.size;exact dp.o.size
  ·exact Zw.o.2
  ·exact Rx.o x hx
variable{T:qu}
def pF:List qu:=[87,97,258,218,221,84,384,80,176,238,121,122,166,213,161,132,158,35]
theorem Vu{tb b:Nat}{L:List InoP.dw}{next:Int}(h:InoW.jf w tb b L next)(k:nT T w J)(hs:w.heap.size≤J.heap.size)(hT:T∉pF):InoW.jf J tb b L next:=by
 have n1:97≠T:=by rintro rfl;exact hT qa
 have n2:384≠T:=by rintro rfl;exact hT qa
 refine⟨k.cells h.head n1,?_,h.cV⟩;obtain⟨n,g,hm,e1,e2⟩:=h.map;refine⟨n,g,k.map hm,e1,fun i x hx=>?_⟩;obtain⟨y,hy,hr⟩:=e2 i x hx
 have hp: ∀a,y.oa=some a→J.heap[a.block]? =w.heap[a.block]? ∧InoW.lj J a.block:=fun a ha=>by
  obtain⟨cs,fr,h⟩:=hr.ty a ha;have h':=k.cells h n2;exact⟨h'.trans h.symm,cs,fr,h'⟩
 exact⟨y,hy,{hr with sU:=Ez hr.sU hs (fun a ha=>(hp a ha).1),ty:=fun a ha=>(hp a ha).2}⟩
theorem Vv{nb b c:Nat}{D:List DirP.En}(h:DirW.uI w nb b c D)(k:nT T w J)(hT:T∉pF):DirW.uI J nb b c D:=by
 have n1:258≠T:=by rintro rfl;exact hT qa
 exact⟨k.cells h.head n1,by obtain⟨n,hm⟩:=h.map;exact⟨n,k.map hm⟩,by obtain⟨n,g,hm,hg⟩:=h.zD;exact⟨n,g,k.map hm,hg⟩,h.cV,h.bc⟩
theorem Vw{hb b:Nat}{H:List cN.Ha}{ls:List Int}(h:bq.lT w hb b H ls)(k:nT T w J)(hT:T∉pF):bq.lT J hb b H ls:=by
 have n1:218≠T:=by rintro rfl;exact hT qa
 exact⟨k.cells h.head n1,by obtain⟨n,hm⟩:=h.map;exact⟨n,k.map hm⟩,h.cV⟩
theorem eH.jq{B:SB}{V:SV}(h:eH w B V)(k:nT T w J)(hs:w.heap.size≤J.heap.size)(hT:T∉pF):eH J B V:=by
 have n1:84≠T:=by rintro rfl;exact hT qa
 have n2:87≠T:=by rintro rfl;exact hT qa
 have n3:221≠T:=by rintro rfl;exact hT qa
 exact⟨k.cells h.head n1,⟨k.cells h.t.head n2,Vu h.t.t k hs hT,Vv h.t.n k hT,h.t.apart⟩,Vw h.h k hT,⟨k.cells h.o.head n3,by obtain⟨n,hm⟩:=h.o.map;exact⟨n,k.map hm⟩⟩,h.nd⟩
theorem fG.jq{bb:Nat}{x:Option zb}(h:fG w bb x)(k:nT T w J)(hT:T∉pF):fG J bb x:=by
 have n1:176≠T:=by rintro rfl;exact hT qa
 have n2:238≠T:=by rintro rfl;exact hT qa
 cases x with
 |none=>obtain⟨oa,h⟩:=h;exact⟨oa,k.cells h n1⟩
 |some y=>
  obtain⟨g,cap,h1,h2⟩:=h;obtain⟨cs,e1,e2⟩:=h2.row;exact⟨g,cap,k.cells h1 n1,⟨cs,k.cells e1 n2,e2⟩,h2.ge,h2.le⟩
theorem bt.jq{K:CK}{c:CS}(h:bt w K c)(k:nT T w J)(hs:w.heap.size≤J.heap.size)(hT:T∉pF)(hp: ∀b0 n0 b1 n1 b2 n2,cL w b0 n0 b1 n1 b2 n2→cL J b0 n0 b1 n1 b2 n2):bt J K c:=by
 have n1:80≠T:=by rintro rfl;exact hT qa
 obtain⟨b0,n0,b1,n1',b2,n2,h1,h2⟩:=h.row;exact⟨⟨b0,n0,b1,n1',b2,n2,k.cells h1 n1,hp _ _ _ _ _ _ h2⟩,h.st.jq k hs hT,h.bf.jq k hT,h.nd⟩
theorem jX.jq{N:NB}{t:Int}{n:Nat}{pg:Nat→Int→Option ByteArray}(h:jX w N t n pg)(k:nT T w J)(hT:T∉pF):jX J N t n pg where
 nodes:=by obtain⟨cap,h1,h2,h3⟩:=h.nodes;exact⟨cap,h1,h2,k.cells h3 (by rintro rfl;exact hT qa)⟩
 row:=by obtain⟨x,h1,h2⟩:=h.row;exact⟨x,k.cells h1 (by rintro rfl;exact hT qa),h2⟩
 unit i hi:=k.cells (h.unit i hi) (by rintro rfl;exact hT qa)
 ig i hi:=(h.ig i hi).jq k (by rintro rfl;exact hT qa)
 ord:=k.cells h.ord (by rintro rfl;exact hT qa)
 hand:=k.cells h.hand (by rintro rfl;exact hT qa)
 mK:=h.mK
theorem nS.aar{lb:Nat}(h:nS w lb)(k:nT T w J)(hT:T∉pF)(hp: ∀b0 n0 b1 n1 b2 n2,cL w b0 n0 b1 n1 b2 n2→cL J b0 n0 b1 n1 b2 n2):nS J lb:=by
 obtain⟨b0,n0,b1,n1,b2,n2,ub,h1,h2⟩:=h.row;exact⟨b0,n0,b1,n1,b2,n2,ub,k.cells h1 (by rintro rfl;exact hT qa),hp _ _ _ _ _ _ h2⟩
theorem Ch.grown{x y:qo}{r:Option Nat}(h:Ch M w x)(g:x.grownBy y r)(hr: ∀j,r=some j→w.heap.size≤j):Ch M w y:=by
 have hk: ∀i,i<w.heap.size→y.heap[i]? =x.heap[i]? :=fun i hi=>g.block i (xH hi h.size) fun e=>by have:=hr i e.symm;omega
 exact⟨g.os.trans h.os,g.tape.trans h.tape,g.output.trans h.output,qM h.size g.size,fun i hi hn=>(hk i hi).trans (h.block i hi hn),fun i cs t fr hi ht=>(hk i (qK hi)).trans (h.bC i cs t fr hi ht)⟩
theorem cL.apart{g:Nat}{x:Array qp}(h:cL w b0 n0 b1 n1 b2 n2)(hg:w.heap[g]? =some (qn x 3 (0,0)))(h0:x[0]? =some (U Z 0))(h1:x[1]? =some (U Z 0))(hk: ∀b o,b≠g→w.heap[b]? =some o→J.heap[b]? =some o):cL J b0 n0 b1 n1 b2 n2:=by
 obtain⟨cs,e1,e2,e3⟩:=h.row;have a0:b0≠g:=by rintro rfl;rw[hg]at e1;injection e1 with e1;injection e1 with _ e1 _;exact qZ e1 qa
 have a1:b1≠g:=by
  rintro rfl;obtain⟨c,f1,f2,f3⟩:=h.r1.row;rw[hg]at f1;injection f1 with f1;injection f1 with f1 _ _;subst f1
  rw[h1]at f3;injection f3 with f3;injection f3 with _ f3;exact qZ f3 qa
 have a2:b2≠g:=by
  rintro rfl;obtain⟨c,f1,f2,f3⟩:=h.r2.row;rw[hg]at f1;injection f1 with f1;injection f1 with f1 _ _;subst f1
  rw[h0]at f2;injection f2 with f2;injection f2 with _ f2;exact qZ f2 qa
 refine⟨⟨cs,hk _ _ a0 e1,e2,e3⟩,h.ge,h.le,?_,?_⟩
 ·obtain⟨c,f1,f2,f3⟩:=h.r1.row;exact⟨⟨c,hk _ _ a1 f1,f2,f3⟩,h.r1.ge,h.r1.le⟩
 ·obtain⟨c,f1,f2,f3⟩:=h.r2.row;exact⟨⟨c,hk _ _ a2 f1,f2,f3⟩,h.r2.ge,h.r2.le⟩
instance:Inhabited CK:=⟨⟨0,0,⟨0,0,0,0,0,0,0,0,0,0,0⟩⟩⟩
structure WK where
 wb:Nat
 N:NB
 gl:Nat
 cl:Nat
 gr:Nat
 cr:Nat
 A:CK
 C:CK
def WK.soft(G:WK):List Nat:=G.wb::(G.N.soft++(G.A.soft++G.C.soft))
structure WS where
 t:Int
 k:Nat
 pg:Nat→Int→Option ByteArray
 now:Int
 r:Int
 a:CS
 c:CS
structure fZ(w:qo)(G:WK)(S:WS):Prop where
 head:w.heap[G.wb]? =some (qn #[pV G.N.n,pV G.N.h,qh (some ⟨G.gl,0,none⟩) 2 G.cl,qh (some ⟨G.gr,0,none⟩) 2 G.cr,U Z S.now,qi none] 74 (0,0))
 oV: ∃x,w.heap[G.gl]? =some (qn x 39 (0,0))∧x[0]? =some (pV G.A.cb)∧x[1]? =some (pV G.C.cb)
 uh: ∃x,w.heap[G.gr]? =some (qn x 3 (0,0))∧x[0]? =some (U Z S.r)∧x[1]? =some (U Z 0)
 nodes:jX w G.N S.t S.k S.pg
 lay:nS w G.N.l
 a:bt w G.A S.a
 c:bt w G.C S.c
 nd:G.soft.Nodup
theorem fZ.grow{G:WK}{S:WS}(h:fZ w G S)(k:qz w.heap.size w J):fZ J G S where
 head:=ae k h.head
 oV:=by obtain⟨x,h1,h2⟩:=h.oV;exact⟨x,ae k h1,h2⟩
 uh:=by obtain⟨x,h1,h2⟩:=h.uh;exact⟨x,ae k h1,h2⟩
 nodes:=h.nodes.ag (M:=[]) (Ch.af k) qc
 lay:=h.lay.ag (M:=[]) (Ch.af k)
 a:=h.a.grow k
 c:=h.c.grow k
 nd:=h.nd
theorem mk2(W:qo):(Instr.makeSlice 35 (U Z 2) (U Z 2)).run qx W= .ok (qh (some ⟨W.heap.size,0,none⟩) 2 2) (W.alloc (qn #[U Z 0,U Z 0] 3)):=by
 kernel_rfl
theorem EU.grow{B nb ob lb:Nat}{u p m:Nat→Nat}(h:EU B w nb ob lb u p m)(k:qz w.heap.size w J):EU B J nb ob lb u p m where
 nodes:=by obtain⟨r,cap,h1,h2,h3,x,h4,h5⟩:=h.nodes;exact⟨r,cap,h1,h2,ae k h3,x,ae k h4,h5⟩
 un:=h.un.below k
 ord:=h.ord.ag (M:=[]) (Ch.af k) qc
 lay:=h.lay.ag (M:=[]) (Ch.af k)
 ge:=h.ge
theorem EU.ag{B nb ob lb:Nat}{u p m:Nat→Nat}(h:EU B w nb ob lb u p m)(k:Ch M w J)(h1:ob∉M)(h2: ∀i,i<16→m i∉M):EU B J nb ob lb u p m where
 nodes:=by obtain⟨r,cap,e1,e2,e3,x,e4,e5⟩:=h.nodes;exact⟨r,cap,e1,e2,k.bC _ _ _ _ e3 qa,x,k.bC _ _ _ _ e4 qa,e5⟩
 un:=⟨fun i hi=>k.bC _ _ _ _ (h.un.unit i hi) qa,fun i hi=>(h.un.ig i hi).ag k (h2 i hi),h.un.mK,h.un.ge⟩
 ord:=h.ord.ag k h1
 lay:=h.lay.ag k
 ge:=h.ge
theorem aas:(prog.info? 39).map (fun i=>(i.zero,i.size,i.bytes))=some (some (qi none),1,8):=qd
def yQ(K:Nat→CK)(k:Nat):List qp:=(List.range k).map fun i=>pV (K i).cb
theorem Hl{K:Nat→CK}{k:Nat}{K1:CK}:yQ K k++[pV K1.cb]=yQ (fun i=>if i=k then K1 else K i) (k+1):=by
 unfold yQ;rw[List.range_succ,List.map_append]
 congr 1
 ·refine List.map_congr_left fun i hi=>?_;show pV (K i).cb=pV (if i=k then K1 else K i).cb;rw[qB (by have:=List.mem_range.1 hi;omega)]
 ·simp
abbrev wdC(nb hb:Nat)(v:qp)(gr:Nat):Array qp:=#[pV nb,pV hb,v,qh (some ⟨gr,0,none⟩) 2 2,U Z 0,qi none]
theorem Mp{w3 w5 w6:qo}{wb nb hb gr k g' cap':Nat}{c1:qp}{v:qp}{xs ys:List qp}{K:Nat→CK}{f:Nat→CS}
 (Fu:w5.heap[wb]? =some (qn (wdC nb hb v gr) 74 (0,0))) (kS:w5.ownsRow w3.heap.size 39 1 v k xs) (TP: ∀i,i<k+1→bt w5 (K i) (f i)) (gx:Ch [wb] w3 w5)
 (hg6:(w5.alloc (qn #[c1] 39)).grownBy w6 v.ownBlock):
 w6.heap[wb]? =some (qn (wdC nb hb v gr) 74 (0,0))∧(∀i,i<k+1→bt w6 (K i) (f i))∧Ch [wb] w3 w6:=by
 have hb:=aa w5 (qn #[c1] 39);have hr:=kS.alloc (qn #[c1] 39);have jq:=nT.mW hr hg6;exact⟨jq.cells (ae hb Fu) qa,fun i hi=>((TP i hi).grow hb).jq jq hg6.size qa (fun _ _ _ _ _ _ h=>h.jq jq qa qa),(gx.step hb).grown hg6 (fun j hj=>(hr.lt j hj).1)⟩
theorem Cs{wb B:Nat}{N:NB}{A C:CK}(hN:N.soft.Nodup)(hA:A.soft.Nodup)(hC:C.soft.Nodup)(h1:wb∉N.soft)(h2:wb<B)(h3: ∀x∈N.soft,x<B)(h4: ∀x∈A.soft,B≤x)(h5: ∀x∈C.soft,B≤x)(h6: ∀x∈A.soft,x∉C.soft):(wb::(N.soft++(A.soft++C.soft))).Nodup:=by
 refine xC.2 ⟨?_,List.nodup_append.2 ⟨hN,List.nodup_append.2 ⟨hA,hC,fun x hx y hy e=>h6 x hx (e▸hy)⟩,fun x hx y hy e=>?_⟩⟩
 ·simp only[xa,not_or];exact⟨h1,fun h=>by have:=h4 _ h;omega,fun h=>by have:=h5 _ h;omega⟩
 ·have:=h3 x hx;rcases xa.1 hy with h|h
  ·have:=h4 y h;omega
  ·have:=h5 y h;omega
theorem NB.Cs{N:NB}{t:Int}{k:Nat}{pg:Nat→Int→Option ByteArray}(h:jX w N t k pg):N.soft.Nodup:=by
 have o: ∀i,i<4→N.o≠N.m i:=fun i hi=>h.YS hi;have d:=h.mK;simp only[NB.soft,xC,qG,qQ,xt,not_or,not_false_eq_true,List.nodup_nil,and_true];exact⟨⟨o 0 Y,o 1 Y,o 2 Y,o 3 Y⟩,⟨d 0 1 Y Y Y,d 0 2 Y Y Y,d 0 3 Y Y Y⟩,⟨d 1 2 Y Y Y,d 1 3 Y Y Y⟩,d 2 3 Y Y Y⟩
theorem aat{B nb hb ob lb:Nat}{u p m:Nat→Nat}(h:EU B w nb ob lb u p m)(hh:w.heap[hb]? =some (qn #[pV nb,qh none 0 0] 132 (0,0))): ∃r,jX w ⟨nb,hb,ob,lb,r,u,p,m⟩ 0 0 (fun _ _=>none):=by
 obtain⟨r,cap,e1,e2,e3,x,e4,e5⟩:=h.nodes;exact⟨r,⟨cap,e1,e2,e3⟩,⟨x,e4,e5⟩,fun i hi=>h.un.unit i Y,fun i hi=>h.un.ig i Y,h.ord,hh,fun i j hi hj=>h.un.mK i j Y Y⟩
theorem Ry(w:qo)(h:cL w b0 n0 b1 n1 b2 n2):
 qw qx 15 #[ql #[U Z 0,qh (some ⟨b0,0,none⟩) 2 n0],U Z 3000,U Z 2] w fun e J=> ∃G:WK,e=qm (qj #[pV G.wb,U Z 0])∧fZ J G ⟨0,0,fun _ _=>none,0,0,Su 0 0,Su 1 0⟩∧(∀x∈G.soft,w.heap.size≤x)∧(w.heap.size≤G.gl∧w.heap.size≤G.gr)∧qz w.heap.size w J:=by
 have HH:=Hd h;obtain⟨wA,p,hA,hp,h5,hb,l1⟩:=aD w (qn #[U Z 0,qh (some ⟨b0,0,none⟩) 2 n0] 54);have oN:=Hd hb;have eO:=Hd h5;obtain⟨q0,q1⟩:=cp h5;clear h h5 hb l1;go_enter func15,ntmps15;go_wp2_with fail
 refine(Rw wA (HH.o.ag (M:=[]) (Ch.af oN.o))).mono ?_;rintro e w1⟨nb,ob,lb,u,pg,mp,rfl,h5,h6⟩;have zw:=Hd h5;have cq:=Hd (ai oN.o h6);have kh:=Hd (ae h6 eO.o);clear h5 h6 q0 q1 hA hp;go_wp2_with fail
 have au:qy (Ch [] w1 w1.drew):=Hd (Ch.refl _ _).drew;have hmk:=mk2;refine aB 8 8 (fun X=>Ch [] w1 X) qd rfl ?_;generalize w1.drew=W0 at au⊢;refine tN 0 31 ?_ au.o ?_ (tN 1 32 ?_ au.o ?_ (tN 3 34 ?_ au.o ?_ ?_))
 iterate 3
  rotate_left
  ·intro wq hq;exact bJ
 simp only[pS,aS,sZ,sS];refine oP 2 4 qd rfl rfl rfl rfl (al (some 33) (f:=24) (args:=#[pV nb]) rfl qf (fun v X=> ∃hb,v=pV hb∧X.heap[hb]? =some (qn #[pV nb,qh none 0 0] 132 (0,0))∧qz W0.heap.size W0 X) ((EM nb W0).mono fun e J ⟨h1,h2,h3⟩=>⟨_,h1,_,rfl,h2,h3⟩) ?zqc) (aw (some 35) (v:=qh (some ⟨W0.heap.size,0,none⟩) 2 2) (J:=W0.alloc (qn #[U Z 0,U Z 0] 3)) rfl qf ⟨fun _=>au.o.alloc _,?zqa⟩)
 case' zqc=>
  rintro v w2⟨hb,rfl,h1,h2⟩;have Bc:=Hd h1;have cX:=Hd (au.o.step h2);clear h1 h2;refine⟨fun _=>cX.o,?_⟩;simp only[pS,aS,sZ,sS];refine ay 4 qd rfl rfl (aw (some 35) (v:=qh (some ⟨w2.heap.size,0,none⟩) 2 2) (J:=w2.alloc (qn #[U Z 0,U Z 0] 3)) rfl qf ⟨fun _=>cX.o.alloc _,?_⟩);simp only[pS,aS,sZ,sS]
  have HZ:qy (Ch [] w1 (w2.alloc (qn #[U Z 0,U Z 0] 3))∧(w2.alloc (qn #[U Z 0,U Z 0] 3)).heap[hb]? =some (qn #[pV nb,qh none 0 0] 132 (0,0))∧(w2.alloc (qn #[U Z 0,U Z 0] 3)).heap[w2.heap.size]? =some (qn #[U Z 0,U Z 0] 3 (0,0))∧w1.heap.size≤w2.heap.size):=Hd ⟨cX.o.alloc _,ae (aa _ _) Bc.o,qA _ _,cX.o.size⟩;clear cX Bc;generalize w2.alloc (qn #[U Z 0,U Z 0] 3)=wz at HZ⊢;generalize w2.heap.size=gr at HZ⊢
 case' zqa=>
  simp only[pS,aS,sZ,sS];have cX:qy (Ch [] w1 (W0.alloc (qn #[U Z 0,U Z 0] 3))):=Hd (au.o.alloc _);have eB:qy ((W0.alloc (qn #[U Z 0,U Z 0] 3)).heap[W0.heap.size]? =some (qn #[U Z 0,U Z 0] 3 (0,0))∧w1.heap.size≤W0.heap.size):=Hd ⟨qA _ _,au.o.size⟩;generalize W0.alloc (qn #[U Z 0,U Z 0] 3)=w2 at cX eB⊢;generalize W0.heap.size=gr at eB⊢;refine ay 2 qd rfl rfl (al (some 33) (f:=24) (args:=#[pV nb]) rfl qf (fun v X=> ∃hb,v=pV hb∧X.heap[hb]? =some (qn #[pV nb,qh none 0 0] 132 (0,0))∧qz w2.heap.size w2 X) ((EM nb w2).mono fun e J ⟨h1,h2,h3⟩=>⟨_,h1,_,rfl,h2,h3⟩) ?_);rintro v wz⟨hb,rfl,h1,h2⟩
  have HZ:qy (Ch [] w1 wz∧wz.heap[hb]? =some (qn #[pV nb,qh none 0 0] 132 (0,0))∧wz.heap[gr]? =some (qn #[U Z 0,U Z 0] 3 (0,0))∧w1.heap.size≤gr):=Hd ⟨cX.o.step h2,h1,ae h2 eB.o.1,eB.o.2⟩;clear h1 h2 cX eB;refine⟨fun _=>HZ.o.1,?_⟩;simp only[pS,aS,sZ,sS]
 all_goals
  have sR:=Hd HZ.o.1;refine tN 5 36 ?_ sR.o ?_ ?_;rotate_left
  ·intro wq hq;exact bJ
  simp only[pS,aS,sZ,sS];refine ay 6 qd rfl rfl (aw (some 37) (v:=qi (some ⟨wz.heap.size,0,none⟩)) (J:=wz.alloc (qn #[pV nb,pV hb,qh none 0 0,qh (some ⟨gr,0,none⟩) 2 2,U Z 0,qi none] 74)) rfl qf ⟨fun _=>sR.o.alloc _,?_⟩);simp only[pS,aS,sZ,sS];have eP:qy (Ch [] w1 (wz.alloc (qn #[pV nb,pV hb,qh none 0 0,qh (some ⟨gr,0,none⟩) 2 2,U Z 0,qi none] 74))):=Hd (sR.o.alloc _);have pD:qy (((wz.alloc (qn #[pV nb,pV hb,qh none 0 0,qh (some ⟨gr,0,none⟩) 2 2,U Z 0,qi none] 74))).heap[wz.heap.size]? =some (qn #[pV nb,pV hb,qh none 0 0,qh (some ⟨gr,0,none⟩) 2 2,U Z 0,qi none] 74 (0,0))):=Hd (qA _ _)
  have Ef:=Hd (ae (aa wz (qn #[pV nb,pV hb,qh none 0 0,qh (some ⟨gr,0,none⟩) 2 2,U Z 0,qi none] 74)) HZ.o.2.1);have eE:=Hd (ae (aa wz (qn #[pV nb,pV hb,qh none 0 0,qh (some ⟨gr,0,none⟩) 2 2,U Z 0,qi none] 74)) HZ.o.2.2.1);have HGR:qy (w.heap.size≤gr):=Hd (qM cq.o.size HZ.o.2.2.2);have FQ:qy (w.heap.size≤wz.heap.size):=Hd (qM cq.o.size HZ.o.1.size);generalize wz.alloc (qn #[pV nb,pV hb,qh none 0 0,qh (some ⟨gr,0,none⟩) 2 2,U Z 0,qi none] 74)=w3 at eP pD Ef eE⊢;clear HZ sR;generalize wz.heap.size=wb at pD FQ⊢;refine tN 7 10 ?_ eP.o ?_ ?_;rotate_left
  ·intro wq hq;exact bJ
  simp only[pS,aS,sZ,sS];refine aU qd ?_;have cu:qy (qz w1.heap.size w1 w3):=Hd (eP.o.below qc (Nat.le_refl _));have Rx:=Hd (zw.o.grow cu.o);have jn:=Hd (ae cu.o kh.o);obtain⟨i0,hi,hz0,hz1,hz2⟩:=info_parts aas;go_wp2_with fail
  go_loopw [11,12,13,39] (fun _ _ _ i wr=> ∃(k:Nat) (v:qp) (K:Nat→CK),k≤2∧i=U Z (k:Nat)∧wr.heap[wb]? =some (qn (wdC nb hb v gr) 74 (0,0))∧wr.ownsRow w3.heap.size 39 1 v k (yQ K k)∧
   (∀i,i<k→bt wr (K i) (Su (i:Nat) 0))∧(∀i,i<k→ ∀x∈(K i).soft,w3.heap.size≤x)∧(∀i j,i<k→j<k→i≠j→ ∀x∈(K i).soft,x∉(K j).soft)∧Ch [wb] w3 wr) (fun _ _ _ i _=>((2:Int)-intOf i).toNat)
  case atStart=>exact⟨0,_,fun _=>default,Y,rfl,pD.o,World.ownsRow_nil _ _ _ _,fun i h=>qZ h Y,fun i h=>qZ h Y,fun i j h=>qZ h Y,Ch.refl _ _⟩
  case round=>
   obtain⟨k,v,K,hk,rfl,hn,aW,ff,uY,hdj,hc⟩:=hrel;have HN:=Hd hn;have HR:=Hd aW;have HU:=Hd ff;have HG:=Hd uY;have HJ:=Hd hdj;have HC:=Hd hc;have WO:p≠wb:=by rintro rfl;have h1:=jn.o;rw[pD.o]at h1;injection h1 with h1;injection h1 with _ h1 _;exact qZ h1 qa
   have HX:=Hd (HC.o.heap jn.o (by simpa using WO));clear hn aW ff uY hdj hc WO;by_cases aN:k<2
   ·have hk0:(0:Int)≤(k:Int):=by omega
    have vN:(k:Int)<2:=Y;have dO:=Hd aN;have aie:=Hd (ai cq.o cu.o);obtain⟨q0,q1⟩:=cp HX.o;clear hk aN;go_wp2_with fail
    refine(Bh (k:Int) 0 Y Y wr ((HH.o.ag (M:=[]) (Ch.af aie.o)).ag HC.o)).mono ?_;rintro e w5⟨K1,rfl,h1,h2,h4⟩;have dP:=Hd (HC.o.step h4);have Fu:=Hd (ae h4 HN.o)
    have TP:qy (∀i,i<k+1→bt w5 (if i=k then K1 else K i) (Su (i:Nat) 0)):=Hd fun i hi=>by
     by_cases e:i=k
     ·rw[qH e,e];exact h1
     ·rw[qB e];exact(HU.o i Y).grow h4
    have MG:qy (∀i,i<k+1→ ∀x∈(if i=k then K1 else K i).soft,w3.heap.size≤x):=Hd fun i hi x hx=>by
     by_cases e:i=k
     ·rw[qH e]at hx;exact qM HC.o.size (h2 x hx)
     ·rw[qB e]at hx;exact HG.o i Y x hx
    have HJ5:qy (∀i j,i<k+1→j<k+1→i≠j→ ∀x∈(if i=k then K1 else K i).soft,x∉(if j=k then K1 else K j).soft):=Hd fun i j hi hj bd x hx hy=>by
     have lt: ∀i,i<k→ ∀x∈(K i).soft,x<wr.heap.size:=fun i hi=>(HU.o i hi).lt;by_cases e:i=k
     ·rw[qH e]at hx;rw[qB Y]at hy;have:=h2 x hx;have:=lt j Y x hy;omega
     ·rw[qB e]at hx;by_cases e2:j=k
      ·rw[qH e2]at hy;have:=h2 x hy;have:=lt i Y x hx;omega
      ·rw[qB e2]at hy;exact HJ.o i j Y Y bd x hx hy
    have kS:qy (w5.ownsRow w3.heap.size 39 1 v k (yQ K k)):=Hd (HR.o.kept (row:=none) ⟨h4.os,h4.tape,h4.output,h4.size,fun k hk _=>h4.block k hk⟩ (by cases hv:v.ownBlock with
     |none=>exact .inl rfl
     |some k=>exact .inr qc))
    clear h1 h2 h4 q0 q1;have n2':w5.cell? ⟨wb,2,none⟩=some v:=aJ Fu.o 2;have HK1:qy (IntKind.i64.wrap ((k:Int)+1)=((k+1:Nat):Int)):=Hd (by rw[qO _ ⟨Y,Y⟩];omega);have hk1:=HK1.o
    go_wp2_with(at_builtin;go_loud (refine wpList_append_own _ rfl _ _ 71 rfl w3.heap.size 39 i0 (qi none) 1 8 underlying71 hi hz0 hz1 hz2 rfl qa v k _ rfl (kS.o.alloc _) ⟨w5.heap.size,0,none⟩ 1 1 [pV K1.cb] rfl rfl (cell_one_new _ _ _) (by simp[Value.oneCell']) (by unfold maxLen;omega) Y (by have:=dP.o.size;simp;omega) ?_;intro v' w6 fE hg6 _;obtain⟨g',cap',rfl⟩:=ownsRow_succ fE;obtain⟨a1,a2,a3⟩:=Mp (g':=0) (cap':=0) (ys:=[]) Fu.o kS.o TP.o dP.o hg6;have tW:=Hd fE;have Ja:=Hd a1;have HU6:=Hd a2;have ee:=Hd a3;clear a2 a3 fE hg6;have y0:=(aJ a1 2);have yf:=(cn a1 2);clear a1))
    have o7:Ch [wb] w6 (w6.setCell ⟨wb,2,none⟩ (qh (some ⟨g',0,none⟩) (k+1) cap')):=Ch.dn Ja.o qa 2 _;have hwl:wb<w3.heap.size:=qK pD.o;refine⟨⟨k+1,_,fun i=>if i=k then K1 else K i,by have:=dO.o;omega,qc,av (i:=2) Ja.o _,?_,fun i hi=>(HU6.o i hi).ag o7 (fun x hx=>by have:=MG.o i hi x hx;simp;omega),MG.o,HJ5.o,ee.o.aq o7⟩,by simp[intOf];have:=dO.o;omega⟩;rw[←Hl];refine tW.o.kept (row:=some wb) ⟨rfl,rfl,rfl,o7.size,fun j hj hn=>o7.block j hj (by simpa using fun e=>hn (by rw[e]))⟩ (.inr fun e=>?_);have e1:g'=wb:=by simpa [Value.ownBlock]using e
    have:=(tW.o.lt wb (by rw[←e1];rfl)).1;omega
   ·obtain rfl:k=2:=by omega
    clear hk aN;go_wp2_with fail
    go_ret2
    have how:ob≠wb:=by rintro rfl;have h1:=Rx.o.ord;unfold km at h1;rw[pD.o]at h1;injection h1 with h1;injection h1 with _ h1 _;exact qZ h1 qa
    have ZF: ∀i,i<16→mp i≠wb:=fun i hi e=>by
     obtain⟨es,cl,h1,_⟩:=(Rx.o.un.ig i hi).map;rw[e,pD.o]at h1;cases h1
    have hhw:hb≠wb:=by rintro rfl;have h1:=Ef.o;rw[pD.o]at h1;injection h1 with h1;injection h1 with _ h1 _;exact qZ h1 qa
    have hN:=Rx.o.ag HC.o (by simpa using how) (fun i hi=>by simpa using ZF i hi);obtain⟨r,hNI⟩:=aat hN (HC.o.heap Ef.o (by simpa using hhw));have Xm:=HR.o;obtain⟨g0,c0,rfl⟩:=ownsRow_succ Xm;have hwl:wb<w3.heap.size:=qK pD.o
    have aif: ∀x∈(⟨nb,hb,ob,lb,r,u,pg,mp⟩:NB).soft,x<w3.heap.size:=fun x hx=>by
     have m: ∀i,i<4→mp i<w3.heap.size:=fun i hi=>an.lt (Rx.o.un.ig i Y).map;simp only[NB.soft,qG,qQ,xt]at hx;rcases hx with rfl|rfl|rfl|rfl|rfl
     ·exact qK Rx.o.ord
     ·exact m 0 Y
     ·exact m 1 Y
     ·exact m 2 Y
     ·exact m 3 Y
    have hwn:wb∉(⟨nb,hb,ob,lb,r,u,pg,mp⟩:NB).soft:=by
     simp only[NB.soft,qG,qQ,xt,not_or];exact⟨how.symm,(ZF 0 Y).symm,(ZF 1 Y).symm,(ZF 2 Y).symm,(ZF 3 Y).symm⟩
    have hw3:w.heap.size≤w3.heap.size:=qM cq.o.size cu.o.size;have hBA:=oN.o.size;refine⟨⟨wb,⟨nb,hb,ob,lb,r,u,pg,mp⟩,g0,c0,gr,2,K 0,K 1⟩,rfl,⟨HN.o,?_,⟨_,HC.o.bC _ _ _ _ eE.o qa,rfl,rfl⟩,hNI,hN.lay,HU.o 0 Y,HU.o 1 Y,?_⟩,?_,⟨qM hw3 (Xm.lt g0 rfl).1,HGR.o⟩,(ai cq.o cu.o).trans (HC.o.below (by simpa using FQ.o) hw3)⟩
    ·rcases Xm.2 with⟨h,_⟩|⟨g,c,cur,h1,_,h2,h3,h4,h5,h6⟩
     ·cases h
     ·injection h1 with h1 _ h8
      injection h1 with h1
      injection h1 with h1 _ _
      subst h1
      have hc: ∀i,i<2→cur[i]? =some (pV (K i).cb):=fun i hi=>by
       have hc:=Xm.cellAt i Y;rw[qI h2]at hc
       have e1:(yQ K 2)[i]? =some (pV (K i).cb):=by
        unfold yQ;rw[List.getElem?_map,List.getElem?_range Y];rfl
       rw[e1]at hc;simpa using hc
      exact⟨cur,h2,hc 0 Y,hc 1 Y⟩
    ·exact Cs (NB.Cs hNI) (HU.o 0 Y).nd (HU.o 1 Y).nd hwn hwl aif (HG.o 0 Y) (HG.o 1 Y) (HJ.o 0 1 Y Y Y)
    ·intro x hx;simp only[WK.soft,qG,xa]at hx;rcases hx with rfl|hx|hx|hx
     ·exact FQ.o
     ·have m: ∀i,i<4→w.heap.size≤mp i:=fun i hi=>qM hBA (Rx.o.un.ge i Y);simp only[NB.soft,qG,qQ,xt]at hx;rcases hx with rfl|rfl|rfl|rfl|rfl
      ·exact qM hBA Rx.o.ge
      ·exact m 0 Y
      ·exact m 1 Y
      ·exact m 2 Y
      ·exact m 3 Y
     ·exact qM hw3 (HG.o 0 Y x hx)
     ·exact qM hw3 (HG.o 1 Y x hx)
variable{G:WK}{S:WS}
def WK.K(G:WK)(k:Nat):CK:=if k=0 then G.A else G.C
def WS.s(S:WS)(k:Nat):CS:=if k=0 then S.a else S.c
theorem fZ.k(h:fZ w G S)(k:Nat):bt w (G.K k) (S.s k):=by
 unfold WK.K WS.s;split
 ·exact h.a
 ·exact h.c
theorem fZ.cells(h:fZ w G S):w.cell? ⟨G.wb,0,none⟩=some (pV G.N.n)∧w.cell? ⟨G.wb,1,none⟩=some (pV G.N.h)∧w.cell? ⟨G.wb,2,none⟩=some (qh (some ⟨G.gl,0,none⟩) 2 G.cl)∧w.cell? ⟨G.wb,3,none⟩=some (qh (some ⟨G.gr,0,none⟩) 2 G.cr)∧w.cell? ⟨G.wb,4,none⟩=some (U Z S.now):=
 ⟨(aJ h.head 0),(aJ h.head 1),(aJ h.head 2),(aJ h.head 3),(aJ h.head 4)⟩
theorem ja(k:Nat)(hk:k<2)(w:qo)(h:fZ w G S):
 qw qx 10 #[pV G.wb,U Z (k:Nat)] w fun e J=>e=qm (pV (G.K k).cb)∧w=J:=by
 obtain⟨z0,z1,z2,z3,z4⟩:=h.cells
 have h5:w.cell? ⟨G.gl,k,none⟩=some (pV (G.K k).cb):=by
  obtain⟨x,h1,h2,h3⟩:=h.oV;rw[qI h1];have:k=0∨k=1:=Y;rcases this with rfl|rfl
  ·exact h2
  ·exact h3
 have h6: ¬(k:Int)<0:=Y;have h7: ¬(2:Int)≤(k:Int):=Y;have h8:(0:Int)≤(k:Int):=Y;have h9:(k:Int)<2:=Y;clear h;go_enter func10,ntmps10;go_wp2_with fail
 go_ret;exact⟨rfl,rfl⟩
theorem Bi(k:Nat)(hk:k<2)(w:qo)(h:fZ w G S)(b:Bool)(rc rh:Int)(rd:ByteArray)
 (hc:qw qx 44 #[pV (G.K k).cb] (w.alloc (qn (bz 0 0 ⟨#[]⟩) 30)) fun e J=>e=qm (qj #[ql (bz rc rh rd),qk b])∧qz (w.alloc (qn (bz 0 0 ⟨#[]⟩) 30)).heap.size (w.alloc (qn (bz 0 0 ⟨#[]⟩) 30)) J):
 qw qx 26 #[pV G.wb,U Z (k:Nat)] w fun e J=>e=qm (qj #[ql (bz rc rh rd),qk b])∧qz w.heap.size w J:=by
 obtain⟨wA,p,hA,hp,h1,hb,l1⟩:=aD w (qn (bz 0 0 ⟨#[]⟩) 30);rw[hA]at hc;have HB:=Hd hb;have HX:=Hd h1;have l2:=l1;have fM:=Hd (h.grow hb);have HC:=Hd hc;have HK:=Hd hk;clear h h1 hb l1 hc hk;go_enter func26,ntmps26;go_wp2_with fail
 refine(ja k HK.o wA fM.o).mono ?_;rintro e _⟨rfl,rfl⟩;go_wp2_with fail
 refine HC.o.mono ?_;rintro e w2⟨rfl,h2⟩;have az:=Hd (ai HB.o h2);have aF:=Hd (ae h2 HX.o);clear h2;go_wp2_with(refine qE rfl 30 (Operand.tmp 4) _ rfl p _ rfl rfl 30 _ aF.o cd rfl (by simp[Value.oneCell']) ?_)
 refine aY rfl rfl rfl (qJ _ _ _ _ _ _ aF.o) underlying30 rfl cd ?_;exact⟨rfl,aj az.o l2 _⟩
theorem Rz(k:Nat)(hk:k<2)(w:qo)(h:fZ w G S)(ho:(S.s k).over=false):
 qw qx 26 #[pV G.wb,U Z (k:Nat)] w fun e J=>e=qm (qj #[ql (bz 0 0 ⟨#[]⟩),qk false])∧qz w.heap.size w J:=
 Bi k hk w h false 0 0 ⟨#[]⟩ (Rh ho _ ((h.grow (aa _ _)).k k))
theorem Mq(k:Nat)(hk:k<2)(w:qo)(h:fZ w G S)(ho:(S.s k).over=true):
 qw qx 26 #[pV G.wb,U Z (k:Nat)] w fun e J=>e=qm (qj #[ql (bz (S.s k).rc (S.s k).rh (S.s k).rd),qk true])∧qz w.heap.size w J:=
 Bi k hk w h true _ _ _ (Ma ho _ ((h.grow (aa _ _)).k k))
def Vx(k:Int):Nat:=if k=1 then 52 else if k=2 then 53 else if k=5 then 56 else 57
def doA:Array qp:=#[.nilFunc,.func (.func 52) #[] #[],.func (.func 53) #[] #[],.func (.func 54) #[] #[],.func (.func 55) #[] #[],.func (.func 56) #[] #[],.func (.func 57) #[] #[],.func (.func 58) #[] #[],.func (.func 59) #[] #[],.func (.func 60) #[] #[],.func (.func 61) #[] #[]]
theorem aau(W:qo):(Instr.index 152 (ql doA) (U Z 1)).run qx W= .ok (.func (.func (Vx 1)) #[] #[]) W:=qd
theorem aav(W:qo):(Instr.index 152 (ql doA) (U Z 2)).run qx W= .ok (.func (.func (Vx 2)) #[] #[]) W:=qd
theorem aaw(W:qo):(Instr.index 152 (ql doA) (U Z 5)).run qx W= .ok (.func (.func (Vx 5)) #[] #[]) W:=qd
theorem aax(W:qo):(Instr.index 152 (ql doA) (U Z 6)).run qx W= .ok (.func (.func (Vx 6)) #[] #[]) W:=qd
theorem Mr(k:Int)(hk:k=1∨k=2∨k=5∨k=6)(w:qo):
 qw qx 32 #[U Z k] w fun e J=>e=qm (.func (.func (Vx k)) #[] #[])∧qz w.heap.size w J:=by
 rcases hk with rfl|rfl|rfl|rfl
 all_goals
  go_enter func32,ntmps32;have aih:=aau;have aii:=aav;have aij:=aaw;have aik:=aax;unfold doA at aih aii aij aik;go_wp2_with fail
  go_ret;exact⟨rfl,Below.refl _ _⟩
theorem aay(k:Int): ∀(args:Array qp) (W:qo),(callFunc (Vx k) args).run qx W= .ok (.enter (Vx k) args) W:=by
 intro args W;unfold Vx;split
 ·simp[go_sem]
 ·split
  ·simp[go_sem]
  ·split
   ·simp[go_sem]
   ·simp[go_sem]
theorem aaE:(prog.info? 65).map (·.size)=some 24:=qd
theorem Vy{ops:Array Oper}{rest:List Oper}{op:Oper}{a:Act}{w:qo}{Q:Exit→Act→qo→Prop}(uR:op.guard=none)(x:Operand)(ho:op.op= .load 65 x)
 (b:Nat) (cs:Array qp) (hx:a.eval x=qi (some ⟨b,0,none⟩)) (hb:w.heap[b]? =some (qn cs 65 (0,0))) (ff:cs.size=24) (h:wpList qx ops Q rest (a.put op.dst (ql cs)) w):wpList qx ops Q (op::rest) a w:=by
 refine wpList_load_mid uR 65 x ho b 0 hx cs.toList _ (nP hb (fun j v hv=>by simpa using hv)) underlying65 rfl (aaE.trans (by simp[ff])) ?_;simpa using h
theorem aaz(F:Nat)(W:qo):(binOp BinOp.eql 110 (.func (.func F) #[] #[]) .nilFunc).run qx W= .ok (qk false) W:=by
 rfl
theorem vD(q:ConP.dK)(m c:qp)(z k:Int)(Jt:q.k=k)(hk:k=1∨k=2∨k=5∨k=6)(w:qo)(h:fZ w G S)(e0:Int)(Q:qo→Prop)
 (hf: ∀w1,qz w.heap.size w w1→fZ w1 G S→qw qx (Vx k) #[pV G.wb,ql (ConW.aG q m z c)] w1 fun e J=>e=qm (U Z e0)∧Q J):
 qw qx 20 #[pV G.wb,ql (ConW.aG q m z c)] w fun e J=>e=qm (U Z e0)∧Q J:=by
 obtain⟨wA,p,hA,hp,h1,hb,l1⟩:=aD w (qn (ConW.aG q m z c) 65);have HB:=Hd hb;have HX:=Hd h1;have fM:=Hd (h.grow hb);have HF:=Hd hf;have HK:=Hd hk;have CD:=aay k;have hfn:=aaz;have q0:wA.cell? ⟨p,0,none⟩=some (U Z k):=by rw[qI h1,←Jt];rfl
 clear h h1 hb l1 hf hk Jt;unfold ConW.aG at hA;unfold ConW.aG;go_enter func20,ntmps20;go_wp2_with fail
 refine(Mr k HK.o wA).mono ?_;rintro e w2⟨rfl,hb2⟩;have aF:=Hd (ae hb2 HX.o);have az:=Hd (ai HB.o hb2);have Bc:=Hd (fM.o.grow hb2);clear hb2 q0 hA hp;go_wp2_with((with_reducible(refine Vy rfl (Operand.tmp 3) rfl p (ConW.aG q m z c) ?_ ?_ ?_ ?_));(·rfl);(·exact aF.o);(·rfl))
 refine(HF.o w2 az.o Bc.o).mono ?_;rintro e w3⟨rfl,h3⟩;have H3:=Hd h3;clear h3;go_wp2_with fail
 go_ret;exact⟨rfl,H3.o⟩
theorem fZ.oX{J:qo}{A C:CS}(h:fZ w G S)(h2:fZ J G {S with a:=A,c:=C}):fZ J G {S with a:=A,c:=C}:=h2
theorem fZ.ag(h:fZ w G S)(k:Ch M w J)(hn: ∀x∈G.soft,x∉M):fZ J G S where
 head:=k.heap h.head (hn _ (by simp[WK.soft]))
 oV:=by obtain⟨x,h1,h2⟩:=h.oV;exact⟨x,k.bC _ _ _ _ h1 qa,h2⟩
 uh:=by obtain⟨x,h1,h2⟩:=h.uh;exact⟨x,k.bC _ _ _ _ h1 qa,h2⟩
 nodes:=h.nodes.ag k (fun x hx=>hn x (by simp[WK.soft,hx]))
 lay:=h.lay.ag k
 a:=h.a.ag k (fun x hx=>hn x (by simp[WK.soft,hx]))
 c:=h.c.ag k (fun x hx=>hn x (by simp[WK.soft,hx]))
 nd:=h.nd
theorem yR{o:Oper}{a:Act}{w:qo}(ty:qu)(x:Operand)(ho:o.op= .load ty x)(b f:Nat)(hx:a.eval x=qi (some ⟨b,f,none⟩))(cs:Array qp){d:TypeDesc}(hc:w.rangeAt b f cs.toList)
 (hu:prog.underlying ty=some d) (hd:d.isRow=true) (hi:(prog.info? ty).map (·.size)=some cs.size):
 (execOp a.eval o).run qx w= .ok (.value (ql cs)) w:=by
 have:=run_loadAt_mid (P:=qx) w b f ty cs.toList d hc hu hd (by simpa using hi);unfold execOp;simp only[ho,hx,Sem.run_bind,Sem.run_pure,Result.andThen_ok,this]
theorem Ms(q:ConP.dK)(m c:qp)(z:Int)(w:qo)(p:Nat)(h:w.heap[p]? =some (qn (ConW.aG q m z c) 65 (0,0))):w.rangeAt p 4 (rD q.a m).toList:=by
 refine nP h fun j v hv=>?_
 have hj:j<18:=by
  have:=(xb.1 hv).1;simpa using this
 have e:(ConW.aG q m z c)[4+j]? =(rD q.a m).toList[j]? :=by
  unfold ConW.aG
  match j,hj with
  |0,_=>rfl
  |1,_=>rfl
  |2,_=>rfl
  |3,_=>rfl
  |4,_=>rfl
  |5,_=>rfl
  |6,_=>rfl
  |7,_=>rfl
  |8,_=>rfl
  |9,_=>rfl
  |10,_=>rfl
  |11,_=>rfl
  |12,_=>rfl
  |13,_=>rfl
  |14,_=>rfl
  |15,_=>rfl
  |16,_=>rfl
  |17,_=>rfl
 rw[e];exact hv
theorem Mt(q:ConP.dK)(m c:qp)(z:Int)(k:Nat)(zP:q.c=(k:Nat))(hk:k<2)(w:qo)(h:fZ w G S)(e0:Int)(Q:qo→Prop)(hQ: ∀X,Q X→X.cell? ⟨G.wb,4,none⟩=some (U Z S.now))
 (hf: ∀w1,qz w.heap.size w w1→fZ w1 G S→qw qx 83 #[pV (G.K k).cb,ql (rD q.a m),U Z S.now] w1 fun e J=>e=qm (U Z e0)∧Q J):
 qw qx 52 #[pV G.wb,ql (ConW.aG q m z c)] w fun e J=>e=qm (U Z e0)∧Q J:=by
 obtain⟨wA,p,hA,hp,h1,hb,l1⟩:=aD w (qn (ConW.aG q m z c) 65);have HB:=Hd hb;have HX:=Hd h1;have fM:=Hd (h.grow hb);have HF:=Hd hf;have HK:=Hd hk;have HQ:=Hd hQ;have q1:wA.cell? ⟨p,1,none⟩=some (U Z (k:Nat)):=by rw[qI h1,←zP];rfl
 clear h h1 hb l1 hf hk zP hQ;unfold ConW.aG at hA;unfold ConW.aG;go_enter func52,ntmps52;go_wp2_with fail
 refine(ja k HK.o wA fM.o).mono ?_;rintro e _⟨rfl,rfl⟩;go_wp2_with fail
 have au:qy (wA.drew.cell? ⟨G.wb,4,none⟩=some (U Z S.now)):=Hd fM.o.cells.2.2.2.2;have yz:qy (wA.drew.heap[p]? =some (qn (ConW.aG q m z c) 65 (0,0))):=Hd HX.o;have bu:qy (qz w.heap.size w wA.drew):=Hd ⟨HB.o.os,HB.o.tape,HB.o.output,HB.o.size,HB.o.block⟩;have HH0:qy (fZ wA.drew G S):=Hd (fM.o.ag (Ch.refl [] _).drew qc);refine aB 9 9 (fun X=>X.cell? ⟨G.wb,4,none⟩=some (U Z S.now)) qd rfl ?_;generalize wA.drew=W0 at au yz bu HH0⊢;refine tN 0 12 ?_ au.o ?_ (tN 1 13 ?_ au.o ?_ (tN 3 15 ?_ au.o ?_ (tN 4 16 ?_ au.o ?_ (tN 5 17 ?_ au.o ?_ (tN 6 18 ?_ au.o ?_ ?_)))))
 iterate 6
  rotate_left
  ·intro wq hq;have z0:=hq;exact bJ
 simp only[pS,aS,sZ,sS];refine ay 2 qd rfl rfl (aw (some 14) (v:=ql (rD q.a m)) (J:=W0) rfl (yR 63 (Operand.tmp 13) rfl p 4 rfl (rD q.a m) (Ms q m c z W0 p yz.o) underlying63 rfl uc) ⟨fun _=>au.o,?_⟩);simp only[pS,aS,sZ,sS];refine ay 7 qd rfl rfl (al (some 19) (f:=83) (args:=#[pV (G.K k).cb,ql (rD q.a m),U Z S.now]) rfl qf (fun v X=>v=U Z e0∧Q X) ((HF.o W0 bu.o HH0.o).mono fun e J ⟨h1,h2⟩=>⟨_,h1,rfl,h2⟩) ?_);rintro v w9⟨rfl,h9⟩;have H9:=Hd h9;have HS9:=Hd (HQ.o w9 h9);clear h9;refine⟨fun _=>HS9.o,?_⟩;simp only[pS,aS,sZ,sS];refine tN 8 4 ?_ HS9.o ?_ ?_;rotate_left
 ·intro wq hq;exact bJ
 simp only[pS,aS,sZ,sS];refine aU qd ?_;go_wp2_with fail
 go_ret;exact⟨rfl,H9.o⟩
theorem Mu(q:ConP.dK)(m c:qp)(z:Int)(k:Nat)(zP:q.c=(k:Nat))(hqf:q.f=0)(hk:k<2)(w:qo)(h:fZ w G S)(a0 a1 a2 a3 a4 a5:Int)(s:ByteArray)(ans:Array qp)(hM: ∀x∈M,x<w.heap.size∧x≠G.wb)(Q1:qo→qo→Prop)(Q:qo→Prop)
 (hA: ∀w1,qz w.heap.size w w1→fZ w1 G S→qw qx 84 #[pV (G.K k).cb] w1 fun e J=>e=qm (qj #[ql (bF a0 a1 a2 a3 a4 a5 s),qk true])∧qz w1.heap.size w1 J)
 (hH: ∀w1,qz w.heap.size w w1→fZ w1 G S→qw qx 86 #[pV G.N.h,ql (bF a0 a1 a2 a3 a4 a5 s),U Z 0] w1 fun e J=>e=qm (qj #[ql ans,qk true])∧Q1 w1 J∧Ch M w1 J)
 (hR: ∀w1 w2,qz w.heap.size w w1→fZ w1 G S→Q1 w1 w2→Ch M w1 w2→qw qx 85 #[pV (G.K k).cb,ql ans,qk true] w2 fun e J=>e=qm (qj #[])∧Q J∧Ch M w2 J):
 qw qx 53 #[pV G.wb,ql (ConW.aG q m z c)] w fun e J=>e=qm (U Z 0)∧Q J:=by
 obtain⟨wA,p,hAl,hp,h1,hb,l1⟩:=aD w (qn (ConW.aG q m z c) 65);have HB:=Hd hb;have HX:=Hd h1;have HLP:=Hd l1;have fM:=Hd (h.grow hb);have FQ:qy (G.wb<w.heap.size):=Hd (qK h.head);have HAs:=Hd hA;have HHs:=Hd hH;have HRs:=Hd hR;have HK:=Hd hk;have HM:=Hd hM;have HQF:=Hd hqf;have q1:wA.cell? ⟨p,1,none⟩=some (U Z (k:Nat)):=by rw[qI h1,←zP];rfl
 clear h h1 hb l1 hA hH hR hk zP hqf hM;unfold ConW.aG at hAl;unfold ConW.aG;go_enter func53,ntmps53;go_wp2_with fail
 refine(ja k HK.o wA fM.o).mono ?_;rintro e _⟨rfl,rfl⟩;go_wp2_with fail
 refine(HAs.o wA HB.o fM.o).mono ?_;rintro e w2⟨rfl,hb2⟩;have az:=Hd (ai HB.o hb2);have aF:=Hd (ae hb2 HX.o);have Bc:=Hd (fM.o.grow hb2);clear hb2 hAl hp q1;obtain⟨wC,p2,hBl,hp2,h1,hb,l1⟩:=aD w2 (qn (bF 0 0 0 0 0 0 ⟨#[]⟩) 129);have HYC:=Hd h1;have hsr:qz w2.heap.size w2 (wC.setRow p2 (bF a0 a1 a2 a3 a4 a5 s)):=aj hb l1 _;obtain⟨wB,hwB⟩: ∃wB,wC.setRow p2 (bF a0 a1 a2 a3 a4 a5 s)=wB:=⟨_,rfl⟩;rw[hwB]at hsr;have cu:=Hd (ai az.o hsr);have jn:=Hd (ae hsr aF.o);have HY3:qy (wB.heap[p2]? =some (qn (bF a0 a1 a2 a3 a4 a5 s) 129 (0,0))):=Hd (by rw[←hwB];exact qJ _ _ _ _ _ _ h1)
 have pD:=Hd (Bc.o.grow hsr);have Gr:qy (w.heap.size≤p2):=Hd (qM az.o.size l1);clear h1 hb l1 hsr;go_wp2_with((refine qE rfl 129 (Operand.tmp 6) (Operand.tmp 17) rfl p2 (bF a0 a1 a2 a3 a4 a5 s) rfl rfl 129 _ HYC.o fC rfl (by simp[Value.oneCell']) ?_);rw[hwB])
 clear hBl hp2 hwB HYC
 have eO:qy (∀X,Ch M wB X→X.cell? ⟨G.wb,1,none⟩=some (pV G.N.h)∧X.cell? ⟨p,3,none⟩=some (U Z 0)∧X.heap[p2]? =some (qn (bF a0 a1 a2 a3 a4 a5 s) 129 (0,0))):=Hd fun X hX=>by
  have e1:=hX.heap pD.o.head (fun hm=>(HM.o _ hm).2 rfl);have e2:=hX.heap jn.o (fun hm=>by have:=(HM.o _ hm).1;have:=HLP.o;omega);have e3:=hX.heap HY3.o (fun hm=>by have:=(HM.o _ hm).1;have:=Gr.o;omega);exact⟨(aJ e1 1),by rw[qI e2,←HQF.o];rfl,e3⟩
 have au:qy (Ch M wB wB.drew):=Hd (Ch.refl _ _).drew;have HH0:qy (fZ wB.drew G S):=Hd (pD.o.ag (Ch.refl [] _).drew qc);have bu:qy (qz w.heap.size w wB.drew):=Hd ⟨cu.o.os,cu.o.tape,cu.o.output,cu.o.size,cu.o.block⟩;refine aB 12 12 (fun X=>Ch M wB X) qd rfl ?_;generalize wB.drew=W0 at au HH0 bu⊢;refine tN 0 21 ?_ au.o ?_ (tN 1 22 ?_ au.o ?_ (tN 2 23 ?_ au.o ?_ (tN 3 24 ?_ au.o ?_ (tN 4 25 ?_ au.o ?_ (tN 5 26 ?_ au.o ?_ (tN 6 27 ?_ au.o ?_ (tN 7 28 ?_ au.o ?_ ?_)))))))
 iterate 8
  rotate_left
  ·intro wq hq;obtain⟨z0,z1,hx⟩:=eO.o wq hq;obtain⟨y0,y1,y2,y3,y4,y5,y6,y7,y8⟩:=eX hx;exact bJ
 simp only[pS,aS,sZ,sS];refine ay 8 qd rfl rfl (al (some 29) (f:=86) (args:=#[pV G.N.h,ql (bF a0 a1 a2 a3 a4 a5 s),U Z 0]) rfl qf (fun v X=>v=qj #[ql ans,qk true]∧Q1 W0 X∧Ch M W0 X) ((HHs.o W0 bu.o HH0.o).mono fun e J ⟨h1,h2,h3⟩=>⟨_,h1,rfl,h2,h3⟩) ?_);rintro v w5⟨rfl,h5,h6⟩;have H5:=Hd h5;have H6:=Hd h6;have br:=Hd (au.o.aq h6);clear h5 h6;refine⟨fun _=>br.o,?_⟩;simp only[pS,aS,sZ,sS];refine tN 9 30 ?_ br.o ?_ (tN 10 31 ?_ br.o ?_ ?_)
 iterate 2
  rotate_left
  ·intro wq hq;exact bJ
 simp only[pS,aS,sZ,sS];refine ay 11 qd rfl rfl (al (some 32) (f:=85) (args:=#[pV (G.K k).cb,ql ans,qk true]) rfl qf (fun v X=>Q X∧Ch M w5 X) ((HRs.o W0 w5 bu.o HH0.o H5.o H6.o).mono fun e J ⟨h1,h2,h3⟩=>⟨_,h1,h2,h3⟩) ?_);rintro v w6⟨h5,h6⟩;have H7:=Hd h5;have dT:=Hd (br.o.aq h6);clear h5 h6;refine⟨fun _=>dT.o,?_⟩;simp only[pS,aS,sZ,sS];refine aU qd ?_;go_wp2_with fail
 go_ret;exact⟨rfl,H7.o⟩
theorem Mw(q:ConP.dK)(m c:qp)(z:Int)(hqn:q.n=500)(Hm:S.now=0)(w:qo)(h:fZ w G S):
 qw qx 56 #[pV G.wb,ql (ConW.aG q m z c)] w fun e J=>e=qm (U Z 0)∧fZ J G {S with now:=500}∧Ch [G.wb] w J:=by
 obtain⟨wA,p,hAl,hp,h1,hb,l1⟩:=aD w (qn (ConW.aG q m z c) 65);have HB:=Hd hb;have HX:=Hd h1;have fM:=Hd (h.grow hb);have q2:wA.cell? ⟨p,2,none⟩=some (U Z 500):=by rw[qI h1,←hqn];rfl
 have g4:=fM.o.cells.2.2.2.2;rw[Hm]at g4;clear h h1 hb l1 hqn;unfold ConW.aG at hAl;unfold ConW.aG;go_enter func56,ntmps56;go_wp2_with fail
 go_region
 have HD:qy (qz w.heap.size w wA.drew):=Hd ⟨HB.o.os,HB.o.tape,HB.o.output,HB.o.size,HB.o.block⟩;have ki:qy (fZ wA.drew G S):=Hd (fM.o.ag (Ch.refl [] _).drew qc);have Fw:qy (wA.drew.heap[p]? =some (qn (ConW.aG q m z c) 65 (0,0))):=Hd HX.o;have q2':wA.drew.cell? ⟨p,2,none⟩=some (U Z 500):=q2;have g4':wA.drew.cell? ⟨G.wb,4,none⟩=some (U Z 0):=g4;clear q2 g4 hAl hp;generalize wA.drew=W1 at HD ki Fw q2' g4'⊢;go_wp2_with fail
 have au:qy (Ch [] W1 W1.drew):=Hd (Ch.refl _ _).drew
 have eO:qy (∀X,Ch [] W1 X→X.cell? ⟨p,2,none⟩=some (U Z 500)∧X.cell? ⟨G.wb,4,none⟩=some (U Z 0)):=Hd fun X hX=>by
  have h1:=hX.heap Fw.o qc;exact⟨by rw[←q2',qI h1,qI Fw.o],by rw[←Hm];exact(ki.o.ag hX qc).cells.2.2.2.2⟩
 have Ro:qy (fZ W1.drew G S∧qz w.heap.size w W1.drew):=Hd ⟨ki.o.ag au.o qc,⟨HD.o.os,HD.o.tape,HD.o.output,HD.o.size,HD.o.block⟩⟩;refine aB 9 10 (fun X=>Ch [] W1 X) qd rfl ?_;generalize W1.drew=W0 at au Ro⊢;refine tL 0 23 ?_ au.o ?_ (tL 1 24 ?_ au.o ?_ (tL 2 25 ?_ au.o ?_ (tL 3 26 ?_ au.o ?_ (tL 4 27 ?_ au.o ?_ (tL 5 28 ?_ au.o ?_ (tL 6 29 ?_ au.o ?_ ?_))))))
 iterate 7
  rotate_left
  ·intro wq hq;obtain⟨z0,z1⟩:=eO.o wq hq;exact bJ
 simp only[pS,aS,sZ,sS];refine ay 7 qd rfl rfl (aw (some 30) (v:=pV G.wb) (J:=W0) rfl qf ⟨fun _=>au.o,?_⟩);simp only[pS,aS,sZ,sS];refine ay 8 qd rfl rfl (aw (some 31) (v:=qi (some ⟨G.wb,4,none⟩)) (J:=W0) rfl qf ⟨fun _=>au.o,?_⟩);simp only[pS,aS,sZ,sS];have y0:=(Ro.o.1).cells.2.2.2.2;have hw5:IntKind.i64.wrap 500=500:=qa;have yf:W0.frozen? ⟨G.wb,4,none⟩=false:=xx Ro.o.1.head _;refine ay 9 qd rfl rfl (bm none (J:=W0.setCell ⟨G.wb,4,none⟩ (U Z 500)) rfl qf ⟨fun h=>qZ rfl h,?_⟩);simp only[Act.put];refine aU qd ?_;have hc:Ch [G.wb] W0 (W0.setCell ⟨G.wb,4,none⟩ (U Z 500)):=Ch.dn Ro.o.1.head qa 4 _
 have HE:qy (fZ (W0.setCell ⟨G.wb,4,none⟩ (U Z 500)) G {S with now:=500}∧Ch [G.wb] w (W0.setCell ⟨G.wb,4,none⟩ (U Z 500))):=Hd (by
  have hh:=Ro.o.1;have nd:=xC.1 hh.nd;have ns: ∀x∈G.N.soft++(G.A.soft++G.C.soft),x∉[G.wb]:=fun x hx e=>nd.1 (by simp only[qS]at e;exact e▸hx);refine⟨⟨(av (i:=4) hh.head _).trans rfl,?_,?_,hh.nodes.ag hc (fun x hx=>ns x (by simp[hx])),hh.lay.ag hc,hh.a.ag hc (fun x hx=>ns x (by simp[hx])),hh.c.ag hc (fun x hx=>ns x (by simp[hx])),hh.nd⟩,Ch.pre Ro.o.2 hc⟩
  ·obtain⟨x,h1,h2⟩:=hh.oV;exact⟨x,hc.bC _ _ _ _ h1 qa,h2⟩
  ·obtain⟨x,h1,h2⟩:=hh.uh;exact⟨x,hc.bC _ _ _ _ h1 qa,h2⟩)
 clear hc y0 yf;go_wp2_with fail
 go_ret;exact⟨rfl,HE.o⟩
open OpP
variable{w1 w2:qo}{B k m:Nat}{t:iI}{r:Rec}
def kT:List qu:=[30,42,65]
theorem Vz{x:qu}(h:x∈kT):x∈kU:=by
 simp only[kT,qG,qQ,xt]at h;rcases h with rfl|rfl|rfl<;>decide
structure Kp(B:Nat)(w J:qo):Prop where
 os:J.os=w.os
 tape:J.tape=w.tape
 output:J.output=w.output
 size:w.heap.size≤J.heap.size
 low: ∀b,b<B→J.heap[b]? =w.heap[b]?
 bC: ∀(b:Nat) (cs:Array qp) (t:qu) (fr:Nat×Nat),w.heap[b]? =some (qn cs t fr)→t∈kT→J.heap[b]? =some (qn cs t fr)
theorem Kp.trans{x y:qo}(h:Kp B w x)(k:Kp B x y):Kp B w y:=
 ⟨k.os.trans h.os,k.tape.trans h.tape,k.output.trans h.output,qM h.size k.size,fun b hb=>(k.low b hb).trans (h.low b hb),fun b cs t fr e ht=>k.bC b cs t fr (h.bC b cs t fr e ht) ht⟩
theorem Kp.Ju(h:Ch M w J)(hM: ∀x∈M,B≤x)(hB:B≤w.heap.size):Kp B w J:=
 ⟨h.os,h.tape,h.output,h.size,fun b hb=>h.block b (xH hb hB) (fun hm=>by have:=hM _ hm;omega),fun b cs t fr e ht=>h.bC b cs t fr e (Vz ht)⟩
theorem Kp.af(h:qz w.heap.size w J)(hB:B≤w.heap.size):Kp B w J:=Kp.Ju (M:=[]) (Ch.af h) qc hB
theorem Kp.below(h:Kp B w J):qz B w J:=⟨h.os,h.tape,h.output,h.size,fun i hi=>h.low i hi⟩
def WS.set(S:WS)(k:Nat)(c:CS):WS:=if k=0 then{S with a:=c}else{S with c:=c}
theorem WS.aM{c:CS}:(S.set k c).s k=c:=by unfold WS.set WS.s;split<;>simp_all
theorem WS.set_set{c c':CS}:(S.set k c).set k c'=S.set k c':=by unfold WS.set;split<;>simp_all
theorem WS.fI{c:CS}:(S.set k c).t=S.t:=by unfold WS.set;split<;>rfl
theorem WS.EV{c:CS}:(S.set k c).k=S.k:=by unfold WS.set;split<;>rfl
theorem WS.kQ{c:CS}:(S.set k c).pg=S.pg:=by unfold WS.set;split<;>rfl
theorem WS.VA{c:CS}:(S.set k c).now=S.now:=by unfold WS.set;split<;>rfl
theorem WK.yS{x:Nat}(h:x∈G.N.soft):x∈G.soft:=by simp[WK.soft,h]
theorem WK.gY(k:Nat){x:Nat}(h:x∈(G.K k).soft):x∈G.soft:=by unfold WK.K at h;split at h<;>simp[WK.soft,h]
theorem fZ.ndN(h:fZ w G S)(k:Nat): ∀x∈(G.K k).soft,x∉G.N.soft:=fun x hx hn=>by
 have h1:=(List.nodup_append.1 (xC.1 h.nd).2).2.2 x hn;unfold WK.K at hx;split at hx
 ·exact h1 x (by simp[hx]) rfl
 ·exact h1 x (by simp[hx]) rfl
theorem fZ.ndA(h:fZ w G S): ∀x∈G.A.soft,x∉G.C.soft:=fun x hx hn=>
 (List.nodup_append.1 (List.nodup_append.1 (xC.1 h.nd).2).2.1).2.2 x hx x hn rfl
theorem fZ.ndw(h:fZ w G S):(∀x∈G.N.soft,x≠G.wb)∧(∀x∈G.A.soft,x≠G.wb)∧ ∀x∈G.C.soft,x≠G.wb:=by
 have h1:=(xC.1 h.nd).1;exact⟨fun x hx e=>h1 (by simp[←e,hx]),fun x hx e=>h1 (by simp[←e,hx]),fun x hx e=>h1 (by simp[←e,hx])⟩
theorem fZ.Mx(h:fZ w G S)(k:Nat): ∀x∈(G.K k).soft,x≠G.wb:=fun x hx=>by
 unfold WK.K at hx;split at hx
 ·exact h.ndw.2.1 x hx
 ·exact h.ndw.2.2 x hx
theorem fZ.lt(h:fZ w G S): ∀x∈G.soft,x<w.heap.size:=fun x hx=>by
 simp only[WK.soft,qG,xa]at hx;rcases hx with rfl|hx|hx|hx
 ·exact qK h.head
 ·exact h.nodes.lt x hx
 ·exact h.a.lt x hx
 ·exact h.c.lt x hx
theorem fZ.cl'{c:CS}(hk:k<2)(h:fZ w G S)(hc:bt J (G.K k) c)(g:Ch M w J)(hM: ∀x∈M,x∈G.soft→x∈(G.K k).soft):fZ J G (S.set k c):=by
 have Sj:G.wb∈G.soft:=by simp[WK.soft]
 have e1:=g.heap h.head (fun hm=>h.Mx k _ (hM _ hm Sj) rfl);have e2: ∃x,J.heap[G.gl]? =some (qn x 39 (0,0))∧x[0]? =some (pV G.A.cb)∧x[1]? =some (pV G.C.cb):=by obtain⟨x,h1,h2⟩:=h.oV;exact⟨x,g.bC _ _ _ _ h1 qa,h2⟩
 have e3: ∃x,J.heap[G.gr]? =some (qn x 3 (0,0))∧x[0]? =some (U Z S.r)∧x[1]? =some (U Z 0):=by obtain⟨x,h1,h2⟩:=h.uh;exact⟨x,g.bC _ _ _ _ h1 qa,h2⟩
 have e4:jX J G.N S.t S.k S.pg:=h.nodes.ag g (fun x hx hm=>h.ndN k x (hM x hm (WK.yS hx)) hx);have e5:=h.lay.ag g;have hA: ∀x∈G.A.soft,x∈G.soft:=fun x hx=>by simp[WK.soft,hx]
 have hC: ∀x∈G.C.soft,x∈G.soft:=fun x hx=>by simp[WK.soft,hx]
 unfold WK.K at hc hM;unfold WS.set;split
 ·rename_i h0;rw[qH h0]at hc hM;exact⟨e1,e2,e3,e4,e5,hc,h.c.ag g (fun x hx hm=>h.ndA x (hM x hm (hC x hx)) hx),h.nd⟩
 ·rename_i h0;rw[qB h0]at hc hM;exact⟨e1,e2,e3,e4,e5,h.a.ag g (fun x hx hm=>h.ndA x hx (hM x hm (hA x hx))),hc,h.nd⟩
theorem fZ.cl{c:CS}(hk:k<2)(h:fZ w G S)(hc:bt J (G.K k) c)(g:Ch (G.K k).soft w J):fZ J G (S.set k c):=h.cl' hk hc g (fun _ h _=>h)
theorem fZ.no{t':Int}{n':Nat}{pg':Nat→Int→Option ByteArray}(h:fZ w G S)(hn:jX J G.N t' n' pg')(g:Ch G.N.soft w J):fZ J G {S with t:=t',k:=n',pg:=pg'} where
 head:=g.heap h.head (fun hm=>h.ndw.1 _ hm rfl)
 oV:=by obtain⟨x,h1,h2⟩:=h.oV;exact⟨x,g.bC _ _ _ _ h1 qa,h2⟩
 uh:=by obtain⟨x,h1,h2⟩:=h.uh;exact⟨x,g.bC _ _ _ _ h1 qa,h2⟩
 nodes:=hn
 lay:=h.lay.ag g
 a:=h.a.ag g (fun x hx hm=>h.ndN 0 x (by simpa [WK.K]using hx) hm)
 c:=h.c.ag g (fun x hx hm=>h.ndN 1 x (by simpa [WK.K]using hx) hm)
 nd:=h.nd
structure Sy(B:Nat)(w:qo)(G:WK)(S:WS):Prop where
 wi:fZ w G S
 fl:Fl w
 ge: ∀x∈G.soft,B≤x
 b0:10≤B
 le:B≤w.heap.size
 lr:B≤G.gl∧B≤G.gr
theorem Sy.grow(h:Sy B w G S)(k:qz w.heap.size w J):Sy B J G S:=⟨h.wi.grow k,h.fl.ag k,h.ge,h.b0,qM h.le k.size,h.lr⟩
theorem Sy.ag(h:Sy B w G S)(k:Ch M w J)(hn: ∀x∈G.soft,x∉M)(hM: ∀x∈M,B≤x):Sy B J G S:=
 ⟨h.wi.ag k hn,mD h.fl k (fun x hx=>qM h.b0 (hM x hx)),h.ge,h.b0,qM h.le k.size,h.lr⟩
theorem Sy.cl'{c:CS}(hk:k<2)(h:Sy B w G S)(hc:bt J (G.K k) c)(g:Ch M w J)(hM: ∀x∈M,(x∈G.soft→x∈(G.K k).soft)∧B≤x):Sy B J G (S.set k c):=
 ⟨h.wi.cl' hk hc g (fun x hx=>(hM x hx).1),mD h.fl g (fun x hx=>qM h.b0 (hM x hx).2),h.ge,h.b0,qM h.le g.size,h.lr⟩
theorem Sy.cl{c:CS}(hk:k<2)(h:Sy B w G S)(hc:bt J (G.K k) c)(g:Ch (G.K k).soft w J):Sy B J G (S.set k c):=
 ⟨h.wi.cl hk hc g,mD h.fl g (fun x hx=>qM h.b0 (h.ge x (WK.gY k hx))),h.ge,h.b0,qM h.le g.size,h.lr⟩
theorem Sy.no{t':Int}{n':Nat}{pg':Nat→Int→Option ByteArray}(h:Sy B w G S)(hn:jX J G.N t' n' pg')(g:Ch G.N.soft w J):Sy B J G {S with t:=t',k:=n',pg:=pg'}:=
 ⟨h.wi.no hn g,mD h.fl g (fun x hx=>qM h.b0 (h.ge x (WK.yS hx))),h.ge,h.b0,qM h.le g.size,h.lr⟩
theorem Sy.k10(h:Sy B w G S)(k:Nat): ∀x∈(G.K k).soft,10≤x:=fun x hx=>qM h.b0 (h.ge x (WK.gY k hx))
theorem Sy.Wn(h:Sy B w G S)(k:Nat): ∀x∈(G.K k).B.soft,10≤x:=fun x hx=>h.k10 k x (Jj hx)
structure Dn where
 rc:Int
 rh:Int
 rd:ByteArray
def goQ(k:Nat):ConP.dK:=⟨2,(k:Nat),0,0,ConP.jN 0 0⟩
def goS(k:Nat):qp:=ql (ConW.aG (goQ k) (qh none 0 0) 0 (qh none 0 0))
def jb(B wb k:Nat)(d:Dn)(Q:qo→Prop):Nat→qo→Prop
 |0,w=> ∀w1,qz w.heap.size w w1→(qw qx 26 #[pV wb,U Z (k:Nat)] w1 fun e J=>e=qm (qj #[ql (bz d.rc d.rh d.rd),qk true])∧qz w1.heap.size w1 J)∧Q w1
 |m+1,w=> ∀w1,qz w.heap.size w w1→(qw qx 26 #[pV wb,U Z (k:Nat)] w1 fun e J=>e=qm (qj #[ql (bz 0 0 ⟨#[]⟩),qk false])∧qz w1.heap.size w1 J)∧
  qw qx 20 #[pV wb,goS k] w1 fun e J=>e=qm (U Z 0)∧Kp B w1 J∧jb B wb k d Q m J
theorem jb.grow{wb:Nat}{d:Dn}{Q:qo→Prop}: ∀{m:Nat} {w J:qo},jb B wb k d Q m w→qz w.heap.size w J→jb B wb k d Q m J
 |0,_,_,h,g=>fun w1 h1=>h w1 (ai g h1)
 |m+1,_,_,h,g=>fun w1 h1=>h w1 (ai g h1)
def VB(w:qo)(K:CK):Prop:= ∃c',bt w K c'∧Idle w c'.cur
theorem Idle.grow{v:qp}(h:Idle w v)(k:qz w.heap.size w J):Idle J v:=by
 have k':Ch [] w J:=Ch.af k;rcases h with h|⟨ab,rec,a,i,ad,ph,h1,h2,h3⟩|⟨ab,a,fi,at',kd,s,h1,h2,h3⟩|⟨ab,at',a,h1,h2,h3⟩
 ·exact .inl h
 ·exact .inr (.inl ⟨ab,rec,a,i,ad,ph,h1,h2,h3.ag k' qc⟩)
 ·exact .inr (.inr (.inl ⟨ab,a,fi,at',kd,s,h1,h2,h3.ag k' qc⟩))
 ·exact .inr (.inr (.inr ⟨ab,at',a,h1,h2,h3.ag k' qc⟩))
theorem VB.grow{K:CK}(h:VB w K)(k:qz w.heap.size w J):VB J K:=by
 obtain⟨c,h1,h2⟩:=h;exact⟨c,h1.grow k,h2.grow k⟩
def oK(B:Nat)(G:WK)(k:Nat)(d:Dn)(Q:qo→Prop)(m:Nat)(w:qo):Prop:=VB w (G.K k)∧jb B G.wb k d Q m w
theorem oK.grow{d:Dn}{Q:qo→Prop}(h:oK B G k d Q m w)(g:qz w.heap.size w J):oK B G k d Q m J:=⟨h.1.grow g,h.2.grow g⟩
theorem lB{d:Dn}{Q:qo→Prop}(hk:k<2)(h:Sy B w G S)(ho:(S.s k).over=false)(ain:VB w (G.K k))(a0 a1 a2 a3 a4 a5:Int)(s:ByteArray)(ans:Array qp)(hM: ∀x∈M,x<w.heap.size∧x≠G.wb∧B≤x)(Q1:qo→qo→Prop)
 (hA: ∀w1,qz w.heap.size w w1→Sy B w1 G S→qw qx 84 #[pV (G.K k).cb] w1 fun e J=>e=qm (qj #[ql (bF a0 a1 a2 a3 a4 a5 s),qk true])∧qz w1.heap.size w1 J)
 (hH: ∀w1,qz w.heap.size w w1→Sy B w1 G S→qw qx 86 #[pV G.N.h,ql (bF a0 a1 a2 a3 a4 a5 s),U Z 0] w1 fun e J=>e=qm (qj #[ql ans,qk true])∧Q1 w1 J∧Ch M w1 J)
 (hR: ∀w1 w2,qz w.heap.size w w1→Sy B w1 G S→Q1 w1 w2→Ch M w1 w2→qw qx 85 #[pV (G.K k).cb,ql ans,qk true] w2 fun e J=>e=qm (qj #[])∧jb B G.wb k d Q m J∧Ch M w2 J):
 oK B G k d Q (m+1) w:=by
 refine⟨ain,fun w1 hb=>⟨Rz k hk w1 (h.wi.grow hb) ho,?_⟩⟩;refine vD (goQ k) (qh none 0 0) (qh none 0 0) 0 2 rfl (.inr (.inl rfl)) w1 (h.wi.grow hb) 0 (fun J=>Kp B w1 J∧jb B G.wb k d Q m J) (fun w2 hb2 hw2=>?_);have hs:w.heap.size≤w2.heap.size:=qM hb.size hb2.size;refine Mu (M:=M) (goQ k) (qh none 0 0) (qh none 0 0) 0 k rfl rfl hk w2 hw2 a0 a1 a2 a3 a4 a5 s ans (fun x hx=>⟨xH (hM x hx).1 hs,(hM x hx).2.1⟩) Q1 (fun J=>Kp B w1 J∧jb B G.wb k d Q m J) ?_ ?_ ?_
 ·intro w3 hb3 _;have hb':=ai hb (ai hb2 hb3);exact hA w3 hb' (h.grow hb')
 ·intro w3 hb3 _;have hb':=ai hb (ai hb2 hb3);exact hH w3 hb' (h.grow hb')
 ·intro w3 w4 hb3 _ hq hc;have hb':=ai hb (ai hb2 hb3);refine(hR w3 w4 hb' (h.grow hb') hq hc).mono ?_;rintro e w5⟨h1,h2,h3⟩;have hk1:Kp B w1 w3:=Kp.af (ai hb2 hb3) (h.grow hb).le;have hk2:Kp B w3 w5:=Kp.Ju (hc.aq h3) (fun x hx=>(hM x hx).2.2) (h.grow hb').le;exact⟨h1,⟨hk1.trans hk2,h2⟩,h3⟩
theorem lC{d:Dn}{Q:qo→Prop}(hk:k<2)(h:Sy B w G S)(ho:(S.s k).over=true)(hcur:(S.s k).cur= .nilIface)(hd:d=⟨(S.s k).rc,(S.s k).rh,(S.s k).rd⟩)(hQ: ∀w1,Sy B w1 G S→Q w1):oK B G k d Q 0 w:=by
 refine⟨⟨S.s k,h.wi.k k,.inl hcur⟩,fun w1 hb=>⟨?_,hQ w1 (h.grow hb)⟩⟩;rw[hd];exact Mq k hk w1 (h.wi.grow hb) ho
end TopW
namespace TopW
open Go.RowKit OpW
open OpP (Rec)
variable{w J w1 w2 wm:qo}{M:List Nat}{G:WK}{S:WS}{B k m ab fb:Nat}{t tt:iI}{r:Rec}{at' i a n v:Int}{ph:Bool}{d:Dn}{Q:qo→Prop}{K:CK}{th:qp}{c:CS}
structure lD(R:Nat→Rec)(n:Nat)(pg:Nat→Int→Option ByteArray):Prop where
 has: ∀j,j<n→ ∀i,i<2→pg (2*(j%2)+i) ((j/ 2:Nat):Int)=some (OpW.encS (R j))
 free: ∀j,n≤j→ ∀i,i<2→pg (2*(j%2)+i) ((j/ 2:Nat):Int)=none
theorem sM(pg:Nat→Int→Option ByteArray)(u:Nat)(p:Int)(s:ByteArray)(j:Nat)(z:Int):mg pg u p s j z=if j=u∧z=p then some s else pg j z:=by
 unfold mg;by_cases e:j=u
 ·subst e;by_cases e2:z=p
  ·rw[qH rfl,qH e2,qH ⟨rfl,e2⟩]
  ·rw[qH rfl,qB e2,qB (fun h=>e2 h.2)]
 ·rw[qB e,qB (fun h=>e h.1)]
theorem lD.add{R:Nat→Rec}{n:Nat}{pg:Nat→Int→Option ByteArray}(h:lD R n pg):
 lD R (n+1) (mg (mg pg (2*(n%2)+0) ((n/ 2:Nat):Int) (OpW.encS (R n))) (2*(n%2)+1) ((n/ 2:Nat):Int) (OpW.encS (R n))):=by
 constructor
 ·intro j hj i hi;rw[sM,sM];by_cases e:j=n
  ·subst e;by_cases hi0:i=0
   ·subst hi0;rw[qB Y,qH ⟨rfl,rfl⟩]
   ·obtain rfl:i=1:=by omega
    rw[qH ⟨rfl,rfl⟩]
  ·rw[qB Y,qB Y];exact h.has j Y i hi
 ·intro j hj i hi;rw[sM,sM,qB Y,qB Y];exact h.free j Y i hi
theorem lD.one{R:Nat→Rec}{n:Nat}{pg:Nat→Int→Option ByteArray}(h:lD R n pg):mg pg (2*(n%2)+0) ((n/ 2:Nat):Int) (OpW.encS (R n)) (2*(n%2)+1) ((n/ 2:Nat):Int)=none:=by
 rw[sM,qB Y];exact h.free n (Nat.le_refl _) 1 qa
theorem tm(n:Nat):((n:Nat):Int).tmod 2=((n%2:Nat):Int):=by rw[Int.tmod_eq_emod_of_nonneg Y];omega
theorem td(n:Nat):((n:Nat):Int).tdiv 2=((n/ 2:Nat):Int):=by rw[Int.tdiv_eq_ediv_of_nonneg Y];omega
structure VC(w:qo)(K:CK)(th:qp)(r:Rec)(t:iI):Prop where
 ex: ∃p q p1 p2 p3,th= .func (.func 310) #[] #[pV p,pV q]∧Bx w p 39 (pV K.cb)∧Bx w q 146 (ZP p1 p2 p3).v∧Bx w p1 39 (pV K.cb)∧LU w p2 r∧Bx w p3 281 t.v
 own: ∃q,t.cap=#[pV q]∧Bx w q 39 (pV K.cb)
theorem VC.ag(h:VC w K th r t)(g:Ch M w J):VC J K th r t:=by
 obtain⟨p,q,p1,p2,p3,h0,h1,h2,h3,h4,h5⟩:=h.ex;obtain⟨z,e0,e1⟩:=h.own;exact⟨⟨p,q,p1,p2,p3,h0,h1.ag g qa,h2.ag g qa,h3.ag g qa,h4.ag g,h5.ag g qa⟩,z,e0,e1.ag g qa⟩
structure VD(w:qo)(K:CK)(p1 p2 p3:Nat)(r:Rec)(t:iI):Prop where
 a:Bx w p1 39 (pV K.cb)
 b:LU w p2 r
 c:Bx w p3 281 t.v
 own: ∃q,t.cap=#[pV q]∧Bx w q 39 (pV K.cb)
theorem VD.ag{p1 p2 p3:Nat}(h:VD w K p1 p2 p3 r t)(g:Ch M w J):VD J K p1 p2 p3 r t:=⟨h.a.ag g qa,h.b.ag g,h.c.ag g qa,by obtain⟨z,e0,e1⟩:=h.own;exact⟨z,e0,e1.ag g qa⟩⟩
structure ui(B:Nat)(w:qo)(G:WK)(S:WS)(k ab:Nat)(at' i a:Int)(ph:Bool)(r:Rec)(t:iI):Prop where
 sy:Sy B w G S
 cur:(S.s k).cur= .iface gk (pV ab)
 x:VC w (G.K k) (S.s k).th r t
 ap:ij w ab (OpW.encS r) at' i a ph
 fO:ab∉G.soft∧B≤ab
 over:(S.s k).over=false
theorem ui.Sv(h:ui B w G S k ab at' i a ph r t)(ha:at'≠5):VB w (G.K k):=⟨_,h.sy.wi.k k,.inr (.inl ⟨ab,_,at',i,a,ph,ha,h.cur,h.ap⟩)⟩
theorem ui.ne(h:ui B w G S k ab at' i a ph r t):ab≠G.wb:=fun e=>h.fO.1 (by rw[e];simp[WK.soft])
theorem ui.mm(h:ui B w G S k ab at' i a ph r t): ∀x∈ab::G.N.soft,x<w.heap.size∧x≠G.wb∧B≤x:=fun x hx=>by
 rcases qG.1 hx with rfl|hx
 ·exact⟨h.ap.lt,h.ne,h.fO.2⟩
 ·exact⟨h.sy.wi.lt x (WK.yS hx),h.sy.wi.ndw.1 x hx,h.sy.ge x (WK.yS hx)⟩
theorem RA(hk:k<2)(h:ui B w G S k ab 2 0 0 false r t)(ht:0≤S.t∧S.t<16384)(HC: ∀J,ui B J G {S with t:=S.t+1} k ab 3 0 S.t false r t→jb B G.wb k d Q m J):oK B G k d Q (m+1) w:=by
 refine lB (M:=ab::G.N.soft) hk h.sy h.over (h.Sv qa) 6 0 0 0 0 0 ⟨#[]⟩ (nM S.t) h.mm (fun w1 w2=>jX w2 G.N (S.t+1) S.k S.pg∧Ch G.N.soft w1 w2) ?_ ?_ ?_
 ·intro w1 hb hs;exact lA gk ab 534 6 0 0 0 0 0 ⟨#[]⟩ h.cur Cl (fun _ _=>rfl) w1 (hs.wi.k k) (fun w2 hb2=>Up ab (OpW.encS r) false w2 (h.ap.ag (M:=[]) (Ch.af (ai hb hb2)) qc))
 ·intro w1 hb hs;exact(Lo ht 0 0 0 ⟨#[]⟩ w1 hs.wi.nodes).mono fun e J ⟨h1,h2,h3⟩=>⟨h1,⟨h2,h3⟩,h3.mono (fun x hx=>qV _ hx)⟩
 ·intro w1 w2 hb hs⟨hn,hc⟩_;have hs2:=hs.no hn hc;have MT:ij w2 ab (OpW.encS r) 2 0 0 false:=h.ap.ag (Ch.pre hb hc) (fun hm=>h.fO.1 (WK.yS hm));refine jE gk ab 535 S.t ⟨#[]⟩ h.cur yJ (fun _ _=>rfl) w2 (fun J=>jb B G.wb k d Q m J∧Ch (ab::G.N.soft) w2 J) (fun J=>ij J ab (OpW.encS r) 3 0 S.t false) (hs2.wi.k k) (fun hm=>h.fO.1 (WK.gY k hm)) MT.lt ?_ ?_
  ·intro w3 hb3;exact(Qf ab (OpW.encS r) S.t ht w3 (MT.ag (M:=[]) (Ch.af hb3) qc)).mono fun e J ⟨h1,h2,h3⟩=>⟨h1,h2,h3⟩
  ·intro w3 hr uJ hc3;refine(kO ab (OpW.encS r) 3 0 S.t false qa h.cur w3 uJ hr).mono ?_;rintro e w4⟨h1,hb4⟩;have c4:Ch [ab] w2 w4:=hc3.step hb4;have hs4:=hs2.ag c4 (fun x hx hm=>h.fO.1 (by simp only[qS]at hm;exact hm▸hx)) (fun x hx=>by simp only[qS]at hx;rw[hx];exact h.fO.2);have call:Ch (ab::G.N.soft) w w4:=(Ch.pre hb (hc.mono (fun x hx=>qV _ hx))).aq (c4.mono (fun x hx=>by simp only[qS]at hx;simp[hx]));exact⟨h1,HC w4 ⟨hs4,h.cur,h.x.ag call,hr.ag (M:=[]) (Ch.af hb4) qc,h.fO,h.over⟩,c4.mono (fun x hx=>by simp only[qS]at hx;simp[hx])⟩
theorem RB(hk:k<2)(n:Nat)(hn:n<16384/ 4)(h:ui B w G S k ab 3 0 (n:Nat) false r t)(lE:(OpW.encS r).size≤4096)(ML:S.k<3000)(hpg:S.pg (2*(n%2)+0) ((n/ 2:Nat):Int)=none)
 (HC: ∀J,ui B J G {S with k:=S.k+1,pg:=mg S.pg (2*(n%2)+0) ((n/ 2:Nat):Int) (OpW.encS r)} k ab 3 1 (n:Nat) true r t→jb B G.wb k d Q m J):oK B G k d Q (m+1) w:=by
 have ha:(0:Int)≤(n:Nat)∧((n:Nat):Int)<16384:=Y;refine lB (M:=ab::G.N.soft) hk h.sy h.over (h.Sv qa) 1 ((2*(n%2)+0:Nat):Int) 0 ((n/ 2:Nat):Int) 0 0 (OpW.encS r) bG h.mm (fun w1 w2=>jX w2 G.N S.t (S.k+1) (mg S.pg (2*(n%2)+0) ((n/ 2:Nat):Int) (OpW.encS r))∧Ch G.N.soft w1 w2) ?_ ?_ ?_
 ·intro w1 hb hs;exact lA gk ab 534 1 _ 0 _ 0 0 (OpW.encS r) h.cur Cl (fun _ _=>rfl) w1 (hs.wi.k k) (fun w2 hb2=>IP ab (OpW.encS r) false 0 qa (n:Nat) _ (n%2) Y ha (tm n) (td n) _ rfl w2 (h.ap.ag (M:=[]) (Ch.af (ai hb hb2)) qc))
 ·intro w1 hb hs;exact(yr (2*(n%2)+0) Y _ Y (OpW.encS r) lE ML hpg 0 0 w1 hs.wi.nodes).mono fun e J ⟨h1,h2,h3⟩=>⟨h1,⟨h2,h3⟩,h3.mono (fun x hx=>qV _ hx)⟩
 ·intro w1 w2 hb hs⟨hn,hc⟩_;have hs2:=hs.no hn hc;have MT:ij w2 ab (OpW.encS r) 3 ((0:Nat):Int) (n:Nat) false:=h.ap.ag (Ch.pre hb hc) (fun hm=>h.fO.1 (WK.yS hm));refine jE gk ab 535 0 ⟨#[]⟩ h.cur yJ (fun _ _=>rfl) w2 (fun J=>jb B G.wb k d Q m J∧Ch (ab::G.N.soft) w2 J) (fun J=>ij J ab (OpW.encS r) 3 1 (n:Nat) true) (hs2.wi.k k) (fun hm=>h.fO.1 (WK.gY k hm)) MT.lt ?_ ?_
  ·intro w3 hb3;exact(Ej ab (OpW.encS r) false 0 qa 3 1 ⟨fun _=>⟨rfl,rfl⟩,fun h=>qZ h qa⟩ (n:Nat) _ (n%2) Y ha (tm n) (td n) w3 (MT.ag (M:=[]) (Ch.af hb3) qc)).mono fun e J ⟨h1,h2,h3⟩=>⟨h1,h2,h3⟩
  ·intro w3 hr uJ hc3;refine(kO ab (OpW.encS r) 3 1 (n:Nat) true qa h.cur w3 uJ hr).mono ?_;rintro e w4⟨h1,hb4⟩;have c4:Ch [ab] w2 w4:=hc3.step hb4;have hs4:=hs2.ag c4 (fun x hx hm=>h.fO.1 (by simp only[qS]at hm;exact hm▸hx)) (fun x hx=>by simp only[qS]at hx;rw[hx];exact h.fO.2);have call:Ch (ab::G.N.soft) w w4:=(Ch.pre hb (hc.mono (fun x hx=>qV _ hx))).aq (c4.mono (fun x hx=>by simp only[qS]at hx;simp[hx]));exact⟨h1,HC w4 ⟨hs4,h.cur,h.x.ag call,hr.ag (M:=[]) (Ch.af hb4) qc,h.fO,h.over⟩,c4.mono (fun x hx=>by simp only[qS]at hx;simp[hx])⟩
structure VE(w:qo)(K:CK)(th:qp)(n v:Int)(tt:iI):Prop where
 ex: ∃p1 p2 p3 p4,th= .func (.func 247) #[] #[pV p1,pV p2,pV p3,pV p4]∧Bx w p1 39 (pV K.cb)∧Bx w p2 3 (U Z n)∧Bx w p3 1 tt.v∧Bx w p4 3 (U Z v)
theorem VE.ag(h:VE w K th n v tt)(g:Ch M w J):VE J K th n v tt:=by
 obtain⟨p1,p2,p3,p4,h0,h1,h2,h3,h4⟩:=h.ex;exact⟨p1,p2,p3,p4,h0,h1.ag g qa,h2.ag g qa,h3.ag g qa,h4.ag g qa⟩
structure zQ(B:Nat)(w:qo)(G:WK)(S:WS)(k fb:Nat)(n:Int)(tt:iI):Prop where
 sy:Sy B w G S
 cur:(S.s k).cur= .iface gm (pV fb)
 x:VE w (G.K k) (S.s k).th n (S.s k).V.n tt
 fe:jt w fb (S.s k).V.n true 2 0 ⟨#[]⟩
 fO:fb∉G.soft∧B≤fb
 over:(S.s k).over=false
 lt:(S.s k).V.n<n
theorem zQ.Sv(h:zQ B w G S k fb n tt):VB w (G.K k):=⟨_,h.sy.wi.k k,.inr (.inr (.inl ⟨fb,_,_,_,_,_,qa,h.cur,h.fe⟩))⟩
theorem zQ.mm(h:zQ B w G S k fb n tt): ∀x∈fb::(G.K k).soft,x<w.heap.size∧x≠G.wb∧B≤x:=fun x hx=>by
 rcases qG.1 hx with rfl|hx
 ·exact⟨h.fe.lt,fun e=>h.fO.1 (by rw[e];simp[WK.soft]),h.fO.2⟩
 ·exact⟨h.sy.wi.lt x (WK.gY k hx),h.sy.wi.Mx k x hx,h.sy.ge x (WK.gY k hx)⟩
theorem Hn(hk:k<2)(h:Sy B w G S)(g:Ch (G.K k).soft w wm)(hw:aeb wm J (G.K k) c n tt)(ho:c.over=false)(aN:c.V.n<n):
 ∃X Yq fb,zQ B J G (S.set k {c with cur:=X,th:=Yq}) k fb n tt∧Ch (G.K k).soft w J:=by
 obtain⟨fb,p1,p2,p3,p4,h0,h1,h2,h3,h4,h5,h6⟩:=hw.ex;have hc:Ch (G.K k).soft w J:=g.aq (hw.ch.mono bQ);have hs:=h.cl hk h0 hc;have hl:=g.size;refine⟨_,_,fb,⟨hs,by rw[WS.aM],?_,?_,?_,?_,?_⟩,hc⟩
 ·rw[WS.aM];exact⟨p1,p2,p3,p4,rfl,h2,h3,h4,h5⟩
 ·rw[WS.aM];exact h1
 ·exact⟨fun hm=>by have:=h.wi.lt fb hm;omega,by have:=h.le;omega⟩
 ·rw[WS.aM];exact ho
 ·rw[WS.aM];exact aN
theorem Sy.sN(h:Sy B w G S){x:Nat}(hx:x∉G.soft): ∀y∈G.soft,y∉[x]:=fun y hy hm=>hx (by simp only[qS]at hm;exact hm▸hy)
theorem cW{f:FuncId}{args:Array qp}{R R':Ending→qo→Prop}(k: ∀e J,R e J→R' e J)(h:qw qx f args w R):qw qx f args w R':=h.mono k
theorem eN.imp{args:Array qp}{Q':qo→Prop}(h:eN t args w Q)(hq: ∀J,Q J→Q' J):eN t args w Q':=cW (fun e J ⟨h1,h2⟩=>⟨h1,hq J h2⟩) h
theorem aeC(p q:Nat):(⟨310,#[pV p,pV q]⟩:iI).ok:=fun _ _=>rfl
theorem aeD(p q s u:Nat):(⟨247,#[pV p,pV q,pV s,pV u]⟩:iI).ok:=fun _ _=>rfl
theorem RC(hk:k<2)(n:Nat)(hn:n<4000)(h:ui B w G S k ab 3 1 (n:Nat) true r t)(lE:(OpW.encS r).size≤4096)(ML:S.k<3000)(hpg:S.pg (2*(n%2)+1) ((n/ 2:Nat):Int)=none)(hV:0≤(S.s k).V.n∧(S.s k).V.n≤(n:Nat))
 (HC: ∀J X Yq fb p1 p2 p3,zQ B J G (WS.set {S with k:=S.k+1,pg:=mg S.pg (2*(n%2)+1) ((n/ 2:Nat):Int) (OpW.encS r)} k {S.s k with app:=true,cur:=X,th:=Yq}) k fb ((n+1:Nat):Int) (ZQ p1 p2 p3)→VD J (G.K k) p1 p2 p3 r t→oK B G k d Q m J):oK B G k d Q (m+1) w:=by
 have ha:(0:Int)≤(n:Nat)∧((n:Nat):Int)<16384:=Y;refine lB (M:=ab::(G.N.soft++(G.K k).soft)) hk h.sy h.over (h.Sv qa) 1 ((2*(n%2)+1:Nat):Int) 0 ((n/ 2:Nat):Int) 0 0 (OpW.encS r) bG ?_ (fun w1 w2=>jX w2 G.N S.t (S.k+1) (mg S.pg (2*(n%2)+1) ((n/ 2:Nat):Int) (OpW.encS r))∧Ch G.N.soft w1 w2) ?_ ?_ ?_
 ·intro x hx;rcases qG.1 hx with rfl|hx
  ·exact h.mm x (xh ..)
  ·rcases xa.1 hx with hx|hx
   ·exact h.mm x (qV _ hx)
   ·exact⟨h.sy.wi.lt x (WK.gY k hx),h.sy.wi.Mx k x hx,h.sy.ge x (WK.gY k hx)⟩
 ·intro w1 hb hs;exact lA gk ab 534 1 _ 0 _ 0 0 (OpW.encS r) h.cur Cl (fun _ _=>rfl) w1 (hs.wi.k k) (fun w2 hb2=>IP ab (OpW.encS r) true 1 qa (n:Nat) _ (n%2) Y ha (tm n) (td n) _ rfl w2 (h.ap.ag (M:=[]) (Ch.af (ai hb hb2)) qc))
 ·intro w1 hb hs;exact(yr (2*(n%2)+1) Y _ Y (OpW.encS r) lE ML hpg 0 0 w1 hs.wi.nodes).mono fun e J ⟨h1,h2,h3⟩=>⟨h1,⟨h2,h3⟩,h3.mono (fun x hx=>by simp[hx])⟩
 ·intro w1 w2 hb hs⟨Iq,hc⟩_;have hs2:=hs.no Iq hc;have MT:ij w2 ab (OpW.encS r) 3 ((1:Nat):Int) (n:Nat) true:=h.ap.ag (Ch.pre hb hc) (fun hm=>h.fO.1 (WK.yS hm));refine jE gk ab 535 0 ⟨#[]⟩ h.cur yJ (fun _ _=>rfl) w2 (fun J=>jb B G.wb k d Q m J∧Ch (ab::(G.N.soft++(G.K k).soft)) w2 J) (fun J=>ij J ab (OpW.encS r) 5 2 (n:Nat) true) (hs2.wi.k k) (fun hm=>h.fO.1 (WK.gY k hm)) MT.lt ?_ ?_
  ·intro w3 hb3;exact(Ej ab (OpW.encS r) true 1 qa 5 2 ⟨fun h=>qZ h qa,fun _=>⟨rfl,rfl⟩⟩ (n:Nat) _ (n%2) Y ha (tm n) (td n) w3 (MT.ag (M:=[]) (Ch.af hb3) qc)).mono fun e J ⟨h1,h2,h3⟩=>⟨h1,h2,h3⟩
  ·intro w3 hr uJ hc3;have hX:=h.x.ag (Ch.pre hb hc);obtain⟨p,q,p1,p2,p3,Fv,x1,x2,x3,x4,x5⟩:=hX.ex;obtain⟨z0,z1,z2⟩:=hX.own;have hs3:=hs2.ag hc3 (h.sy.sN h.fO.1) (fun x hx=>by simp only[qS]at hx;rw[hx];exact h.fO.2);refine cW ?_ (zL ⟨310,#[pV p,pV q]⟩ (aeC p q) Fv ab (OpW.encS r) 2 (n:Nat) true h.cur w3 (fun J=>oK B G k d Q m J∧Ch (G.K k).soft w3 J) uJ hr ?_ ?_ ?_)
   ·rintro e w4⟨h1,h2,h3⟩;exact⟨h1,h2.2,(hc3.mono (fun x hx=>by simp only[qS]at hx;simp[hx])).aq (h3.mono (fun x hx=>by simp[hx]))⟩
   ·intro w4 hc4 dy;unfold eN;have g4:=hc3.aq (Ch.mono (M':=[ab]) (Ch.refl [] w3) qc);refine Cg (n:Nat) (ZP p1 p2 p3) (ZR _ _ _) p q w4 _ hc4 ((x1.ag hc3 qa).ag dy qa) ((x2.ag hc3 qa).ag dy qa) ?_;intro w5 hc5 fT;have hs5:Sy B w5 G (WS.set {S with k:=S.k+1,pg:=mg S.pg (2*(n%2)+1) ((n/ 2:Nat):Int) (OpW.encS r)} k {S.s k with app:=true,cur:= .nilIface}):=hs3.cl hk hc5 ((dy.aq fT).mono bQ);refine(Ci (c:={S.s k with app:=true,cur:= .nilIface}) (n:Nat) r p1 p2 p3 ⟨hV.1,by show(S.s k).V.n≤_;omega,Y⟩ w5 (fun _=>False) hc5 (((x3.ag hc3 qa).ag dy qa).ag fT qa) ?_).imp ?_
    ·intro e;exfalso
     have e':(S.s k).V.n=((n:Nat):Int)+1:=e;omega
    ·intro w6 hcr;rcases hcr with⟨_,hf⟩|⟨aN,hw⟩
     ·exact hf.elim
     ·have e1:((n:Nat):Int)+1=((n+1:Nat):Int):=by omega
      rw[e1]at hw aN;obtain⟨X,Yq,fb,hp,Ct⟩:=Hn (S:=WS.set {S with k:=S.k+1,pg:=mg S.pg (2*(n%2)+1) ((n/ 2:Nat):Int) (OpW.encS r)} k {S.s k with app:=true,cur:= .nilIface}) hk hs5 (Ch.refl _ _) hw h.over aN;rw[WS.set_set]at hp;have g6:=(dy.aq fT).mono (M':=(G.K k).soft) bQ;exact⟨HC w6 X Yq fb p1 p2 p3 hp ⟨(((x3.ag hc3 qa).ag dy qa).ag fT qa).ag Ct qa,(((x4.ag hc3).ag dy).ag fT).ag Ct,(((x5.ag hc3 qa).ag dy qa).ag fT qa).ag Ct qa,z0,z1,(((z2.ag hc3 qa).ag dy qa).ag fT qa).ag Ct qa⟩,g6.aq Ct⟩
   ·rintro w4⟨h1,_⟩;obtain⟨c',e1,e2⟩:=h1.1;exact⟨c',e1,e2⟩
   ·rintro w4 w5⟨h1,h2⟩hb5;exact⟨h1.grow hb5,h2.step hb5⟩
theorem Jv(hk:k<2)(j:Nat)(hj:j<4000)(h:zQ B w G S k fb n tt)(Mh:tt.ok)(hVj:(S.s k).V.n=(j:Nat))(hn:n≤4000)(s:ByteArray)(hpg:S.pg (2*(j%2)+1) ((j/ 2:Nat):Int)=some s)(V':SV)(HA:ZS (G.K k).B (S.s k).V s V')(hV:V'.n=((j+1:Nat):Int))
 (HT:V'.n=n→ ∀w1,Sy B w1 G (S.set k {S.s k with V:=V',cur:= .nilIface})→(∃M,Ch M w w1)→eN tt #[] w1 (fun J=>oK B G k d Q m J∧Ch (G.K k).soft w1 J))
 (HC:V'.n<n→ ∀J X Yq fb',(∃M,Ch M w J)→zQ B J G (S.set k {S.s k with V:=V',cur:=X,th:=Yq}) k fb' n tt→oK B G k d Q m J):oK B G k d Q (m+1) w:=by
 have ha:(0:Int)≤(S.s k).V.n∧(S.s k).V.n<16384:=Y;have htm:(S.s k).V.n.tmod 2=((j%2:Nat):Int):=by rw[hVj];exact tm j
 have htd:(S.s k).V.n.tdiv 2=((j/ 2:Nat):Int):=by rw[hVj];exact td j
 refine lB (M:=fb::(G.K k).soft) hk h.sy h.over h.Sv 3 ((2*(j%2)+1:Nat):Int) 0 ((j/ 2:Nat):Int) 0 0 ⟨#[]⟩ (tT s) h.mm (fun w1 w2=>qz w1.heap.size w1 w2) ?_ ?_ ?_
 ·intro w1 hb hs;exact lA gm fb 539 3 _ 0 _ 0 0 ⟨#[]⟩ h.cur Jl (fun _ _=>rfl) w1 (hs.wi.k k) (fun w2 hb2=>Qe fb _ true 0 ⟨#[]⟩ _ (j%2) Y ha htm htd _ rfl w2 (h.fe.ag (M:=[]) (Ch.af (ai hb hb2)) qc))
 ·intro w1 hb hs;exact(AQ (2*(j%2)+1) Y _ Y s hpg 0 0 ⟨#[]⟩ w1 hs.wi.nodes).mono fun e J ⟨h1,h2⟩=>⟨h1,h2,Ch.af h2⟩
 ·intro w1 w2 hb hs hb2 _;have hs2:=hs.grow hb2;have so:=ai hb hb2;have hfe:jt w2 fb (S.s k).V.n true 2 0 ⟨#[]⟩:=h.fe.ag (M:=[]) (Ch.af so) qc;refine jE gm fb 540 0 s h.cur EL (fun _ _=>rfl) w2 (fun J=>jb B G.wb k d Q m J∧Ch (fb::(G.K k).soft) w2 J) (fun J=>jt J fb (S.s k).V.n true 6 1 s) (hs2.wi.k k) (fun hm=>h.fO.1 (WK.gY k hm)) hfe.lt ?_ ?_
  ·intro w3 hb3;exact(IS fb true s _ _ (j%2) Y ha htm htd w3 (hfe.ag (M:=[]) (Ch.af hb3) qc)).mono fun e J ⟨h1,h2,h3⟩=>⟨h1,h2,h3⟩
  ·intro w3 hr uJ hc3;obtain⟨p1,p2,p3,p4,Fv,x1,x2,x3,x4⟩:=(h.x.ag (M:=[]) (Ch.af so)).ex;have hs3:=hs2.ag hc3 (h.sy.sN h.fO.1) (fun x hx=>by simp only[qS]at hx;rw[hx];exact h.fO.2);have g3:Ch [fb] w w3:=Ch.pre so hc3;refine cW ?_ (pE ⟨247,#[pV p1,pV p2,pV p3,pV p4]⟩ (aeD _ _ _ _) Fv fb _ true s h.cur w3 (fun J=>oK B G k d Q m J∧Ch (G.K k).soft w3 J) uJ hr ?_ ?_ ?_)
   ·rintro e w4⟨h1,h2,h3⟩;exact⟨h1,h2.2,(hc3.mono (fun x hx=>by simp only[qS]at hx;simp[hx])).aq (h3.mono (fun x hx=>by simp[hx]))⟩
   ·intro w4 hc4 dy;have hs4:Sy B w4 G (S.set k {S.s k with cur:= .nilIface}):=hs3.cl hk hc4 (dy.mono bQ);have g4:Ch (fb::(G.K k).soft) w w4:=(g3.mono (fun x hx=>by simp only[qS]at hx;simp[hx])).aq (dy.mono (fun x hx=>qV _ (bQ x hx)));unfold eN
    refine cW ?_ (GS (c:={S.s k with cur:= .nilIface}) n s tt Mh V' HA ⟨by rw[hV];omega,by have:=h.lt;rw[hV];omega,Y⟩ p1 p2 p3 p4 w4 (fun J=>oK B G k d Q m J∧Ch (G.K k).soft w3 J) hs4.fl (hs4.k10 k) hc4
     ((x1.ag hc3 qa).ag dy qa) ((x2.ag hc3 qa).ag dy qa) ((x3.ag hc3 qa).ag dy qa) ((x4.ag hc3 qa).ag dy qa) ?_)
    ·rintro e w5⟨h1,wm,Bq,hcr⟩;refine⟨h1,?_⟩;rcases hcr with⟨_,hq⟩|⟨aN,hw⟩
     ·exact hq
     ·obtain⟨X,Yq,fb',hp,fT⟩:=Hn (S:=S.set k {S.s k with cur:= .nilIface}) hk hs4 Bq hw h.over aN;rw[WS.set_set]at hp;exact⟨HC aN w5 X Yq fb' ⟨_,g4.aq (fT.mono (fun x hx=>qV _ hx))⟩ hp,(dy.mono bQ).aq fT⟩
    ·intro e w5 hc5 fT;have hs5:Sy B w5 G (S.set k {S.s k with V:=V',cur:= .nilIface}):=by have:=hs4.cl hk hc5 fT;rwa [WS.set_set]at this
     exact(HT e w5 hs5 ⟨_,g4.aq (fT.mono (fun x hx=>qV _ hx))⟩).imp fun J ⟨h1,h2⟩=>⟨h1,((dy.mono bQ).aq fT).aq h2⟩
   ·rintro w4⟨h1,_⟩;obtain⟨c',e1,e2⟩:=h1.1;exact⟨c',e1,e2⟩
   ·rintro w4 w5⟨h1,h2⟩hb5;exact⟨h1.grow hb5,h2.step hb5⟩
