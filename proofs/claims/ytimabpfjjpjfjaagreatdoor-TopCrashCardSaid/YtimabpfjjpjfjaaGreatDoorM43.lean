/- Part 43 of the texts that the law's walk needs. -/
import Derived.Test.YtimabpfjjpjfjaaGreatDoorM42
set_option maxHeartbeats 3200000
set_option maxRecDepth 100000
set_option linter.all false
open Go.Value renaming int→U,string→qg
open Go.IntKind renaming i64→Z
open Go.RowKit renaming Below→qz,Hid→qy
open Go.Obj renaming cells→qn
namespace Go.Proofs.YtimabpfjjpjfjaaGreatDoor
open Tryz
namespace TopW
open Go.RowKit OpW ConP ConW
open OpP (Rec)
open PathW (gF)
variable{w J:World}
theorem Xs(rc rh:Int)(rd:ByteArray)(W:World):(Instr.field 30 (.agg (bz rc rh rd)) 0).run prog W= .ok (U Z rc) W:=by rfl
set_option maxHeartbeats 12800000 in
theorem crash_walk(oa:Option Addr)(cap:Nat)(l:List (List UInt8))(s:Int)(hz: ∀x∈l,x.length≤9223372036854775807)(hl:l.length≤maxLen)(hs:0≤s∧s≤255)(w:World)(hv:PV w)(hf:Fl w)(h10:10≤w.heap.size)(hr:PathW.mN w.heap.size w oa l):
 Calls prog 3 #[.slice oa l.length cap,.int .u8 s] w fun e J=>e= .returned (.bool true)∧qz w.heap.size w J:=by
 have HV:=Hd hv;have HF:=Hd hf;have HT:=Hd h10;have HR:=Hd hr;have HZ:=Hd hz;have Ee:=Hd hl;obtain⟨M,hM⟩: ∃M:Nat,s.tmod 11=(M:Nat):=⟨(s.tmod 11).toNat,by rw[Int.tmod_eq_emod_of_nonneg hs.1];omega⟩;have hM10:M≤10:=by rw[Int.tmod_eq_emod_of_nonneg hs.1]at hM;omega
 have nW:=Hd (FM l M hM10);obtain⟨d,hd⟩: ∃d,Cy l M=d:=⟨_,rfl⟩;rw[hd]at nW;have HM:=Hd hM;have HS:=Hd hs;clear hv hf h10 hr hz hl hd hM hM10 hs;go_enter func3,ntmps3;go_wp2_with fail
 refine(Fh d w HV.o HF.o HT.o).mono ?_;rintro e w1⟨f,G,rfl,h1,h2⟩;have HL:=Hd (h1.same (cl':=clS ⟨1,0,none⟩ ⟨1,0,none⟩) rfl rfl);have HK:qy (Kp w.heap.size w w1):=Hd (Kp.af h2 (Nat.le_refl _));clear h1 h2;obtain⟨B,hB⟩: ∃B,w.heap.size=B:=⟨_,rfl⟩;rw[hB]at HL HK HR;have Fq:=Hd hB;clear hB;by_cases hlen:10<l.length
 ·have hd1:decide ((10:Int)<(l.length:Nat))=true:=by rw[qC];omega
  go_wp2_with fail
  refine(oL w1 HL.o.pv HL.o.fl (qM HL.o.b0 HL.o.le)).mono ?_;rintro e w2⟨rfl,hb⟩;have HK2:=Hd (HK.o.trans (Kp.af hb HL.o.le));clear hb;go_wp2_with fail
  go_ret;exact⟨rfl,by rw[Fq.o];exact HK2.o.below⟩
 have hd1:decide ((10:Int)<(l.length:Nat))=false:=by rw[decide_eq_false_iff_not];omega
 have ea:=Hd hlen;clear hlen;go_wp2_with fail
 clear hd1;refine(Fi nW.o.ok HL.o).mono ?_;rintro e w3r⟨rfl,h1,h2⟩;have dL:=Hd h1;have ec:=Hd (HK.o.trans h2);clear h1 h2 HL HK;have HL:=dL;have HK:=ec;clear dL ec;go_wp2_with fail
 refine(JI nW.o.ok HL.o).mono ?_;rintro e w7r⟨rfl,h1,h2⟩;have dL:=Hd h1;have ec:=Hd (HK.o.trans h2);clear h1 h2 HL HK;obtain⟨wA,p7,hAl,hp,g1,gb,gl⟩:=aD w7r (qn (bz 0 0 ⟨#[]⟩) 30);have HX:=Hd g1;have dI:=aj gb gl (bz 0 1 ⟨#[]⟩);have eQ:qy (uk (wA.setRow p7 (bz 0 1 ⟨#[]⟩)) p7 0 1 ⟨#[]⟩):=Hd (qJ _ _ _ _ _ _ g1);have HL:=Hd (dL.o.grow dI);have HK:=Hd (ec.o.trans (Kp.af dI dL.o.le));obtain⟨w7c,hwC⟩: ∃wC,wA.setRow p7 (bz 0 1 ⟨#[]⟩)=wC:=⟨_,rfl⟩;rw[hwC]at HL HK eQ;clear g1 gb gl dI dL ec
 go_wp2_with((with_reducible(refine qE rfl 30 (Operand.tmp 7) (Operand.tmp 35) rfl p7 (bz 0 1 ⟨#[]⟩) ?_ ?_ 30 (bz 0 0 ⟨#[]⟩) ?_ ?_ ?_ ?_ ?_));(·rfl);(·rfl);(·exact HX.o);(·exact cd);(·rfl);(·simp[Value.oneCell']);rw[hwC])
 clear HX hwC hAl hp;refine(JJ nW.o.ok HL.o).mono ?_;rintro e w8r⟨rfl,h1,h2⟩;have dL:=Hd h1;have ec:=Hd (HK.o.trans h2);have dh:=Hd (eQ.o.kp h2);clear h1 h2 HL HK eQ;obtain⟨wA,p8,hAl,hp,g1,gb,gl⟩:=aD w8r (qn (bz 0 0 ⟨#[]⟩) 30);have HX:=Hd g1;have dI:=aj gb gl (bz 0 2 ⟨#[]⟩);have fw:qy (uk (wA.setRow p8 (bz 0 2 ⟨#[]⟩)) p8 0 2 ⟨#[]⟩):=Hd (qJ _ _ _ _ _ _ g1);have HL:=Hd (dL.o.grow dI);have HK:=Hd (ec.o.trans (Kp.af dI dL.o.le));have eQ:=Hd (dh.o.grow dI);obtain⟨w8c,hwC⟩: ∃wC,wA.setRow p8 (bz 0 2 ⟨#[]⟩)=wC:=⟨_,rfl⟩;rw[hwC]at HL HK fw eQ;clear g1 gb gl dI dL ec dh
 go_wp2_with((with_reducible(refine qE rfl 30 (Operand.tmp 8) (Operand.tmp 37) rfl p8 (bz 0 2 ⟨#[]⟩) ?_ ?_ 30 (bz 0 0 ⟨#[]⟩) ?_ ?_ ?_ ?_ ?_));(·rfl);(·rfl);(·exact HX.o);(·exact cd);(·rfl);(·simp[Value.oneCell']);rw[hwC])
 clear HX hwC hAl hp
 go_loopw [9,10] (fun x i wr=> ∃k j0:Nat,i=U Z (k:Nat)∧x=qg ⟨(mq (d.take k)).toArray⟩∧k≤d.length∧j0≤3+k∧ia d B wr f G (3+k) 0 0 ⟨((3+k:Nat):Int),j0,none⟩ ⟨2,3,none⟩∧Kp B w wr∧uk wr p7 0 1 ⟨#[]⟩∧uk wr p8 0 2 ⟨#[]⟩) (fun _ i _=>((12:Int)-intOf i).toNat)
 case atStart=>exact⟨0,2,rfl,rfl,Y,Y,HL.o,HK.o,eQ.o,fw.o⟩
 case round=>
  obtain⟨k,j0,rfl,rfl,hk,hj0,h1,h2,h3,h4⟩:=hrel;clear HL HK eQ fw;have HL:=Hd h1;have HK:=Hd h2;have eQ:=Hd h3;have fw:=Hd h4;have HKD:=Hd hk;have HJ:=Hd hj0;obtain⟨T,hT⟩: ∃T:ByteArray,⟨(mq (d.take k)).toArray⟩=T:=⟨_,rfl⟩;have YD:=Hd hT
  have VS:qy (T.size=(mq (d.take k)).length∧((T.size:Nat):Int)=bR (d.take k)∧T.size≤2200):=Hd (by
   have e1:T.size=(mq (d.take k)).length:=by rw[←hT];exact List.size_toArray ..
   have e2:=Sc (d.take k);have e3:=(JD nW.o.ok k).off;exact⟨e1,Y,Y⟩)
  rw[hT];clear h1 h2 h3 h4 hk hj0 hT;have Xt:=Hd (And.intro nW.o.len nW.o.ok.len)
  have three: ∀P:Prop,(k<d.length→ ∀x:List UInt8,l[k]? =some x→MQ x=true→d.getD k ⟨#[]⟩=⟨x.toArray⟩→k<M→P)→(k=d.length→k=l.length→P)→(∀x:List UInt8,l[k]? =some x→MQ x=false→P)→(k=d.length→ ∀x:List UInt8,l[k]? =some x→MQ x=true→k=M→P)→P:=by
   intro P p1 p2 p3 p4;by_cases aN:k<d.length
   ·obtain⟨h1,x,h2,h3,h4⟩:=nW.o.lt k aN;exact p1 aN x h2 h3 h4 h1
   ·have e:k=d.length:=by have:=HKD.o;omega
    rcases nW.o.stop with h|⟨x,h1,h2|h2⟩
    ·exact p2 e Y
    ·rw[←e]at h1;exact p3 x h1 h2
    ·rw[←e]at h1
     cases ho:MQ x with
     |true=>exact p4 e x h1 ho Y
     |false=>exact p3 x h1 ho
  refine three _ ?zqa ?zqb ?zqc ?zqd
  case zqc=>
   intro x hx ho;clear three;have vN:k<l.length:=(xb.1 hx).1;obtain⟨a,ha,_,hc⟩:=(HR.o.below HK.o.below) k vN;rw[(xb.1 hx).2]at hc;subst ha;obtain⟨X,hX⟩: ∃X:ByteArray,⟨x.toArray⟩=X:=⟨_,rfl⟩;have hc':wr.cell? (a.add k)=some (qg X):=by rw[←hX];exact hc
   have dY:X.size=x.length:=by rw[←hX];exact List.size_toArray ..
   have Tg: ¬(1≤X.size∧X.size≤200):=by rw[dY];exact of_decide_eq_false ho
   have hk0:(0:Int)≤(k:Nat):=Y;have aiE:((k:Nat):Int)<(l.length:Nat):=Y;clear hc hX dY ho hx vN;by_cases h1:X.size<1
   ·have d1:decide (((X.size:Nat):Int)<1)=true:=by rw[qC];omega
    clear Tg h1;go_wp2_with fail
    refine(oL wr HL.o.pv HL.o.fl (qM HL.o.b0 HL.o.le)).mono ?_;rintro e w2⟨rfl,hb⟩;have HK2:=Hd (HK.o.trans (Kp.af hb HL.o.le));clear hb;go_wp2_with fail
    go_ret;exact⟨rfl,by rw[Fq.o];exact HK2.o.below⟩
   ·have d1:decide (((X.size:Nat):Int)<1)=false:=by rw[decide_eq_false_iff_not];omega
    have d2:decide ((200:Int)<(X.size:Nat))=true:=by rw[qC];omega
    clear Tg h1;go_wp2_with fail
    refine(oL wr HL.o.pv HL.o.fl (qM HL.o.b0 HL.o.le)).mono ?_;rintro e w2⟨rfl,hb⟩;have HK2:=Hd (HK.o.trans (Kp.af hb HL.o.le));clear hb;go_wp2_with fail
    go_ret;exact⟨rfl,by rw[Fq.o];exact HK2.o.below⟩
  case zqa=>
   intro aN x hx ho eC hkM;clear three;have vN:k<l.length:=(xb.1 hx).1
   have Bk: ∀Yq,Kp B wr Yq→ ∃a,oa=some a∧Yq.cell? (a.add k)=some (gF x):=fun Yq hY=>by
    obtain⟨a,ha,_,hc⟩:=(HR.o.below (HK.o.trans hY).below) k vN;rw[(xb.1 hx).2]at hc;exact⟨a,ha,hc⟩
   obtain⟨a,ha,hc⟩:=Bk wr ⟨rfl,rfl,rfl,Nat.le_refl _,fun _ _=>rfl,fun _ _ _ _ h _=>h⟩
   have Sd: ∀Yq,Kp B wr Yq→Yq.cell? (a.add k)=some (gF x):=fun Yq hY=>by
    obtain⟨a',h1,h2⟩:=Bk Yq hY;rw[ha]at h1;injection h1 with h1;rw[h1];exact h2
   subst ha;obtain⟨X,hX⟩: ∃X:ByteArray,⟨x.toArray⟩=X:=⟨_,rfl⟩;have hc':wr.cell? (a.add k)=some (qg X):=by rw[←hX];exact hc
   have dY:X.size=x.length:=by rw[←hX];exact List.size_toArray ..
   have lE:1≤X.size∧X.size≤200:=by rw[dY];exact xr ho
   have eO:qy (∀Yq,Kp B wr Yq→Yq.cell? ⟨p7,1,none⟩=some (U Z 1)∧Yq.cell? (a.add k)=some (qg X)):=Hd fun Yq hY=>⟨(eQ.o.kp hY).c1,by rw[←hX];exact Sd Yq hY⟩
   have Xu:qy (∀Yq,Kp B w Yq→Yq.cell? (a.add k)=some (qg X)):=Hd fun Yq hY=>by
    obtain⟨a',h1,_,h2⟩:=(HR.o.below hY.below) k vN;rw[(xb.1 hx).2]at h2;injection h1 with h1;rw[h1,←hX];exact h2
   have Yi:=Hd hX;have Sw:=Hd lE;have HKL:=Hd vN;have hk0:(0:Int)≤(k:Nat):=Y;have aiE:((k:Nat):Int)<(l.length:Nat):=Y;have d1:decide (((X.size:Nat):Int)<1)=false:=by rw[decide_eq_false_iff_not];omega
   have d2:decide ((200:Int)<(X.size:Nat))=false:=by rw[decide_eq_false_iff_not];omega
   clear Bk Sd hc hX dY lE ho hx vN;go_wp2_with fail
   clear d1 d2 hc';have au:qy (Kp B wr wr.drew):=Hd ⟨rfl,rfl,rfl,Nat.le_refl _,fun _ _=>rfl,fun _ _ _ _ h _=>h⟩;refine aB 18 18 (fun Yq=>Kp B wr Yq) qd rfl ?_;have ZL:qy (B≤wr.drew.heap.size):=Hd HL.o.le;have HW0:qy (qz wr.heap.size wr wr.drew):=Hd ⟨rfl,rfl,rfl,Nat.le_refl _,fun _ _=>rfl⟩;generalize wr.drew=W0 at au ZL HW0⊢;refine tG 0 59 ?_ au.o ?_ ?_;rotate_left
   ·intro wq hq;obtain⟨z0,z1⟩:=eO.o wq hq;exact bJ
   simp only[pS,aS,sZ,sS];refine tG 1 60 ?_ au.o ?_ ?_;rotate_left
   ·intro wq hq;obtain⟨z0,z1⟩:=eO.o wq hq;exact bJ
   simp only[pS,aS,sZ,sS];refine tG 2 61 ?_ au.o ?_ ?_;rotate_left
   ·intro wq hq;obtain⟨z0,z1⟩:=eO.o wq hq;exact bJ
   simp only[pS,aS,sZ,sS];refine tG 6 65 ?_ au.o ?_ ?_;rotate_left
   ·intro wq hq;obtain⟨z0,z1⟩:=eO.o wq hq;exact bJ
   simp only[pS,aS,sZ,sS];refine tG 7 66 ?_ au.o ?_ ?_;rotate_left
   ·intro wq hq;obtain⟨z0,z1⟩:=eO.o wq hq;exact bJ
   simp only[pS,aS,sZ,sS];refine tG 11 70 ?_ au.o ?_ ?_;rotate_left
   ·intro wq hq;obtain⟨z0,z1⟩:=eO.o wq hq;exact bJ
   simp only[pS,aS,sZ,sS];refine tG 12 71 ?_ au.o ?_ ?_;rotate_left
   ·intro wq hq;obtain⟨z0,z1⟩:=eO.o wq hq;exact bJ
   simp only[pS,aS,sZ,sS];refine tG 13 72 ?_ au.o ?_ ?_;rotate_left
   ·intro wq hq;obtain⟨z0,z1⟩:=eO.o wq hq;exact bJ
   simp only[pS,aS,sZ,sS];refine tG 14 73 ?_ au.o ?_ ?_;rotate_left
   ·intro wq hq;obtain⟨z0,z1⟩:=eO.o wq hq;exact bJ
   simp only[pS,aS,sZ,sS];refine ay 3 qd rfl rfl (al (some 62) (f:=7) (args:=#[U Z 1]) rfl qf (fun v Yq=>v=qg (bs [49])∧qz W0.heap.size W0 Yq) ((eU 1 [49] (fV 1 qa) qa qa qa W0 (Fa HL.o.pv HL.o.b0 au.o).cv).mono fun e J ⟨h1,h2⟩=>⟨_,h1,rfl,h2⟩) ?_);rintro v w5⟨rfl,h5⟩;have Qb:=Hd (ai HW0.o h5);have br:=Hd (au.o.trans (Kp.af h5 ZL.o));have aaO:qy (B≤w5.heap.size):=Hd (qM ZL.o h5.size);obtain⟨D1,hD1⟩: ∃D1,bs [49]=D1:=⟨_,rfl⟩;have BP:qy (D1.data.toList=[49]∧D1.size=1):=Hd (by rw[←hD1];exact⟨rfl,rfl⟩);rw[hD1];clear h5 hD1;refine⟨fun _=>br.o,?_⟩;simp only[pS,aS,sZ,sS]
   have f1: ¬9223372036854775807<6+D1.size:=by have:=BP.o.2;omega
   have f2: ¬9223372036854775807<6+D1.size+1:=by have:=BP.o.2;omega
   refine tG 4 63 ?_ br.o ?_ ?_;rotate_left
   ·intro wq hq;exact bJ
   simp only[pS,aS,sZ,sS];refine tG 5 64 ?_ br.o ?_ ?_;rotate_left
   ·intro wq hq;exact bJ
   simp only[pS,aS,sZ,sS];clear f1 f2;refine ay 8 qd rfl rfl (al (some 67) (f:=7) (args:=#[U Z (T.size:Nat)]) rfl qf (fun v Yq=>v=qg (bs (Lib.decDigits T.size))∧qz w5.heap.size w5 Yq) ((eU (T.size:Nat) (Lib.decDigits T.size) (nt T.size) Y (by have:=VS.o.2.2;omega) (by have:=oC (u:=T.size) (by have:=VS.o.2.2;omega);omega) w5 (Fa HL.o.pv HL.o.b0 br.o).cv).mono fun e J ⟨h1,h2⟩=>⟨_,h1,rfl,h2⟩) ?_);rintro v w6⟨rfl,h5⟩;have HW6:=Hd (ai Qb.o h5);have dT:=Hd (br.o.trans (Kp.af h5 aaO.o));have aeV:qy (B≤w6.heap.size):=Hd (qM aaO.o h5.size);obtain⟨D2,hD2⟩: ∃D2,bs (Lib.decDigits T.size)=D2:=⟨_,rfl⟩
   have mC:qy (D2.data.toList=Lib.decDigits T.size∧D2.size≤9):=Hd (by rw[←hD2];exact⟨rfl,by rw[gW];exact oC (by have:=VS.o.2.2;omega)⟩);rw[hD2];clear h5 hD2;refine⟨fun _=>dT.o,?_⟩;simp only[pS,aS,sZ,sS];have f1: ¬9223372036854775807<6+D1.size+1+D2.size:=by have:=BP.o.2;have:=mC.o.2;omega
   have f2: ¬9223372036854775807<6+D1.size+1+D2.size+1:=by have:=BP.o.2;have:=mC.o.2;omega
   refine tG 9 68 ?_ dT.o ?_ ?_;rotate_left
   ·intro wq hq;exact bJ
   simp only[pS,aS,sZ,sS];refine tG 10 69 ?_ dT.o ?_ ?_;rotate_left
   ·intro wq hq;exact bJ
   simp only[pS,aS,sZ,sS];clear f1 f2;refine ay 15 qd rfl rfl (al (some 74) (f:=8) (args:=#[qg X]) rfl qf (fun v Yq=>v=qg (bs (fm X.data.toList))∧qz w6.heap.size w6 Yq) ((RM X ⟨Sw.o.1,by have:=Sw.o.2;omega⟩ w6 (Fa HL.o.pv HL.o.b0 dT.o).cv).mono fun e J ⟨h1,h2⟩=>⟨_,h1,rfl,h2⟩) ?_);rintro v w7⟨rfl,h5⟩;have HW7:=Hd (ai HW6.o h5);have Ei:=Hd (dT.o.trans (Kp.af h5 aeV.o));obtain⟨D3,hD3⟩: ∃D3,bs (fm X.data.toList)=D3:=⟨_,rfl⟩
   have fY:qy (D3.data.toList=fm X.data.toList∧D3.size≤401):=Hd (by
    have h1:=yU X Sw.o.1;have:=Sw.o.2;rw[←hD3];exact⟨rfl,by rw[gW];omega⟩)
   rw[hD3];clear h5 hD3;refine⟨fun _=>Ei.o,?_⟩;simp only[pS,aS,sZ,sS];have f1: ¬9223372036854775807<6+D1.size+1+D2.size+1+D3.size:=by have:=BP.o.2;have:=mC.o.2;have:=fY.o.2;omega
   refine tG 16 75 ?_ Ei.o ?_ ?_;rotate_left
   ·intro wq hq;exact bJ
   simp only[pS,aS,sZ,sS];clear f1;obtain⟨t,ht⟩: ∃t,((⟨#[119,114,105,116,101,32]⟩:ByteArray)++D1++⟨#[32]⟩++D2++⟨#[32]⟩++D3)=t:=⟨_,rfl⟩
   have ru:qy (t.data.toList=[119,114,105,116,101,32,49,32]++Lib.decDigits T.size++[32]++fm X.data.toList∧t.size≤50000):=Hd (by
    have e:t.data.toList=[119,114,105,116,101,32,49,32]++Lib.decDigits T.size++[32]++fm X.data.toList:=by
     rw[←ht];simp[ByteArray.data_append,Array.toList_append,BP.o.1,mC.o.1,fY.o.1]
    have h1:t.data.toList.length=t.size:=Array.length_toList;have h2:=yU X Sw.o.1;have h3:=oC (u:=T.size) (by have:=VS.o.2.2;omega);have:=Sw.o.2;rw[e]at h1;simp only[qY,xf,List.length_nil]at h1;exact⟨e,Y⟩)
   rw[ht];clear ht;refine ay 17 qd rfl rfl (al (some 76) (f:=6) (args:=#[pV f,U Z 0,qg t]) rfl qf (fun v Yq=>ia d B Yq f G (3+k) 0 0 ⟨((3+k:Nat):Int),j0,some ⟨1,(T.size:Nat),X⟩⟩ ⟨2,3,none⟩∧Kp B w7 Yq) ((JK T.size X t ru.o.1 ru.o.2 (by have:=VS.o.2.2;omega) ⟨Sw.o.1,by have:=Sw.o.2;omega⟩ rfl (HL.o.grow HW7.o)).mono fun e J ⟨h1,h2,h3⟩=>⟨_,h1,h2,h3⟩) ?_);rintro v w8⟨h5,h6⟩;have HL8:=Hd h5;have Jg:=Hd (Ei.o.trans h6);clear h5 h6;refine⟨fun _=>Jg.o,?_⟩;simp only[pS,aS,sZ,sS];refine aU qd ?_;have HK8:=Hd (HK.o.trans Jg.o);have aeW:=Hd (eQ.o.kp Jg.o);have aeX:=Hd (fw.o.kp Jg.o)
   clear HL HK eQ fw au br dT Ei Jg HW0 Qb HW6 HW7 ZL aaO aeV ru BP mC fY eO;have HL:=HL8;have HK:=HK8;have eQ:=aeW;have fw:=aeX;clear HL8 HK8 aeW aeX;have MM:IntKind.i64.wrap s=s:=qO _ ⟨by have:=HS.o;omega,by have:=HS.o;omega⟩;have Xk:=HM.o;have z7:=eQ.o.c1;go_wp2_with fail
   clear hkM z7 MM Xk;refine(eU 1 [49] (fV 1 qa) qa qa qa w8 HL.o.pv.cv).mono ?_;rintro e w9d⟨rfl,hb⟩;have dL:=Hd (HL.o.grow hb);have ec:=Hd (HK.o.trans (Kp.af hb HL.o.le));have dh:=Hd (eQ.o.grow hb);have ed:=Hd (fw.o.grow hb);clear hb HL HK eQ fw;have HL:=dL;have HK:=ec;have eQ:=dh;have fw:=ed;clear dL ec dh ed;obtain⟨D,hD⟩: ∃D,bs [49]=D:=⟨_,rfl⟩;have mO:=Hd hD;have hz:D.size=1:=by rw[←hD];rfl
   rw[hD];clear hD;have f0: ¬9223372036854775807<5+D.size:=Y;clear hz;go_wp2_with fail
   clear f0;obtain⟨t,ht⟩: ∃t,(⟨#[115,121,110,99,32]⟩++D:ByteArray)=t:=⟨_,rfl⟩;have ru:qy (t=⟨#[115,121,110,99,32,49]⟩):=Hd (by rw[←ht,←mO.o];rfl);rw[ht];clear ht mO;rw[ru.o];clear ru
   have HLS:qy (ia d B w9d f G (3+k) 0 0 ⟨((3+k:Nat):Int),j0,some ⟨1,bR (d.take k),d.getD k ⟨#[]⟩⟩⟩ ⟨2,3,none⟩):=Hd (by
    have h:=HL.o;rw[VS.o.2.1]at h;rw[eC,Yi.o];exact h)
   have aiG:=Hd eC;have dO:=Hd aN;clear HL eC aN;have HL:=HLS;clear HLS;refine(RW nW.o.ok k dO.o rfl rfl HJ.o HL.o).mono ?_;rintro e w10⟨rfl,h1,h2⟩;have dL:=Hd h1;have ec:=Hd (HK.o.trans h2);have dh:=Hd (eQ.o.kp h2);have ed:=Hd (fw.o.kp h2);clear h1 h2 HL HK eQ fw;have zc:=Xu.o w10 ec.o;have zf:=Xs 0 0 ⟨#[]⟩;have zs: ¬9223372036854775807<T.size+X.size:=by have:=VS.o.2.2;have:=Sw.o.2;omega
   have hk1:IntKind.i64.wrap (((k:Nat):Int)+1)=((k+1:Nat):Int):=by
    have:=Xt.o;have:=dO.o;rw[qO _ ⟨Y,Y⟩];omega
   go_wp2_with fail
   have hT2:T++X=⟨(mq (d.take (k+1))).toArray⟩:=by
    have e1:T.data.toList=mq (d.take k):=by rw[←YD.o]
    apply ByteArray.ext;apply Array.toList_inj.1;rw[Cx dO.o,MD,aiG.o,Yi.o,←e1];simp[ByteArray.data_append,Array.toList_append]
   exact⟨⟨k+1,3+(k+1),qc,by rw[hT2],by have:=dO.o;omega,Y,dL.o,ec.o,dh.o,ed.o⟩,by have:=Xt.o;have:=dO.o;simp[intOf];omega⟩
  case' zqb=>
   intro RG aiJ;clear three;have hnl: ¬k<l.length:=Y;have HKd:=Hd RG;clear RG aiJ;go_wp2_with fail
   have HLx:qy (∃a,ia d B wr f G (3+d.length) 0 0 a ⟨2,3,none⟩):=Hd ⟨_,HKd.o▸HL.o⟩;have HTW:qy ((⟨(mq d).toArray⟩:ByteArray)=T):=Hd (by rw[←YD.o,HKd.o,List.take_length]);clear HL HKd hnl YD VS;generalize wr=wz at*
  case' zqd=>
   intro RG x hx ho hkM;have dM: ¬k<M:=Y;have HKd:=Hd RG;clear RG hkM;clear three;have vN:k<l.length:=(xb.1 hx).1
   have Bk: ∀Yq,Kp B wr Yq→ ∃a,oa=some a∧Yq.cell? (a.add k)=some (gF x):=fun Yq hY=>by
    obtain⟨a,ha,_,hc⟩:=(HR.o.below (HK.o.trans hY).below) k vN;rw[(xb.1 hx).2]at hc;exact⟨a,ha,hc⟩
   obtain⟨a,ha,hc⟩:=Bk wr ⟨rfl,rfl,rfl,Nat.le_refl _,fun _ _=>rfl,fun _ _ _ _ h _=>h⟩
   have Sd: ∀Yq,Kp B wr Yq→Yq.cell? (a.add k)=some (gF x):=fun Yq hY=>by
    obtain⟨a',h1,h2⟩:=Bk Yq hY;rw[ha]at h1;injection h1 with h1;rw[h1];exact h2
   subst ha;obtain⟨X,hX⟩: ∃X:ByteArray,⟨x.toArray⟩=X:=⟨_,rfl⟩;have hc':wr.cell? (a.add k)=some (qg X):=by rw[←hX];exact hc
   have dY:X.size=x.length:=by rw[←hX];exact List.size_toArray ..
   have lE:1≤X.size∧X.size≤200:=by rw[dY];exact xr ho
   have eO:qy (∀Yq,Kp B wr Yq→Yq.cell? ⟨p7,1,none⟩=some (U Z 1)∧Yq.cell? (a.add k)=some (qg X)):=Hd fun Yq hY=>⟨(eQ.o.kp hY).c1,by rw[←hX];exact Sd Yq hY⟩
   have Xu:qy (∀Yq,Kp B w Yq→Yq.cell? (a.add k)=some (qg X)):=Hd fun Yq hY=>by
    obtain⟨a',h1,_,h2⟩:=(HR.o.below hY.below) k vN;rw[(xb.1 hx).2]at h2;injection h1 with h1;rw[h1,←hX];exact h2
   have Yi:=Hd hX;have Sw:=Hd lE;have HKL:=Hd vN;have hk0:(0:Int)≤(k:Nat):=Y;have aiE:((k:Nat):Int)<(l.length:Nat):=Y;have d1:decide (((X.size:Nat):Int)<1)=false:=by rw[decide_eq_false_iff_not];omega
   have d2:decide ((200:Int)<(X.size:Nat))=false:=by rw[decide_eq_false_iff_not];omega
   clear Bk Sd hc hX dY lE ho hx vN;go_wp2_with fail
   clear d1 d2 hc';have au:qy (Kp B wr wr.drew):=Hd ⟨rfl,rfl,rfl,Nat.le_refl _,fun _ _=>rfl,fun _ _ _ _ h _=>h⟩;refine aB 18 18 (fun Yq=>Kp B wr Yq) qd rfl ?_;have ZL:qy (B≤wr.drew.heap.size):=Hd HL.o.le;have HW0:qy (qz wr.heap.size wr wr.drew):=Hd ⟨rfl,rfl,rfl,Nat.le_refl _,fun _ _=>rfl⟩;generalize wr.drew=W0 at au ZL HW0⊢;refine tG 0 59 ?_ au.o ?_ ?_;rotate_left
   ·intro wq hq;obtain⟨z0,z1⟩:=eO.o wq hq;exact bJ
   simp only[pS,aS,sZ,sS];refine tG 1 60 ?_ au.o ?_ ?_;rotate_left
   ·intro wq hq;obtain⟨z0,z1⟩:=eO.o wq hq;exact bJ
   simp only[pS,aS,sZ,sS];refine tG 2 61 ?_ au.o ?_ ?_;rotate_left
   ·intro wq hq;obtain⟨z0,z1⟩:=eO.o wq hq;exact bJ
   simp only[pS,aS,sZ,sS];refine tG 6 65 ?_ au.o ?_ ?_;rotate_left
   ·intro wq hq;obtain⟨z0,z1⟩:=eO.o wq hq;exact bJ
   simp only[pS,aS,sZ,sS];refine tG 7 66 ?_ au.o ?_ ?_;rotate_left
   ·intro wq hq;obtain⟨z0,z1⟩:=eO.o wq hq;exact bJ
   simp only[pS,aS,sZ,sS];refine tG 11 70 ?_ au.o ?_ ?_;rotate_left
   ·intro wq hq;obtain⟨z0,z1⟩:=eO.o wq hq;exact bJ
   simp only[pS,aS,sZ,sS];refine tG 12 71 ?_ au.o ?_ ?_;rotate_left
   ·intro wq hq;obtain⟨z0,z1⟩:=eO.o wq hq;exact bJ
   simp only[pS,aS,sZ,sS];refine tG 13 72 ?_ au.o ?_ ?_;rotate_left
   ·intro wq hq;obtain⟨z0,z1⟩:=eO.o wq hq;exact bJ
   simp only[pS,aS,sZ,sS];refine tG 14 73 ?_ au.o ?_ ?_;rotate_left
   ·intro wq hq;obtain⟨z0,z1⟩:=eO.o wq hq;exact bJ
   simp only[pS,aS,sZ,sS];refine ay 3 qd rfl rfl (al (some 62) (f:=7) (args:=#[U Z 1]) rfl qf (fun v Yq=>v=qg (bs [49])∧qz W0.heap.size W0 Yq) ((eU 1 [49] (fV 1 qa) qa qa qa W0 (Fa HL.o.pv HL.o.b0 au.o).cv).mono fun e J ⟨h1,h2⟩=>⟨_,h1,rfl,h2⟩) ?_);rintro v w5⟨rfl,h5⟩;have Qb:=Hd (ai HW0.o h5);have br:=Hd (au.o.trans (Kp.af h5 ZL.o));have aaO:qy (B≤w5.heap.size):=Hd (qM ZL.o h5.size);obtain⟨D1,hD1⟩: ∃D1,bs [49]=D1:=⟨_,rfl⟩;have BP:qy (D1.data.toList=[49]∧D1.size=1):=Hd (by rw[←hD1];exact⟨rfl,rfl⟩);rw[hD1];clear h5 hD1;refine⟨fun _=>br.o,?_⟩;simp only[pS,aS,sZ,sS]
   have f1: ¬9223372036854775807<6+D1.size:=by have:=BP.o.2;omega
   have f2: ¬9223372036854775807<6+D1.size+1:=by have:=BP.o.2;omega
   refine tG 4 63 ?_ br.o ?_ ?_;rotate_left
   ·intro wq hq;exact bJ
   simp only[pS,aS,sZ,sS];refine tG 5 64 ?_ br.o ?_ ?_;rotate_left
   ·intro wq hq;exact bJ
   simp only[pS,aS,sZ,sS];clear f1 f2;refine ay 8 qd rfl rfl (al (some 67) (f:=7) (args:=#[U Z (T.size:Nat)]) rfl qf (fun v Yq=>v=qg (bs (Lib.decDigits T.size))∧qz w5.heap.size w5 Yq) ((eU (T.size:Nat) (Lib.decDigits T.size) (nt T.size) Y (by have:=VS.o.2.2;omega) (by have:=oC (u:=T.size) (by have:=VS.o.2.2;omega);omega) w5 (Fa HL.o.pv HL.o.b0 br.o).cv).mono fun e J ⟨h1,h2⟩=>⟨_,h1,rfl,h2⟩) ?_);rintro v w6⟨rfl,h5⟩;have HW6:=Hd (ai Qb.o h5);have dT:=Hd (br.o.trans (Kp.af h5 aaO.o));have aeV:qy (B≤w6.heap.size):=Hd (qM aaO.o h5.size);obtain⟨D2,hD2⟩: ∃D2,bs (Lib.decDigits T.size)=D2:=⟨_,rfl⟩
   have mC:qy (D2.data.toList=Lib.decDigits T.size∧D2.size≤9):=Hd (by rw[←hD2];exact⟨rfl,by rw[gW];exact oC (by have:=VS.o.2.2;omega)⟩);rw[hD2];clear h5 hD2;refine⟨fun _=>dT.o,?_⟩;simp only[pS,aS,sZ,sS];have f1: ¬9223372036854775807<6+D1.size+1+D2.size:=by have:=BP.o.2;have:=mC.o.2;omega
   have f2: ¬9223372036854775807<6+D1.size+1+D2.size+1:=by have:=BP.o.2;have:=mC.o.2;omega
   refine tG 9 68 ?_ dT.o ?_ ?_;rotate_left
   ·intro wq hq;exact bJ
   simp only[pS,aS,sZ,sS];refine tG 10 69 ?_ dT.o ?_ ?_;rotate_left
   ·intro wq hq;exact bJ
   simp only[pS,aS,sZ,sS];clear f1 f2;refine ay 15 qd rfl rfl (al (some 74) (f:=8) (args:=#[qg X]) rfl qf (fun v Yq=>v=qg (bs (fm X.data.toList))∧qz w6.heap.size w6 Yq) ((RM X ⟨Sw.o.1,by have:=Sw.o.2;omega⟩ w6 (Fa HL.o.pv HL.o.b0 dT.o).cv).mono fun e J ⟨h1,h2⟩=>⟨_,h1,rfl,h2⟩) ?_);rintro v w7⟨rfl,h5⟩;have HW7:=Hd (ai HW6.o h5);have Ei:=Hd (dT.o.trans (Kp.af h5 aeV.o));obtain⟨D3,hD3⟩: ∃D3,bs (fm X.data.toList)=D3:=⟨_,rfl⟩
   have fY:qy (D3.data.toList=fm X.data.toList∧D3.size≤401):=Hd (by
    have h1:=yU X Sw.o.1;have:=Sw.o.2;rw[←hD3];exact⟨rfl,by rw[gW];omega⟩)
   rw[hD3];clear h5 hD3;refine⟨fun _=>Ei.o,?_⟩;simp only[pS,aS,sZ,sS];have f1: ¬9223372036854775807<6+D1.size+1+D2.size+1+D3.size:=by have:=BP.o.2;have:=mC.o.2;have:=fY.o.2;omega
   refine tG 16 75 ?_ Ei.o ?_ ?_;rotate_left
   ·intro wq hq;exact bJ
   simp only[pS,aS,sZ,sS];clear f1;obtain⟨t,ht⟩: ∃t,((⟨#[119,114,105,116,101,32]⟩:ByteArray)++D1++⟨#[32]⟩++D2++⟨#[32]⟩++D3)=t:=⟨_,rfl⟩
   have ru:qy (t.data.toList=[119,114,105,116,101,32,49,32]++Lib.decDigits T.size++[32]++fm X.data.toList∧t.size≤50000):=Hd (by
    have e:t.data.toList=[119,114,105,116,101,32,49,32]++Lib.decDigits T.size++[32]++fm X.data.toList:=by
     rw[←ht];simp[ByteArray.data_append,Array.toList_append,BP.o.1,mC.o.1,fY.o.1]
    have h1:t.data.toList.length=t.size:=Array.length_toList;have h2:=yU X Sw.o.1;have h3:=oC (u:=T.size) (by have:=VS.o.2.2;omega);have:=Sw.o.2;rw[e]at h1;simp only[qY,xf,List.length_nil]at h1;exact⟨e,Y⟩)
   rw[ht];clear ht;refine ay 17 qd rfl rfl (al (some 76) (f:=6) (args:=#[pV f,U Z 0,qg t]) rfl qf (fun v Yq=>ia d B Yq f G (3+k) 0 0 ⟨((3+k:Nat):Int),j0,some ⟨1,(T.size:Nat),X⟩⟩ ⟨2,3,none⟩∧Kp B w7 Yq) ((JK T.size X t ru.o.1 ru.o.2 (by have:=VS.o.2.2;omega) ⟨Sw.o.1,by have:=Sw.o.2;omega⟩ rfl (HL.o.grow HW7.o)).mono fun e J ⟨h1,h2,h3⟩=>⟨_,h1,h2,h3⟩) ?_);rintro v w8⟨h5,h6⟩;have HL8:=Hd h5;have Jg:=Hd (Ei.o.trans h6);clear h5 h6;refine⟨fun _=>Jg.o,?_⟩;simp only[pS,aS,sZ,sS];refine aU qd ?_;have HK8:=Hd (HK.o.trans Jg.o);have aeW:=Hd (eQ.o.kp Jg.o);have aeX:=Hd (fw.o.kp Jg.o)
   clear HL HK eQ fw au br dT Ei Jg HW0 Qb HW6 HW7 ZL aaO aeV ru BP mC fY eO;have HL:=HL8;have HK:=HK8;have eQ:=aeW;have fw:=aeX;clear HL8 HK8 aeW aeX;have MM:IntKind.i64.wrap s=s:=qO _ ⟨by have:=HS.o;omega,by have:=HS.o;omega⟩;have Xk:=HM.o;go_wp2_with fail
   have HLx:qy (∃a,ia d B w8 f G (3+d.length) 0 0 a ⟨2,3,none⟩):=Hd ⟨_,HKd.o▸HL.o⟩;have HTW:qy ((⟨(mq d).toArray⟩:ByteArray)=T):=Hd (by rw[←YD.o,HKd.o,List.take_length]);clear HL HKd dM YD VS MM Xk Xu Yi Sw HKL;generalize w8=wz at*
  all_goals
   clear HKD HJ;obtain⟨a0,hL0⟩:=HLx.o;have hf1:=Xs 0 0 ⟨#[]⟩;refine(MB _ hL0 hV0).mono ?_;rintro e w20⟨rfl,⟨A',h1⟩,h2⟩;have HL:=Hd (h1.same (cl':=clS ⟨65537,0,none⟩ ⟨2,3,none⟩) rfl rfl);have ec:=Hd (HK.o.trans h2);have dh:=Hd (eQ.o.kp h2);have ed:=Hd (fw.o.kp h2);clear h1 h2 hL0 HLx HK eQ fw;have HK:=ec;have eQ:=dh;have fw:=ed;clear ec dh ed;go_wp2_with fail
   refine(VQ nW.o.ok HL.o).mono ?_;rintro e w21r⟨rfl,h1,h2⟩;have dL:=Hd h1;have ec:=Hd (HK.o.trans h2);have dh:=Hd (eQ.o.kp h2);have ed:=Hd (fw.o.kp h2);clear h1 h2 HL HK eQ fw;have HL:=dL;have HK:=ec;have eQ:=dh;have fw:=ed;clear dL ec dh ed;go_wp2_with fail
   refine(RX nW.o.ok HL.o).mono ?_;rintro e w22r⟨rfl,h1,h2⟩;have dL:=Hd h1;have ec:=Hd (HK.o.trans h2);have dh:=Hd (eQ.o.kp h2);have ed:=Hd (fw.o.kp h2);clear h1 h2 HL HK eQ fw;have HL:=dL;have HK:=ec;have eQ:=dh;have fw:=ed;clear dL ec dh ed;go_wp2_with fail
   refine(RR _ HL.o).mono ?_;rintro e w23⟨rfl,h1,h2⟩;have dL:=Hd h1;have ec:=Hd (HK.o.trans h2);have dh:=Hd (eQ.o.kp h2);have ed:=Hd (fw.o.kp h2);clear h1 h2 HL HK eQ fw;have HL:=dL;have HK:=ec;have eQ:=dh;have fw:=ed;clear dL ec dh ed;have z8:=fw.o.c1;go_wp2_with fail
   clear z8;refine(eU 2 [50] (fV 2 qa) qa qa qa w23 HL.o.pv.cv).mono ?_;rintro e w24d⟨rfl,hb⟩;have dL:=Hd (HL.o.grow hb);have ec:=Hd (HK.o.trans (Kp.af hb HL.o.le));have dh:=Hd (eQ.o.grow hb);have ed:=Hd (fw.o.grow hb);clear hb HL HK eQ fw;have HL:=dL;have HK:=ec;have eQ:=dh;have fw:=ed;clear dL ec dh ed;obtain⟨D,hD⟩: ∃D,bs [50]=D:=⟨_,rfl⟩;have mO:=Hd hD;have hz:D.size=1:=by rw[←hD];rfl
   rw[hD];clear hD;have f0: ¬9223372036854775807<5+D.size:=Y;have f1: ¬9223372036854775807<5+D.size+7:=Y;clear hz;go_wp2_with fail
   clear f0 f1;obtain⟨t,ht⟩: ∃t,(⟨#[114,101,97,100,32]⟩++D++⟨#[32,48,32,56,49,57,50]⟩:ByteArray)=t:=⟨_,rfl⟩;have ru:qy (t=⟨#[114,101,97,100,32,50,32,48,32,56,49,57,50]⟩):=Hd (by rw[←ht,←mO.o];rfl);rw[ht];clear ht mO;rw[ru.o];clear ru;refine(Fj T HTW.o nW.o.ok (5+d.length) _ rfl ⟨Y,Y⟩ [] [hA,hB] Cq (hO d (5+d.length)) 0 2 aaH qa (Nat.le_refl _) HL.o).mono ?_;rintro e w11r⟨rfl,h1,h2⟩;have dL:=Hd h1;have ec:=Hd (HK.o.trans h2);have dh:=Hd (eQ.o.kp h2);have ed:=Hd (fw.o.kp h2);clear h1 h2 HL HK eQ fw;obtain⟨wA,p11,hAl,hp,g1,gb,gl⟩:=aD w11r (qn (bz 0 0 ⟨#[]⟩) 30);have HX:=Hd g1
   have dI:=aj gb gl (bz 0 0 T);have il:qy (uk (wA.setRow p11 (bz 0 0 T)) p11 0 0 T):=Hd (qJ _ _ _ _ _ _ g1);have HL:=Hd (dL.o.grow dI);have HK:=Hd (ec.o.trans (Kp.af dI dL.o.le));have eQ:=Hd (dh.o.grow dI);have fw:=Hd (ed.o.grow dI);obtain⟨w11c,hwC⟩: ∃wC,wA.setRow p11 (bz 0 0 T)=wC:=⟨_,rfl⟩;rw[hwC]at HL HK il eQ fw;clear g1 gb gl dI dL ec dh ed;go_wp2_with((with_reducible(refine qE rfl 30 (Operand.tmp 11) (Operand.tmp 122) rfl p11 (bz 0 0 T) ?_ ?_ 30 (bz 0 0 ⟨#[]⟩) ?_ ?_ ?_ ?_ ?_));(·rfl);(·rfl);(·exact HX.o);(·exact cd);(·rfl);(·simp[Value.oneCell']);rw[hwC])
   clear HX hwC hAl hp;refine(RY nW.o.ok HL.o).mono ?_;rintro e w12r⟨rfl,h1,h2⟩;have dL:=Hd h1;have ec:=Hd (HK.o.trans h2);have dh:=Hd (eQ.o.kp h2);have ed:=Hd (fw.o.kp h2);have gD:=Hd (il.o.kp h2);clear h1 h2 HL HK eQ fw il;obtain⟨wA,p12,hAl,hp,g1,gb,gl⟩:=aD w12r (qn (bz 0 0 ⟨#[]⟩) 30);have HX:=Hd g1;have dI:=aj gb gl (bz 0 0 ⟨#[]⟩);have jv:qy (uk (wA.setRow p12 (bz 0 0 ⟨#[]⟩)) p12 0 0 ⟨#[]⟩):=Hd (qJ _ _ _ _ _ _ g1);have HL:=Hd (dL.o.grow dI);have HK:=Hd (ec.o.trans (Kp.af dI dL.o.le));have eQ:=Hd (dh.o.grow dI);have fw:=Hd (ed.o.grow dI);have il:=Hd (gD.o.grow dI)
   obtain⟨w12c,hwC⟩: ∃wC,wA.setRow p12 (bz 0 0 ⟨#[]⟩)=wC:=⟨_,rfl⟩;rw[hwC]at HL HK jv eQ fw il;clear g1 gb gl dI dL ec dh ed gD;have z0:=eQ.o.c1;go_wp2_with((with_reducible(refine qE rfl 30 (Operand.tmp 12) (Operand.tmp 124) rfl p12 (bz 0 0 ⟨#[]⟩) ?_ ?_ 30 (bz 0 0 ⟨#[]⟩) ?_ ?_ ?_ ?_ ?_));(·rfl);(·rfl);(·exact HX.o);(·exact cd);(·rfl);(·simp[Value.oneCell']);rw[hwC])
   clear HX hwC hAl hp z0;refine(eU 1 [49] (fV 1 qa) qa qa qa w12c HL.o.pv.cv).mono ?_;rintro e w25d⟨rfl,hb⟩;have dL:=Hd (HL.o.grow hb);have ec:=Hd (HK.o.trans (Kp.af hb HL.o.le));have dh:=Hd (eQ.o.grow hb);have ed:=Hd (fw.o.grow hb);have gD:=Hd (il.o.grow hb);have jc:=Hd (jv.o.grow hb);clear hb HL HK eQ fw il jv;have HL:=dL;have HK:=ec;have eQ:=dh;have fw:=ed;have il:=gD;have jv:=jc;clear dL ec dh ed gD jc;obtain⟨D,hD⟩: ∃D,bs [49]=D:=⟨_,rfl⟩;have mO:=Hd hD;have hz:D.size=1:=by rw[←hD];rfl
   rw[hD];clear hD;have f0: ¬9223372036854775807<5+D.size:=Y;have f1: ¬9223372036854775807<5+D.size+7:=Y;clear hz;go_wp2_with fail
   clear f0 f1;obtain⟨t,ht⟩: ∃t,(⟨#[114,101,97,100,32]⟩++D++⟨#[32,48,32,56,49,57,50]⟩:ByteArray)=t:=⟨_,rfl⟩;have ru:qy (t=⟨#[114,101,97,100,32,49,32,48,32,56,49,57,50]⟩):=Hd (by rw[←ht,←mO.o];rfl);rw[ht];clear ht mO;rw[ru.o];clear ru;refine(aaK nW.o.ok _ rfl (Nat.zero_le _) HL.o).mono ?_;rintro e w13r⟨rfl,h1,h2⟩;have dL:=Hd h1;have ec:=Hd (HK.o.trans h2);have dh:=Hd (eQ.o.kp h2);have ed:=Hd (fw.o.kp h2);have gD:=Hd (il.o.kp h2);have jc:=Hd (jv.o.kp h2);clear h1 h2 HL HK eQ fw il jv;obtain⟨wA,p13,hAl,hp,g1,gb,gl⟩:=aD w13r (qn (bz 0 0 ⟨#[]⟩) 30);have HX:=Hd g1
   have dI:=aj gb gl (bz 68 0 ⟨#[]⟩);have nX:qy (uk (wA.setRow p13 (bz 68 0 ⟨#[]⟩)) p13 68 0 ⟨#[]⟩):=Hd (qJ _ _ _ _ _ _ g1);have HL:=Hd (dL.o.grow dI);have HK:=Hd (ec.o.trans (Kp.af dI dL.o.le));have eQ:=Hd (dh.o.grow dI);have fw:=Hd (ed.o.grow dI);have il:=Hd (gD.o.grow dI);have jv:=Hd (jc.o.grow dI);obtain⟨w13c,hwC⟩: ∃wC,wA.setRow p13 (bz 68 0 ⟨#[]⟩)=wC:=⟨_,rfl⟩;rw[hwC]at HL HK nX eQ fw il jv;clear g1 gb gl dI dL ec dh ed gD jc;have z0:=fw.o.c1
   go_wp2_with((with_reducible(refine qE rfl 30 (Operand.tmp 13) (Operand.tmp 131) rfl p13 (bz 68 0 ⟨#[]⟩) ?_ ?_ 30 (bz 0 0 ⟨#[]⟩) ?_ ?_ ?_ ?_ ?_));(·rfl);(·rfl);(·exact HX.o);(·exact cd);(·rfl);(·simp[Value.oneCell']);rw[hwC])
   clear HX hwC hAl hp z0;refine(eU 2 [50] (fV 2 qa) qa qa qa w13c HL.o.pv.cv).mono ?_;rintro e w26d⟨rfl,hb⟩;have dL:=Hd (HL.o.grow hb);have ec:=Hd (HK.o.trans (Kp.af hb HL.o.le));have dh:=Hd (eQ.o.grow hb);have ed:=Hd (fw.o.grow hb);have gD:=Hd (il.o.grow hb);have jc:=Hd (jv.o.grow hb);have nY:=Hd (nX.o.grow hb);clear hb HL HK eQ fw il jv nX;have HL:=dL;have HK:=ec;have eQ:=dh;have fw:=ed;have il:=gD;have jv:=jc;have nX:=nY;clear dL ec dh ed gD jc nY;obtain⟨D,hD⟩: ∃D,bs [50]=D:=⟨_,rfl⟩;have mO:=Hd hD;have hz:D.size=1:=by rw[←hD];rfl
   rw[hD];clear hD;have f0: ¬9223372036854775807<5+D.size:=Y;have f1: ¬9223372036854775807<5+D.size+7:=Y;clear hz;go_wp2_with fail
   clear f0 f1;obtain⟨t,ht⟩: ∃t,(⟨#[114,101,97,100,32]⟩++D++⟨#[32,48,32,56,49,57,50]⟩:ByteArray)=t:=⟨_,rfl⟩;have ru:qy (t=⟨#[114,101,97,100,32,50,32,48,32,56,49,57,50]⟩):=Hd (by rw[←ht,←mO.o];rfl);rw[ht];clear ht mO;rw[ru.o];clear ru;refine(Fj T HTW.o nW.o.ok (6+d.length) _ rfl ⟨Y,Y⟩ [] [hB] Cq (hO d (6+d.length)) 0 1 VL qa (Nat.le_refl _) HL.o).mono ?_;rintro e w14r⟨rfl,h1,h2⟩;have dL:=Hd h1;have ec:=Hd (HK.o.trans h2);have dh:=Hd (eQ.o.kp h2);have ed:=Hd (fw.o.kp h2);have gD:=Hd (il.o.kp h2);have jc:=Hd (jv.o.kp h2);have nY:=Hd (nX.o.kp h2);clear h1 h2 HL HK eQ fw il jv nX
   obtain⟨wA,p14,hAl,hp,g1,gb,gl⟩:=aD w14r (qn (bz 0 0 ⟨#[]⟩) 30);have HX:=Hd g1;have dI:=aj gb gl (bz 0 0 T);have zS:qy (uk (wA.setRow p14 (bz 0 0 T)) p14 0 0 T):=Hd (qJ _ _ _ _ _ _ g1);have HL:=Hd (dL.o.grow dI);have HK:=Hd (ec.o.trans (Kp.af dI dL.o.le));have eQ:=Hd (dh.o.grow dI);have fw:=Hd (ed.o.grow dI);have il:=Hd (gD.o.grow dI);have jv:=Hd (jc.o.grow dI);have nX:=Hd (nY.o.grow dI);obtain⟨w14c,hwC⟩: ∃wC,wA.setRow p14 (bz 0 0 T)=wC:=⟨_,rfl⟩;rw[hwC]at HL HK zS eQ fw il jv nX;clear g1 gb gl dI dL ec dh ed gD jc nY;have z0:=fw.o.c1
   go_wp2_with((with_reducible(refine qE rfl 30 (Operand.tmp 14) (Operand.tmp 138) rfl p14 (bz 0 0 T) ?_ ?_ 30 (bz 0 0 ⟨#[]⟩) ?_ ?_ ?_ ?_ ?_));(·rfl);(·rfl);(·exact HX.o);(·exact cd);(·rfl);(·simp[Value.oneCell']);rw[hwC])
   clear HX hwC hAl hp z0;refine(eU 2 [50] (fV 2 qa) qa qa qa w14c HL.o.pv.cv).mono ?_;rintro e w27d⟨rfl,hb⟩;have dL:=Hd (HL.o.grow hb);have ec:=Hd (HK.o.trans (Kp.af hb HL.o.le));have dh:=Hd (eQ.o.grow hb);have ed:=Hd (fw.o.grow hb);have gD:=Hd (il.o.grow hb);have jc:=Hd (jv.o.grow hb);have nY:=Hd (nX.o.grow hb);have Fk:=Hd (zS.o.grow hb);clear hb HL HK eQ fw il jv nX zS;have HL:=dL;have HK:=ec;have eQ:=dh;have fw:=ed;have il:=gD;have jv:=jc;have nX:=nY;have zS:=Fk;clear dL ec dh ed gD jc nY Fk;obtain⟨D,hD⟩: ∃D,bs [50]=D:=⟨_,rfl⟩;have mO:=Hd hD;have hz:D.size=1:=by rw[←hD];rfl
   rw[hD];clear hD;have f0: ¬9223372036854775807<6+D.size:=Y;clear hz;go_wp2_with fail
   clear f0;obtain⟨t,ht⟩: ∃t,(⟨#[99,108,111,115,101,32]⟩++D:ByteArray)=t:=⟨_,rfl⟩;have ru:qy (t=⟨#[99,108,111,115,101,32,50]⟩):=Hd (by rw[←ht,←mO.o];rfl);rw[ht];clear ht mO;rw[ru.o];clear ru;refine(VR nW.o.ok _ rfl HL.o).mono ?_;rintro e w15r⟨rfl,h1,h2⟩;have dL:=Hd h1;have ec:=Hd (HK.o.trans h2);have dh:=Hd (eQ.o.kp h2);have ed:=Hd (fw.o.kp h2);have gD:=Hd (il.o.kp h2);have jc:=Hd (jv.o.kp h2);have nY:=Hd (nX.o.kp h2);have Fk:=Hd (zS.o.kp h2);clear h1 h2 HL HK eQ fw il jv nX zS;obtain⟨wA,p15,hAl,hp,g1,gb,gl⟩:=aD w15r (qn (bz 0 0 ⟨#[]⟩) 30);have HX:=Hd g1;have dI:=aj gb gl (bz 0 0 ⟨#[]⟩)
   have aaQ:qy (uk (wA.setRow p15 (bz 0 0 ⟨#[]⟩)) p15 0 0 ⟨#[]⟩):=Hd (qJ _ _ _ _ _ _ g1);have HL:=Hd (dL.o.grow dI);have HK:=Hd (ec.o.trans (Kp.af dI dL.o.le));have eQ:=Hd (dh.o.grow dI);have fw:=Hd (ed.o.grow dI);have il:=Hd (gD.o.grow dI);have jv:=Hd (jc.o.grow dI);have nX:=Hd (nY.o.grow dI);have zS:=Hd (Fk.o.grow dI);obtain⟨w15c,hwC⟩: ∃wC,wA.setRow p15 (bz 0 0 ⟨#[]⟩)=wC:=⟨_,rfl⟩;rw[hwC]at HL HK aaQ eQ fw il jv nX zS;clear g1 gb gl dI dL ec dh ed gD jc nY Fk;have z0:=HL.o.fs.cell
   go_wp2_with((with_reducible(refine qE rfl 30 (Operand.tmp 15) (Operand.tmp 144) rfl p15 (bz 0 0 ⟨#[]⟩) ?_ ?_ 30 (bz 0 0 ⟨#[]⟩) ?_ ?_ ?_ ?_ ?_));(·rfl);(·rfl);(·exact HX.o);(·exact cd);(·rfl);(·simp[Value.oneCell']);rw[hwC])
   clear HX hwC hAl hp z0;obtain⟨S,hS,_,_,_,_,_,ft⟩:=HL.o.at_.ex;have hV1:=(ft 1 qa).V;have Wu:=Hd hS;have HVV:qy ((S.s 1).V.L.length=1):=Hd (by rw[hV1];show(hV d (7+d.length)).L.length=1;rw[aeU];rfl);clear ft hV1 hS;refine(ja 1 qa _ Wu.o.wi).mono ?_;rintro e _⟨rfl,rfl⟩;go_wp2_with fail
   have uJ:=Hd (Wu.o.wi.k 1);refine(Hr _ uJ.o).mono ?_;rintro e _⟨rfl,rfl⟩;go_wp2_with fail
   have sT:=Hd uJ.o.st;refine(Ba _ sT.o).mono ?_;rintro e _⟨rfl,rfl⟩;go_wp2_with fail
   refine(gj _ _ 0 _ sT.o.t.cells.1).mono ?_;rintro e _⟨rfl,rfl⟩;go_wp2_with fail
   refine(InoW.vt _ sT.o.t.t).mono ?_;rintro e w40⟨oa4,Kr,rfl,_,_,hb⟩;rw[HVV.o];have dL:=Hd (HL.o.grow hb);have ec:=Hd (HK.o.trans (Kp.af hb HL.o.le));have aeY:=Hd (il.o.grow hb);have aiK:=Hd (jv.o.grow hb);have aiL:=Hd (nX.o.grow hb);have aiM:=Hd (zS.o.grow hb);have aiN:=Hd (aaQ.o.grow hb);clear hb HL HK eQ fw il jv nX zS aaQ Wu HVV uJ sT;have y0:=aeY.o.c0;have y1:=aeY.o.c7;have y2:=aiK.o.c0;have y3:=aiL.o.c0;have y4:=aiM.o.c7;have y5:=aiN.o.c0;have y6:(T.toList==T.toList)=true:=beq_self_eq_true _;go_wp2_with fail
   refine(oL w40 dL.o.pv dL.o.fl (qM dL.o.b0 dL.o.le)).mono ?_;rintro e w41⟨rfl,hb⟩;have HK2:=Hd (ec.o.trans (Kp.af hb dL.o.le));clear hb y0 y1 y2 y3 y4 y5 y6;go_wp2_with fail
   go_ret;exact⟨rfl,by rw[Fq.o];exact HK2.o.below⟩
