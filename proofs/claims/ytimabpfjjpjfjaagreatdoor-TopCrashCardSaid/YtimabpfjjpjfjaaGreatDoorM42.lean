/- Part 42 of the texts that the law's walk needs. -/
import Derived.Test.YtimabpfjjpjfjaaGreatDoorM41
set_option maxHeartbeats 3200000
set_option maxRecDepth 100000
set_option linter.all false
open Go renaming World→qo,Calls→qw,Value→qp
open Go.Value renaming int→U,string→qg,agg→ql,bool→qk,slice→qh
open Go.IntKind renaming i64→Z
open Go.Ending renaming returned→qm
open Go.RowKit renaming Below→qz,Hid→qy
open Go.Obj renaming cells→qn
namespace Go.Proofs.YtimabpfjjpjfjaaGreatDoor
open Tryz
open Tryz renaming prog→qx
namespace TopW
open Go.RowKit ConP ConW
variable{w J:qo}
theorem eU(n:Int)(l:Bs)(hl:Lib.itoa n=l)(h0: -9223372036854775808≤n)(h1:n≤9223372036854775807)(UD:l.length≤100)(w:qo)(hv:CV w):
 qw qx 7 #[U Z n] w fun e J=>e=qm (qg (bs l))∧qz w.heap.size w J:=by
 have HV:=Hd hv;have HL:=Hd hl;have H0:=Hd h0;have H1:=Hd h1;have Ee:=Hd UD;clear hv hl h0 h1 UD;go_enter func7,ntmps7;go_wp2_with fail
 refine(QA n l HL.o H0.o H1.o Ee.o HV.o).mono ?_;rintro e w2⟨rfl,hb2⟩;have az:=Hd hb2;clear hb2;go_wp2_with fail
 go_ret;exact⟨rfl,az.o⟩
theorem gW(l:Bs):(bs l).size=l.length:=by show l.toArray.size=_;exact List.size_toArray ..
theorem Mz(q:ByteArray):(q.extract 4 q.size).data.toList=q.data.toList.drop 4:=by
 rw[xL,xJ,xE,qT qc]
theorem aiv(a b c d:UInt8)(l:Bs):(bs (a::b::c::d::l)).extract 4 (bs (a::b::c::d::l)).size=bs l:=by
 apply ByteArray.ext;apply Array.toList_inj.1;rw[Mz];rfl
theorem yU(s:ByteArray)(hs:1≤s.size):1≤(fm s.data.toList).length∧(fm s.data.toList).length≤2*s.size+1:=by
 unfold fm;split
 ·simp
 ·have h1:=nK (Ga s.data.toList);have h2:s.data.toList.length=s.size:=Array.length_toList;omega
theorem RM(s:ByteArray)(hs:1≤s.size∧s.size≤1000)(w:qo)(hv:CV w):
 qw qx 8 #[qg s] w fun e J=>e=qm (qg (bs (fm s.data.toList)))∧qz w.heap.size w J:=by
 have HV:=Hd hv;have HS:=Hd hs;clear hv hs;go_enter func8,ntmps8;go_wp2_with fail
 refine(Lz s HS.o HV.o).mono ?_;rintro e w2⟨rfl,hb2⟩;have az:=Hd hb2;clear hb2;have hl:=yU s HS.o.1;have hn:decide ((((bs ([48,32,100,32]++fm s.data.toList)).size:Nat):Int)<5)=false:=by rw[gW,decide_eq_false_iff_not];simp only[qY,xf,List.length_nil];omega
 have he:(bs ([48,32,100,32]++fm s.data.toList)).extract 4 (bs ([48,32,100,32]++fm s.data.toList)).size=bs (fm s.data.toList):=aiv 48 32 100 32 _;have hb:(4:Int)≤(((bs ([48,32,100,32]++fm s.data.toList)).size:Nat):Int):=by rw[gW];simp only[qY,xf,List.length_nil];omega
 clear hl;have HE:=Hd he;clear he;generalize bs ([48,32,100,32]++fm s.data.toList)=T at*;go_wp2_with fail
 go_ret;rw[←HE.o];exact⟨rfl,az.o⟩
end TopW
namespace TopW
open Go.RowKit OpW
variable{w J:qo}{B wb k m:Nat}{d:Dn}{Q:qo→Prop}
theorem JB{ops:Array Oper}{rest:List Oper}{op:Oper}{a:Act}{w:qo}{Q:Exit→Act→qo→Prop}(uR:op.guard=none)(x:Operand)(ho:op.op= .load 30 x)
 (b:Nat) (cs:Array qp) (hx:a.eval x= .pointer (some ⟨b,0,none⟩)) (hb:w.heap[b]? =some (qn cs 30 (0,0))) (ff:cs.size=8) (h:wpList qx ops Q rest (a.put op.dst (ql cs)) w):wpList qx ops Q (op::rest) a w:=by
 refine wpList_load_mid uR 30 x ho b 0 hx cs.toList _ (nP hb (fun j v hv=>by simpa using hv)) underlying30 rfl (cd.trans (by simp[ff])) ?_;simpa using h
structure Dch(B:Nat)(w J:qo):Prop where
 jq:nT 30 w J
 size:w.heap.size≤J.heap.size
 low: ∀b,b<B→J.heap[b]? =w.heap[b]?
theorem fZ.jq{G:WK}{S:WS}(h:fZ w G S)(k:nT 30 w J)(hs:w.heap.size≤J.heap.size):fZ J G S where
 head:=k.cells h.head qa
 oV:=by obtain⟨x,h1,h2⟩:=h.oV;exact⟨x,k.cells h1 qa,h2⟩
 uh:=by obtain⟨x,h1,h2⟩:=h.uh;exact⟨x,k.cells h1 qa,h2⟩
 nodes:=h.nodes.jq k qa
 lay:=h.lay.aar k qa (fun _ _ _ _ _ _ hp=>hp.jq k qa qa)
 a:=h.a.jq k hs qa (fun _ _ _ _ _ _ hp=>hp.jq k qa qa)
 c:=h.c.jq k hs qa (fun _ _ _ _ _ _ hp=>hp.jq k qa qa)
 nd:=h.nd
theorem RN(h:OpW.Fl w)(hB:10≤B)(k: ∀b,b<B→J.heap[b]? =w.heap[b]?):OpW.Fl J:=fun j h1 h2=>by
 have h3:=h j h1 h2;unfold World.cell? at h3⊢;simp only at h3⊢;rw[k _ (xH qa hB)];exact h3
theorem Sy.dch{G:WK}{S:WS}(h:Sy B w G S)(k:Dch B w J):Sy B J G S:=⟨h.wi.jq k.jq k.size,RN h.fl h.b0 k.low,h.ge,h.b0,qM h.le k.size,h.lr⟩
theorem At.dch{G:WK}{R:Nat→OpP.Rec}{V:Nat→SV}{n:Nat}{now r:Int}{cl:Nat→sO}(h:At B w G R V n now r cl)(k:Dch B w J):At B J G R V n now r cl:=by
 obtain⟨S,h1,h2⟩:=h.ex;exact⟨S,h1.dch k,h2⟩
theorem JC{b:Nat}{cs cs':Array qp}(hb:w.heap[b]? =some (qn cs 30 (0,0)))(hB:B≤b):Dch B w (w.setRow b cs'):=
 ⟨fun c o hc ho=>by
  by_cases e:c=b
  ·subst e;rw[hb]at hc;injection hc with hc;exact qZ hc.symm (ho _ _)
  ·exact(xl w b c cs' e).trans hc,by rw[setRow_size];exact Nat.le_refl _,fun c hc=>xl w b c cs' Y⟩
def vf(w:qo)(f wb:Nat):Prop:=w.heap[f]? =some (qn #[pV wb] 42 (0,0))
theorem vf.cell{f:Nat}(h:vf w f wb):w.cell? ⟨f,0,none⟩=some (pV wb):=(qI h 0)
theorem vf.kp{f:Nat}(h:vf w f wb)(k:Kp B w J):vf J f wb:=k.bC _ _ _ _ h qa
theorem vf.grow{f:Nat}(h:vf w f wb)(k:qz w.heap.size w J):vf J f wb:=ae k h
theorem RO(f:Nat)(hB:B≤w.heap.size)(hf:vf w f wb)(hm:m≤5000)(hQ: ∀w1 w2,Q w1→Dch B w1 w2→Q w2)(h:jb B wb k d Q m w):
 qw qx 17 #[pV f,U Z (k:Nat)] w fun e J=>e=qm (.tuple #[ql (bz d.rc d.rh d.rd),qk true])∧Q J∧Kp B w J:=by
 obtain⟨wA,rb,hAl,rk,h1,hb,l1⟩:=aD w (qn (bz 0 0 ⟨#[]⟩) 30);have HP:qy (jb B wb k d Q m wA):=Hd (h.grow hb);have HK:qy (Kp B w wA):=Hd (Kp.af hb hB);have HR:=Hd h1;have HF:=Hd (hf.grow hb);have HM:=Hd hm;have lH:qy (B≤wA.heap.size):=Hd (qM hB hb.size);have QR:=Hd l1;have HB:=Hd hB;have HQ:=Hd hQ;clear h hb hf hm h1 l1 hB hQ;go_enter func17,ntmps17;go_wp2_with fail
 clear hAl rk
 go_loopw [6] (fun i wr=> ∃j n:Nat,i=U Z (j:Nat)∧j+n=m∧jb B wb k d Q n wr∧Kp B wA wr) (fun i _=>((6000:Int)-intOf i).toNat)
 case atStart=>exact⟨0,m,rfl,Y,HP.o,⟨rfl,rfl,rfl,Nat.le_refl _,fun _ _=>rfl,fun _ _ _ _ h _=>h⟩⟩
 case round=>
  obtain⟨j,n,rfl,hjn,hp,hk⟩:=hrel;have HPr:=Hd hp;have ec:=Hd hk;have HRr:qy (wr.heap[rb]? =some (qn (bz 0 0 ⟨#[]⟩) 30 (0,0))):=Hd (hk.bC _ _ _ _ HR.o qa);have HFr:=Hd (HF.o.kp hk);have aN:decide (((j:Nat):Int)<6000)=true:=by have:=HM.o;rw[qC];omega
  have HJ:=Hd hjn;have f0:=HFr.o.cell;clear hp hk hjn;go_wp2_with fail
  cases n with
  |zero=>
   refine((HPr.o wr (Below.refl _ _)).1).mono ?_;rintro e w5⟨rfl,hb5⟩;have gx:=Hd hb5;have kS:=Hd (ae hb5 HRr.o);clear hb5 f0;obtain⟨wB,p,hBl,hp,h1,hb,l1⟩:=aD w5 (qn (bz 0 0 ⟨#[]⟩) 30);have HX:=Hd h1;have vr:qy (qz w5.heap.size w5 (wB.setRow p (bz d.rc d.rh d.rd))):=Hd (aj hb l1 _);have aF:qy ((wB.setRow p (bz d.rc d.rh d.rd)).heap[p]? =some (qn (bz d.rc d.rh d.rd) 30 (0,0))):=Hd (qJ _ _ _ _ _ _ h1);have tW:=Hd (ae vr.o kS.o);have jd:=Hd (ai gx.o vr.o);obtain⟨wC,hwC⟩: ∃wC,wB.setRow p (bz d.rc d.rh d.rd)=wC:=⟨_,rfl⟩;rw[hwC]at aF tW jd;clear h1 hb l1 vr
   go_wp2_with(first
    |((with_reducible(refine qE rfl 30 (Operand.tmp 7) (Operand.tmp 20) rfl p (bz d.rc d.rh d.rd) ?_ ?_ 30 (bz 0 0 ⟨#[]⟩) ?_ ?_ ?_ ?_ ?_));(·rfl);(·rfl);(·exact HX.o);(·exact cd);(·rfl);(·simp[Value.oneCell']);rw[hwC])
    |((with_reducible(refine JB rfl (Operand.tmp 7) rfl p (bz d.rc d.rh d.rd) ?_ ?_ ?_ ?_));(·rfl);(·exact aF.o);(·rfl))
    |((with_reducible(refine qE rfl 30 (Operand.tmp 4) (Operand.tmp 23) rfl rb (bz d.rc d.rh d.rd) ?_ ?_ 30 (bz 0 0 ⟨#[]⟩) ?_ ?_ ?_ ?_ ?_));(·rfl);(·rfl);(·exact tW.o);(·exact cd);(·rfl);(·simp[Value.oneCell'])))
   refine aY rfl rfl rfl (qJ _ _ _ _ _ _ tW.o) underlying30 rfl cd ?_;have hBr:B≤rb:=qM HB.o QR.o;have hd:Dch B wC (wC.setRow rb (bz d.rc d.rh d.rd)):=JC tW.o hBr;have hq:=HQ.o wC _ (HPr.o wC jd.o).2 hd;have hk:Kp B w wC:=(HK.o.trans ec.o).trans (Kp.af jd.o (qM lH.o ec.o.size));refine⟨rfl,hq,⟨hk.os,hk.tape,hk.output,qM hk.size hd.size,fun b hb=>(hd.low b hb).trans (hk.low b hb),fun b cs t fr e ht=>?_⟩⟩;have bd:b≠rb:=fun e'=>by have:=qK e;have:=QR.o;omega
   exact(xl wC rb b _ bd).trans (hk.bC b cs t fr e ht)
  |succ n=>
   obtain⟨hov,hdo⟩:(∀w1,qz wr.heap.size wr w1→_)∧(∀w1,qz wr.heap.size wr w1→_):=⟨fun w1 hb=>(HPr.o w1 hb).1,fun w1 hb=>(HPr.o w1 hb).2⟩;have HDO:=Hd hdo;refine(hov wr (Below.refl _ _)).mono ?_;rintro e w5⟨rfl,hb5⟩;have gx:=Hd hb5;have TB:=Hd (HFr.o.grow hb5);clear hb5 f0 hov hdo;obtain⟨wB,p,hBl,hp,h1,hb,l1⟩:=aD w5 (qn (bz 0 0 ⟨#[]⟩) 30);have HX:=Hd h1;have vr:qy (qz w5.heap.size w5 (wB.setRow p (bz 0 0 ⟨#[]⟩))):=Hd (aj hb l1 _);have jd:=Hd (ai gx.o vr.o);have HF6:=Hd (TB.o.grow vr.o);obtain⟨wC,hwC⟩: ∃wC,wB.setRow p (bz 0 0 ⟨#[]⟩)=wC:=⟨_,rfl⟩;rw[hwC]at jd HF6;have f6:=HF6.o.cell
   clear h1 hb l1 vr;go_wp2_with((with_reducible(refine qE rfl 30 (Operand.tmp 7) (Operand.tmp 20) rfl p (bz 0 0 ⟨#[]⟩) ?_ ?_ 30 (bz 0 0 ⟨#[]⟩) ?_ ?_ ?_ ?_ ?_));(·rfl);(·rfl);(·exact HX.o);(·exact cd);(·rfl);(·simp[Value.oneCell']);rw[hwC])
   show qw _ _ #[pV wb,goS k] wC _;refine(HDO.o wC jd.o).mono ?_;rintro e w7⟨rfl,hk7,hp7⟩;have HP7:=Hd hp7;have HK7:qy (Kp B wA w7):=Hd ((ec.o.trans (Kp.af jd.o (qM lH.o ec.o.size))).trans hk7);clear hk7 hp7 f6
   have hw1:IntKind.i64.wrap (((j:Nat):Int)+1)=((j+1:Nat):Int):=by
    have:=HJ.o;have:=HM.o;rw[qO _ ⟨Y,Y⟩];omega
   go_wp2_with fail
   have hjn:=HJ.o;have hm':=HM.o;exact⟨⟨j+1,n,qc,Y,HP7.o,HK7.o⟩,by simp[intOf];omega⟩
end TopW
section
open Go.RowKit
section
variable{P:Program}{ops:Array Oper}{Q:Exit→Act→qo→Prop}{md:Region.Mode}{S:qo→Prop}{last:Nat}
theorem Xr(i:Nat)(d:Option Tmp){oi:Oper}{v:qp}{n:Nat}{listed:Array Bool}{a:Act}{w:qo}(hi:ops[i]? =some oi)
 (hs:Region.noSelect ops=true) (hf:Region.free md ops listed i=true) (hr:(Region.ready md ops listed).contains i=true) (ux:ops[last]? =none)
 (hQ: ∀c a w,Q (.panic c) (a.put oi.dst v) w→Q (.panic c) a w) (hg:Region.wanted oi (yielded ops a.tmps)=true) (hd:oi.dst=d) (hS:S w) (hv: ∀J,S J→(execOp a.eval oi).run P J= .ok (.value v) J)
 (h:wpAnyL P md ops Q S last n (listed.setIfInBounds i true) (a.put d v) w):wpAnyL P md ops Q S last (n+1) listed a w:=by
 subst hd;exact NU hi (Region.noSelect_spec hs) ux hQ n listed a w (Region.free_spec hi hf) (by simpa using hr) (.inl ⟨hg,hv⟩) hS h
theorem tG(i d:Nat)(v:qp){oi:Oper}{n:Nat}{listed:Array Bool}{a:Act}{w:qo}(hS:S w)(hv: ∀J,S J→(execOp a.eval oi).run P J= .ok (.value v) J)(h:wpAnyL P md ops Q S last n (listed.setIfInBounds i true) (a.put (some d) v) w)
 (hi:ops[i]? =some oi:=by rfl) (hs:Region.noSelect ops=true:=by kernel_rfl) (hf:Region.free md ops listed i=true:=by kernel_rfl) (hr:(Region.ready md ops listed).contains i=true:=by kernel_rfl) (ux:ops[last]? =none:=by rfl)
 (hg:Region.wanted oi (yielded ops a.tmps)=true:=by rfl) (hd:oi.dst=some d:=by rfl) (hQ: ∀c a w,Q (.panic c) (a.put oi.dst v) w→Q (.panic c) a w:=by exact fun _ _ _ h=>h):wpAnyL P md ops Q S last (n+1) listed a w:=
 Xr i (some d) hi hs hf hr ux hQ hg hd hS hv h
theorem aix(i:Nat){oi:Oper}{n:Nat}{listed:Array Bool}{a:Act}{w:qo}(hr:Region.ready md ops listed=[i])(hi:ops[i]? =some oi)(hg:Region.wanted oi (yielded ops a.tmps)=true)
 (h:oi.wp P a w (fun a' J=>(i≠last→S J)∧wpAnyL P md ops Q S last n (listed.setIfInBounds i true) a' J) Q):wpAnyL P md ops Q S last (n+1) listed a w:=by
 refine⟨fun h0=>(by rw[hr]at h0;cases h0),fun j hj=>?_⟩;rw[hr,qS]at hj;subst hj;unfold Go.wpOp;simp only[hi];rw[qH hg];exact .inl h
end
end
namespace TopW
open Go.RowKit OpW ConP ConW
variable{w J:qo}{B wb k m:Nat}{d:Dn}{Q:qo→Prop}
theorem aaG(h:PV w)(hk: ∀b,b<10→J.heap[b]? =w.heap[b]?):PV J:=by
 obtain⟨⟨⟨t1,p1,h1⟩,⟨t2,p2,h2⟩,h3⟩,t,fr,h4⟩:=h
 have cell: ∀(g:Nat) (v:qp),g<10→w.cell? ⟨g,0,none⟩=some v→J.cell? ⟨g,0,none⟩=some v:=fun g v hg hc=>by
  unfold World.cell? at hc⊢;simp only at hc⊢;rw[hk g hg];exact hc
 refine⟨⟨⟨t1,p1,cell _ _ qa h1⟩,⟨t2,p2,cell _ _ qa h2⟩,?_⟩,t,fr,(hk _ qa).trans h4⟩;unfold Lib.TabIs World.var? at h3⊢;rw[Gw]at h3⊢;simp only[Option.bind_some]at h3⊢;rw[hk _ qa];exact h3
theorem Fa(h:PV w)(hB:10≤B)(k:Kp B w J):PV J:=aaG h (fun b hb=>k.low b Y)
theorem RP{t:Bs}{q:ConP.dK}(h:cI (jz t)=some q):nN t= .tuple #[ql (aG q dE 0 dE),U Z 0]:=by unfold nN;rw[h]
abbrev stZ:Array qp:=#[U Z 0,U Z 0,U Z 0,U Z 0,U Z 0,U Z 0,U Z 0,U Z 0,qg ⟨#[]⟩,qg ⟨#[]⟩,U Z 0,U Z 0,U Z 0,qg ⟨#[]⟩,U Z 0,U Z 0,qh none 0 0,qg ⟨#[]⟩,U Z 0,U Z 0,U Z 0,qg ⟨#[]⟩,U Z 0,qh none 0 0]
theorem Cv(f:Nat)(s:ByteArray)(q:ConP.dK)(hs:s.size≤100000)(hq:cI (jz s.data.toList)=some q)(w:qo)(hf:vf w f wb)(hv:PV w)(hB:B≤w.heap.size)(P:qo→Prop)
 (hD: ∀w1,qz w.heap.size w w1→qw qx 20 #[pV wb,ql (aG q dE 0 dE)] w1 fun e J=>e=qm (U Z 0)∧P J∧Kp B w1 J):
 qw qx 9 #[pV f,qg s] w fun e J=>e=qm (qk true)∧P J∧Kp B w J:=by
 have HS:=Hd hs;have HQ:=Hd hq;have HF:=Hd hf;have HV:=Hd hv;have HB:=Hd hB;have HD:=Hd hD;clear hs hq hf hv hB hD;go_enter func9,ntmps9;go_wp2_with fail
 refine(Ly s (by have:=HS.o;omega) w HV.o).mono ?_;rintro e w2⟨rfl,hb2⟩;rw[RP HQ.o];have az:=Hd hb2;have nz:=Hd (HF.o.grow hb2);clear hb2;obtain⟨wA,p,hAl,hp,h1,hb,l1⟩:=aD w2 (qn stZ 65);have HX:=Hd h1;have vr:qy (qz w2.heap.size w2 (wA.setRow p (aG q dE 0 dE))):=Hd (aj hb l1 _);have aF:qy ((wA.setRow p (aG q dE 0 dE)).heap[p]? =some (qn (aG q dE 0 dE) 65 (0,0))):=Hd (qJ _ _ _ _ _ _ h1);have jd:=Hd (ai az.o vr.o);have HF6:=Hd (nz.o.grow vr.o);obtain⟨wC,hwC⟩: ∃wC,wA.setRow p (aG q dE 0 dE)=wC:=⟨_,rfl⟩;rw[hwC]at aF jd HF6;clear h1 hb l1 vr;obtain⟨C,hC⟩: ∃C,aG q dE 0 dE=C:=⟨_,rfl⟩
 have Lu:qy (C.size=24∧C.all (·.oneCell')=true):=Hd (by rw[←hC];exact⟨rfl,cells_one q 0⟩);have HD':qy (∀w1,qz w.heap.size w w1→qw qx 20 #[pV wb,ql C] w1 fun e J=>e=qm (U Z 0)∧P J∧Kp B w1 J):=Hd (by rw[←hC];exact HD.o);rw[hC]at hwC aF⊢;clear hC HD;go_wp2_with((with_reducible(refine qE rfl 65 (Operand.tmp 5) (Operand.tmp 10) rfl p C ?_ ?_ 65 stZ ?_ ?_ ?_ ?_ ?_));(·rfl);(·rfl);(·exact HX.o);(·rw[Lu.o.1];exact stepSize);(·rw[Lu.o.1];rfl);(·exact Lu.o.2);rw[hwC])
 have eO:qy (∀X,Kp B wC X→X.cell? ⟨f,0,none⟩=some (pV wb)∧X.heap[p]? =some (qn C 65 (0,0))):=Hd fun X hX=>⟨(HF6.o.kp hX).cell,hX.bC _ _ _ _ aF.o qa⟩;have au:qy (Kp B wC wC.drew):=Hd ⟨rfl,rfl,rfl,Nat.le_refl _,fun _ _=>rfl,fun _ _ _ _ h _=>h⟩;have bu:qy (qz w.heap.size w wC.drew):=Hd ⟨jd.o.os,jd.o.tape,jd.o.output,jd.o.size,jd.o.block⟩;have HKC:qy (Kp B w wC):=Hd (Kp.af jd.o HB.o);clear HX hwC hAl hp;refine aB 12 12 (fun X=>Kp B wC X) qd rfl ?_;generalize wC.drew=W0 at au bu⊢;refine tG 0 12 ?_ au.o ?_ ?_;rotate_left
 ·intro wq hq;obtain⟨z0,z1⟩:=eO.o wq hq;exact bJ
 simp only[pS,aS,sZ,sS];refine tG 1 13 ?_ au.o ?_ ?_;rotate_left
 ·intro wq hq;obtain⟨z0,z1⟩:=eO.o wq hq;exact bJ
 simp only[pS,aS,sZ,sS];refine tG 2 14 ?_ au.o ?_ ?_;rotate_left
 ·intro wq hq;obtain⟨z0,z1⟩:=eO.o wq hq;exact bJ
 simp only[pS,aS,sZ,sS];refine tG 3 15 ?_ au.o ?_ ?_;rotate_left
 ·intro wq hq;obtain⟨z0,z1⟩:=eO.o wq hq;exact bJ
 simp only[pS,aS,sZ,sS];refine tG 4 16 ?_ au.o ?_ ?_;rotate_left
 ·intro wq hq;obtain⟨z0,z1⟩:=eO.o wq hq;exact bJ
 simp only[pS,aS,sZ,sS];refine tG 5 17 ?_ au.o ?_ ?_;rotate_left
 ·intro wq hq;obtain⟨z0,z1⟩:=eO.o wq hq;exact bJ
 simp only[pS,aS,sZ,sS];refine tG 6 18 ?_ au.o ?_ ?_;rotate_left
 ·intro wq hq;obtain⟨z0,z1⟩:=eO.o wq hq;exact bJ
 simp only[pS,aS,sZ,sS];refine Xr 7 (some 19) (v:=ql C) rfl qd qd qd rfl (fun _ _ _ h=>h) rfl rfl au.o ?_ ?_
 ·intro wq hq;obtain⟨z0,z1⟩:=eO.o wq hq;exact yR 65 (Operand.tmp 5) rfl p 0 rfl C (nP z1 (fun j v hv=>by simpa using hv)) underlying65 rfl (by rw[Lu.o.1];exact stepSize)
 simp only[pS,aS,sZ,sS];refine aix 8 qd rfl rfl (al (some 20) (f:=20) (args:=#[pV wb,ql C]) rfl qf (fun v X=>v=U Z 0∧P X∧Kp B W0 X) ((HD'.o W0 bu.o).mono fun e J ⟨h1,h2,h3⟩=>⟨_,h1,rfl,h2,h3⟩) ?_);rintro v w5⟨rfl,h5,h6⟩;have H5:=Hd h5;have br:=Hd (au.o.trans h6);clear h5 h6;refine⟨fun _=>br.o,?_⟩;simp only[pS,aS,sZ,sS];refine tG 9 21 ?_ br.o ?_ ?_;rotate_left
 ·intro wq hq;exact bJ
 simp only[pS,aS,sZ,sS];refine tG 10 22 ?_ br.o ?_ ?_;rotate_left
 ·intro wq hq;exact bJ
 simp only[pS,aS,sZ,sS];refine tG 11 4 ?_ br.o ?_ ?_;rotate_left
 ·intro wq hq;exact bJ
 simp only[pS,aS,sZ,sS];refine aU qd ?_;go_wp2_with fail
 go_ret;exact⟨rfl,H5.o,HKC.o.trans br.o⟩
theorem aiy(a b c e:ByteArray):(a++b++c++e).data.toList=a.data.toList++b.data.toList++c.data.toList++e.data.toList:=by
 simp[ByteArray.data_append,Array.toList_append]
theorem fV(k:Nat)(hk:k<10):Lib.itoa (k:Nat)=[UInt8.ofNat (48+k)]:=by rw[nt,Lib.decDigits,dif_pos hk]
theorem nU(f k:Nat)(hk:k<2)(call:ByteArray)(q:ConP.dK)(hs:call.size≤50000)(hq:cI (jz ([99,32]++[UInt8.ofNat (48+k)]++[32]++call.data.toList))=some q)(w:qo)(hf:vf w f wb)(hv:PV w)(h10:10≤B)(hB:B≤w.heap.size)(hm:m≤5000)
 (hQ: ∀w1 w2,Q w1→Dch B w1 w2→Q w2)
 (hD: ∀w1,qz w.heap.size w w1→qw qx 20 #[pV wb,ql (aG q dE 0 dE)] w1 fun e J=>e=qm (U Z 0)∧jb B wb k d Q m J∧Kp B w1 J):
 qw qx 6 #[pV f,U Z (k:Nat),qg call] w fun e J=>e=qm (ql (bz d.rc d.rh d.rd))∧Q J∧Kp B w J:=by
 obtain⟨wA,rb,hAl,rk,h1,hb,l1⟩:=aD w (qn (bz 0 0 ⟨#[]⟩) 30);have HB:=Hd hb;have HL:=Hd l1;have HR:=Hd h1;have HF:=Hd (hf.grow hb);have HV:=Hd (hv.ag hb);have oN:qy (B≤wA.heap.size):=Hd (qM hB hb.size);have lH:=Hd hB;have HS:=Hd hs;have HPQ:=Hd hq;have HM:=Hd hm;have HQ:=Hd hQ;have HK:=Hd hk;have HT:=Hd h10;have HD:=Hd hD;clear hf hv h10 hB hm hQ hD hs hq hk h1 hb l1;go_enter func6,ntmps6;go_wp2_with fail
 clear hAl rk;refine(eU (k:Nat) [UInt8.ofNat (48+k)] (fV k (by have:=HK.o;omega)) Y (by have:=HK.o;omega) qc wA HV.o.cv).mono ?_;rintro e w2⟨rfl,hb2⟩;have az:=Hd (ai HB.o hb2);have nz:=Hd (HF.o.grow hb2);have Qn:=Hd (HV.o.ag hb2);have eB:=Hd (ae hb2 HR.o);have aeQ:qy (B≤w2.heap.size):=Hd (qM oN.o hb2.size);obtain⟨D,hDD⟩: ∃D,bs [UInt8.ofNat (48+k)]=D:=⟨_,rfl⟩;have HDL:qy (D.data.toList=[UInt8.ofNat (48+k)]):=Hd (by rw[←hDD];rfl);have HDZ:qy (D.size=1):=Hd (by rw[←hDD];rfl);rw[hDD];clear hb2 hDD;have f1: ¬9223372036854775807<2+D.size:=by have:=HDZ.o;omega
 have f2: ¬9223372036854775807<2+D.size+1:=by have:=HDZ.o;omega
 have f3: ¬9223372036854775807<2+D.size+1+call.size:=by have:=HDZ.o;have:=HS.o;omega
 go_wp2_with fail
 clear f1 f2 f3;obtain⟨s,hs0⟩: ∃s,((⟨#[99,32]⟩:ByteArray)++D++⟨#[32]⟩++call)=s:=⟨_,rfl⟩;have hsl:s.data.toList=[99,32]++[UInt8.ofNat (48+k)]++[32]++call.data.toList:=by rw[←hs0,aiy,HDL.o]
 have dY:s.size≤100000:=by
  have h1:s.data.toList.length=s.size:=Array.length_toList;have h2:call.data.toList.length=call.size:=Array.length_toList;rw[hsl]at h1;have:=HS.o;simp only[qY,xf,List.length_nil]at h1;omega
 have ve:cI (jz s.data.toList)=some q:=by rw[hsl];exact HPQ.o
 rw[hs0];have aeR:=Cv f s q dY ve w2 nz.o Qn.o aeQ.o (fun J=>jb B wb k d Q m J) (fun w1 hb1=>HD.o w1 (ai az.o hb1));clear hsl dY ve hs0;refine aeR.mono ?_;clear aeR;rintro e w3⟨rfl,h3,h4⟩;have uW:=Hd h3;have HK3:qy (Kp B w w3):=Hd ((Kp.af az.o lH.o).trans h4);have It:=Hd (nz.o.kp h4);have eE:qy (w3.heap[rb]? =some (qn (bz 0 0 ⟨#[]⟩) 30 (0,0))):=Hd (h4.bC _ _ _ _ eB.o qa);have cu:qy (B≤w3.heap.size):=Hd (qM aeQ.o h4.size);clear h3 h4;go_wp2_with fail
 refine(RO f cu.o It.o HM.o HQ.o uW.o).mono ?_;rintro e w4⟨rfl,h5,h6⟩;have HQ4:=Hd h5;have HK4:qy (Kp B w w4):=Hd (HK3.o.trans h6);have pj:qy (w4.heap[rb]? =some (qn (bz 0 0 ⟨#[]⟩) 30 (0,0))):=Hd (h6.bC _ _ _ _ eE.o qa);have dp:qy (B≤w4.heap.size):=Hd (qM cu.o h6.size);clear h5 h6;obtain⟨wB,p,hBl,hp,h1,hb,l1⟩:=aD w4 (qn (bz 0 0 ⟨#[]⟩) 30);have HX:=Hd h1;have dI:qz w4.heap.size w4 (wB.setRow p (bz d.rc d.rh d.rd)):=aj hb l1 _;have aF:qy ((wB.setRow p (bz d.rc d.rh d.rd)).heap[p]? =some (qn (bz d.rc d.rh d.rd) 30 (0,0))):=Hd (qJ _ _ _ _ _ _ h1);have tW:=Hd (ae dI pj.o)
 have HQ6:qy (Q (wB.setRow p (bz d.rc d.rh d.rd))):=Hd (HQ.o w4 _ HQ4.o ⟨nT.af dI,dI.size,fun b hb=>dI.block b (xH hb dp.o)⟩);have HK6:qy (Kp B w (wB.setRow p (bz d.rc d.rh d.rd))):=Hd (HK4.o.trans (Kp.af dI dp.o));obtain⟨wC,hwC⟩: ∃wC,wB.setRow p (bz d.rc d.rh d.rd)=wC:=⟨_,rfl⟩;rw[hwC]at aF tW HQ6 HK6;clear h1 hb l1 dI
 go_wp2_with(first
  |((with_reducible(refine qE rfl 30 (Operand.tmp 7) (Operand.tmp 23) rfl p (bz d.rc d.rh d.rd) ?_ ?_ 30 (bz 0 0 ⟨#[]⟩) ?_ ?_ ?_ ?_ ?_));(·rfl);(·rfl);(·exact HX.o);(·exact cd);(·rfl);(·simp[Value.oneCell']);rw[hwC])
  |((with_reducible(refine JB rfl (Operand.tmp 7) rfl p (bz d.rc d.rh d.rd) ?_ ?_ ?_ ?_));(·rfl);(·exact aF.o);(·rfl))
  |((with_reducible(refine qE rfl 30 (Operand.tmp 6) (Operand.tmp 28) rfl rb (bz d.rc d.rh d.rd) ?_ ?_ 30 (bz 0 0 ⟨#[]⟩) ?_ ?_ ?_ ?_ ?_));(·rfl);(·rfl);(·exact tW.o);(·exact cd);(·rfl);(·simp[Value.oneCell'])))
 try simp only[Act.put]
 refine aR rfl rfl rfl (qJ _ _ _ _ _ _ tW.o) underlying30 rfl cd ?_;have hBr:B≤rb:=qM lH.o HL.o;have hd:Dch B wC (wC.setRow rb (bz d.rc d.rh d.rd)):=JC tW.o hBr;have hq:=HQ.o wC _ HQ6.o hd;have hk:=HK6.o;refine⟨rfl,hq,⟨hk.os,hk.tape,hk.output,qM hk.size hd.size,fun b hb=>(hd.low b hb).trans (hk.low b hb),fun b cs t fr e ht=>?_⟩⟩;have bd:b≠rb:=fun e'=>by have:=qK e;have:=HL.o;omega
 exact(xl wC rb b _ bd).trans (hk.bC b cs t fr e ht)
open OpP (Rec)
variable{n f:Nat}{G:WK}{R:Nat→Rec}{V:Nat→SV}{y:Nat→oR}{now r:Int}{cl:Nat→sO}
structure uj(B:Nat)(w:qo)(f:Nat)(G:WK)(R:Nat→Rec)(V:Nat→SV)(n:Nat)(now r:Int)(cl:Nat→sO):Prop where
 at_:At B w G R V n now r cl
 fs:vf w f G.wb
 pv:PV w
 b0:10≤B
 le:B≤w.heap.size
theorem uj.grow(h:uj B w f G R V n now r cl)(k:qz w.heap.size w J):uj B J f G R V n now r cl:=⟨h.at_.grow k,h.fs.grow k,h.pv.ag k,h.b0,qM h.le k.size⟩
theorem uj.next{n':Nat}{now' r':Int}{cl':Nat→sO}(h:uj B w f G R V n now r cl)(k:Kp B w J)(ha:At B J G R V n' now' r' cl'):uj B J f G R V n' now' r' cl':=⟨ha,h.fs.kp k,Fa h.pv h.b0 k,h.b0,qM h.le k.size⟩
theorem rA(hk:k<2)(call:ByteArray)(kd hd:Int)(p:ByteArray)(hs:call.size≤50000)(hq:cI (jz ([99,32]++[UInt8.ofNat (48+k)]++[32]++call.data.toList))=some (DA (k:Nat) kd p hd))(w:qo)(h:uj B w f G R V n now r cl)(hj:(cl k).j≤n)(hn:n≤900)(hh:My R V y (n+1))
 (hr:R n=⟨(k:Nat),(cl k).sq,kd,p,⟨#[]⟩,0,hd,0,⟨#[]⟩,ZX kd now 0,0,[]⟩) (Hm:0≤now∧now≤1000000) (hko:kd=11∨kd=12∨1≤kd∧kd≤9) (ve:0≤(cl k).sq∧(cl k).sq≤1000000):
 qw qx 6 #[pV f,U Z (k:Nat),qg call] w fun e J=>e=qm (ql (bz (y n).c (y n).h ⟨#[]⟩))∧uj B J f G R V (n+1) now r (ik cl k ⟨(cl k).sq+1,n+1,(cl k).buf⟩)∧Kp B w J:=by
 refine cW ?_ (nU (d:=⟨(y n).c,(y n).h,⟨#[]⟩⟩) (m:=n-(cl k).j+4) (Q:=fun w1=>At B w1 G R V (n+1) now r (ik cl k ⟨(cl k).sq+1,n+1,(cl k).buf⟩)) f k hk call _ hs hq w h.fs h.pv h.b0 h.le Y (fun _ _ h1 h2=>At.dch h1 h2) (fun w1 hb1=>?_))
 ·rintro e w2⟨h1,h2,h3⟩;exact⟨h1,h.next h3 h2,h3⟩
 ·exact aeL hk _ rfl rfl rfl dE 0 w1 (h.at_.grow hb1) hj hn hh hr Hm hko ve
theorem RQ(call:ByteArray)(hc:call=⟨#[115,121,110,99,32,49]⟩)(w:qo)(h:uj B w f G R V n now r cl)(hj:(cl 0).j≤n)(hn:n≤900)(hh:My R V y (n+1))(x:zb)(kq:(cl 0).buf=some x)(RJ:x.h=1)
 (hr:R n=⟨0,(cl 0).sq,10,⟨#[]⟩,⟨#[]⟩,0,1,x.o,x.d,0,0,[]⟩) (hyc:(y n).c=0) (ve:0≤(cl 0).sq∧(cl 0).sq≤1000000):
 qw qx 6 #[pV f,U Z 0,qg call] w fun e J=>e=qm (ql (bz 0 0 ⟨#[]⟩))∧uj B J f G R V (n+1) now r (ik cl 0 ⟨(cl 0).sq+1,n+1,none⟩)∧Kp B w J:=by
 subst hc;refine cW ?_ (nU (d:=⟨0,0,⟨#[]⟩⟩) (m:=n-(cl 0).j+4) (Q:=fun w1=>At B w1 G R V (n+1) now r (ik cl 0 ⟨(cl 0).sq+1,n+1,none⟩)) f 0 qa ⟨#[115,121,110,99,32,49]⟩ _ qa Tn w h.fs h.pv h.b0 h.le Y (fun _ _ h1 h2=>At.dch h1 h2) (fun w1 hb1=>?_))
 ·rintro e w2⟨h1,h2,h3⟩;exact⟨h1,h.next h3 h2,h3⟩
 ·exact VJ qa _ rfl rfl rfl dE rfl dE 0 w1 (h.at_.grow hb1) hj hn hh x kq RJ.symm (by rw[RJ];exact hr) hyc ve
theorem MA(call:ByteArray)(u:Nat)(x:ByteArray)(hc:call.data.toList=[119,114,105,116,101,32,49,32]++Lib.decDigits u++[32]++fm x.data.toList)(hs:call.size≤50000)(hu:u≤7000)(hx:1≤x.size∧x.size≤1000)(w:qo)(h:uj B w f G R V n now r cl)(kq:(cl 0).buf=none):
 qw qx 6 #[pV f,U Z 0,qg call] w fun e J=>e=qm (ql (bz 0 0 ⟨#[]⟩))∧uj B J f G R V n now r (ik cl 0 ⟨(cl 0).sq,(cl 0).j,some ⟨1,(u:Nat),x⟩⟩)∧Kp B w J:=by
 have hq:cI (jz ([99,32]++[UInt8.ofNat (48+0)]++[32]++call.data.toList))=some (kL 0 5 1 (u:Nat) 0 x):=by
  rw[hc,←OC u Y x];rfl
 refine cW ?_ (nU (d:=⟨0,0,⟨#[]⟩⟩) (m:=0) (Q:=fun w1=>At B w1 G R V n now r (ik cl 0 ⟨(cl 0).sq,(cl 0).j,some ⟨1,(u:Nat),x⟩⟩)) f 0 qa call _ hs hq w h.fs h.pv h.b0 h.le Y (fun _ _ h1 h2=>At.dch h1 h2) (fun w1 hb1=>?_))
 ·rintro e w2⟨h1,h2,h3⟩;exact⟨h1,h.next h3 h2,h3⟩
 ·exact RL qa _ rfl rfl rfl dE rfl dE 0 w1 (h.at_.grow hb1) kq ⟨by show(0:Int)≤1∧(1:Int)<16384;decide,by show(0:Int)≤(u:Nat);omega,by show((u:Nat):Int)≤7000;omega,hx.1,by show x.size≤1024;omega⟩
theorem Fb(hk:k<2)(call:ByteArray)(hd:Int)(hs:call.size≤50000)(hq:cI (jz ([99,32]++[UInt8.ofNat (48+k)]++[32]++call.data.toList))=some (kL (k:Nat) 4 hd 0 8192 ⟨#[]⟩))(w:qo)(h:uj B w f G R V n now r cl)(hj:(cl k).j≤n)(hn:n≤900)(hh:My R V y n)(RJ:0≤hd∧hd≤1000)(rC:bq.BA (V n).H (k:Nat) hd=false):
 qw qx 6 #[pV f,U Z (k:Nat),qg call] w fun e J=>e=qm (ql (bz 68 0 ⟨#[]⟩))∧uj B J f G R V n now r (ik cl k ⟨(cl k).sq,n,(cl k).buf⟩)∧Kp B w J:=by
 refine cW ?_ (nU (d:=⟨68,0,⟨#[]⟩⟩) (m:=n-(cl k).j+1) (Q:=fun w1=>At B w1 G R V n now r (ik cl k ⟨(cl k).sq,n,(cl k).buf⟩)) f k hk call _ hs hq w h.fs h.pv h.b0 h.le Y (fun _ _ h1 h2=>At.dch h1 h2) (fun w1 hb1=>?_))
 ·rintro e w2⟨h1,h2,h3⟩;exact⟨h1,h.next h3 h2,h3⟩
 ·exact Hp hk _ rfl rfl rfl dE rfl dE 0 w1 (h.at_.grow hb1) hj hh rfl rfl RJ rC
theorem Cw{pl:List ExtW.Pt}(hk:k<2)(call:ByteArray)(hd fz:Int)(hs:call.size≤50000)(hq:cI (jz ([99,32]++[UInt8.ofNat (48+k)]++[32]++call.data.toList))=some (kL (k:Nat) 4 hd 0 fz ⟨#[]⟩))(w:qo)(h:uj B w f G R V n now r cl)(hj:(cl k).j≤n)(hn:n≤900)(hh:My R V y n)(RJ:0≤hd∧hd≤1000)
 (rC:bq.BA (V n).H (k:Nat) hd=true) (ino sz:Int) (hoi:bq.yZ (V n).H (k:Nat) hd=ino) (hi:InoW.kI ino) (sT:(InoW.bL (V n).L ino).s=sz) (dY:0≤sz∧sz≤fz) (SD:fz≤8192)
 (vc:ExtW.ku (InoW.cY (V n).L ino) 0 sz=pl) (aeO:(InoW.cY (V n).L ino).length≤1000) (Xj:pl.length≤1000) (Nr:(pl.map (·.a)).Pairwise (· < ·)) (hz: ∀z:Int,z∈pl.map (·.a)→ ∃j,j<n∧z=(j:Nat)∧(R j).k=10) {L:List UInt8} (hL:vE R pl L):
 qw qx 6 #[pV f,U Z (k:Nat),qg call] w fun e J=>e=qm (ql (bz 0 0 ⟨L.toArray⟩))∧uj B J f G R V n now r (ik cl k ⟨(cl k).sq,n,(cl k).buf⟩)∧Kp B w J:=by
 refine cW ?_ (nU (d:=⟨0,0,⟨L.toArray⟩⟩) (m:=pl.length+(n-(cl k).j)+1) (Q:=fun w1=>At B w1 G R V n now r (ik cl k ⟨(cl k).sq,n,(cl k).buf⟩)) f k hk call _ hs hq w h.fs h.pv h.b0 h.le Y (fun _ _ h1 h2=>At.dch h1 h2) (fun w1 hb1=>?_))
 ·rintro e w2⟨h1,h2,h3⟩;exact⟨h1,h.next h3 h2,h3⟩
 ·exact EY hk _ rfl rfl rfl dE rfl dE 0 w1 (h.at_.grow hb1) hj hh rfl RJ rC ino sz hoi hi sT dY SD vc aeO Xj Nr hz hL
theorem RR(w:qo)(h:uj B w f G R V n 0 r cl):
 qw qx 9 #[pV f,qg ⟨#[116,32,53,48,48]⟩] w fun e J=>e=qm (qk true)∧uj B J f G R V n 500 r cl∧Kp B w J:=by
 refine cW ?_ (Cv f ⟨#[116,32,53,48,48]⟩ ⟨5,0,500,0,jN 0 0⟩ qa To w h.fs h.pv h.le (fun J=>At B J G R V n 500 r cl) (fun w1 hb1=>?_))
 ·rintro e w2⟨h1,h2,h3⟩;exact⟨h1,h.next h3 h2,h3⟩
 obtain⟨S,hs,ht,hSk,fU,Jz,EW,ft⟩:=(h.at_.grow hb1).ex;refine cW (fun e J h=>⟨h.1,h.2⟩) (vD ⟨5,0,500,0,jN 0 0⟩ dE dE 0 5 rfl (.inr (.inr (.inl rfl))) w1 hs.wi 0 (fun J=>At B J G R V n 500 r cl∧Kp B w1 J) (fun w2 hb2 hw2=>?_));have hs2:=hs.grow hb2;refine cW ?_ (Mw ⟨5,0,500,0,jN 0 0⟩ dE dE 0 rfl Jz w2 hw2);rintro e w3⟨h1,h2,h3⟩;have Sj:G.wb∈G.soft:=by simp[WK.soft]
 have hM: ∀x∈[G.wb],B≤x:=fun x hx=>by simp only[qS]at hx;rw[hx];exact hs.ge _ Sj
 refine⟨h1,⟨{S with now:=500},⟨h2,mD hs2.fl h3 (fun x hx=>qM hs.b0 (hM x hx)),hs.ge,hs.b0,qM hs2.le h3.size,hs.lr⟩,ht,hSk,fU,rfl,EW,ft⟩,(Kp.af hb2 hs.le).trans (Kp.Ju h3 hM hs2.le)⟩
theorem MB(w:qo)(h:uj B w f G R V n now 0 cl)(hV:V 0=sv0):
 qw qx 9 #[pV f,qg ⟨#[120,32,48]⟩] w fun e J=>e=qm (qk true)∧(∃A,uj B J f {G with A:=A} R V n now 1 (ik cl 0 ⟨65537,0,none⟩))∧Kp B w J:=by
 refine cW ?_ (Cv f ⟨#[120,32,48]⟩ ⟨6,0,0,0,jN 0 0⟩ qa OA w h.fs h.pv h.le (fun J=> ∃A,At B J {G with A:=A} R V n now 1 (ik cl 0 ⟨65537,0,none⟩)) (fun w1 hb1=>?_))
 ·rintro e w2⟨h1,⟨A,h2⟩,h3⟩;exact⟨h1,⟨A,⟨h2,h.fs.kp h3,Fa h.pv h.b0 h3,h.b0,qM h.le h3.size⟩⟩,h3⟩
 obtain⟨S,hs,ht,hSk,fU,Jz,EW,ft⟩:=(h.at_.grow hb1).ex;refine cW (fun e J h=>⟨h.1,h.2⟩) (vD ⟨6,0,0,0,jN 0 0⟩ dE dE 0 6 rfl (.inr (.inr (.inr rfl))) w1 hs.wi 0 (fun J=>(∃A,At B J {G with A:=A} R V n now 1 (ik cl 0 ⟨65537,0,none⟩))∧Kp B w1 J) (fun w2 hb2 hw2=>?_));have hs2:=hs.grow hb2;refine cW ?_ (Hq ⟨6,0,0,0,jN 0 0⟩ dE dE 0 rfl EW w2 hw2);rintro e w3⟨h1,A,h2,h3,h4⟩
 have aeS: ∀b,b<B→w3.heap[b]? =w2.heap[b]? :=fun b hb=>by
  have aN:b<w2.heap.size:=xH hb hs2.le;exact(h4.block b _ (by have:=hs.lr.1;omega) (by have:=hs.lr.2;omega) (Array.getElem?_eq_getElem aN)).trans (Array.getElem?_eq_getElem aN).symm
 have hk:Kp B w2 w3:=⟨h4.os,h4.tape,h4.output,h4.size,aeS,fun b cs t fr e ht=>by
  obtain⟨x,x1,_⟩:=hw2.oV;obtain⟨z,z1,_⟩:=hw2.uh;refine h4.block b _ ?_ ?_ e
  ·rintro rfl;rw[x1]at e;injection e with e;injection e with _ e _;subst e;exact qZ ht qa
  ·rintro rfl;rw[z1]at e;injection e with e;injection e with _ e _;subst e;exact qZ ht qa⟩
 refine⟨h1,⟨A,{S with r:=1,a:=Su 0 1},⟨h2,RN hs2.fl hs.b0 aeS,?_,hs.b0,qM hs2.le h4.size,hs.lr⟩,ht,hSk,fU,Jz,rfl,?_⟩,(Kp.af hb2 hs.le).trans hk⟩
 ·intro x hx;simp only[WK.soft,qG,xa]at hx;rcases hx with rfl|hx|hx|hx
  ·exact hs.ge _ (by simp[WK.soft])
  ·exact hs.ge _ (by simp[WK.soft,hx])
  ·exact qM hs2.le (h3 x hx)
  ·exact hs.ge _ (by simp[WK.soft,hx])
 ·intro i hi;unfold ik;by_cases e:i=0
  ·subst e;rw[qH rfl];exact⟨rfl,rfl,hV.symm,rfl,rfl,rfl⟩
  ·rw[qB e];have hr:=ft i hi;have e2:WS.s {S with r:=1,a:=Su 0 1} i=S.s i:=by unfold WS.s;rw[qB e,qB e]
   rw[e2];exact hr
end TopW
namespace TopW
open Go.RowKit
open OpP (Rec ck)
open ExtW (Pt ku)
def hR(d:List ByteArray)(j:Nat):Rec:=
 if j=0 then aal else if j=1 then Cr 0 2 else if j=2 then Cr 1 1 else if j<3+d.length then zO (j:Nat) (bR (d.take (j-3))) (d.getD (j-3) ⟨#[]⟩)
 else if j=3+d.length then Vj else if j=4+d.length then Vk else if j=5+d.length then Vl else Vm
def hy(d:List ByteArray)(j:Nat):oR:=
 if j=0 then⟨1,0,0⟩else if j=1 then⟨2,0,1⟩else if j=2 then⟨1,0,2⟩else if j<3+d.length then⟨(j:Nat),0,0⟩
 else if j=3+d.length then⟨2,0,0⟩else if j=4+d.length then⟨3,0,0⟩else if j=5+d.length then⟨4,0,0⟩else⟨5,0,0⟩
def hO(d:List ByteArray):Nat→Int→Option oR
 |0=>fun _=>none
 |j+1=>fJ (hO d j) (hR d j).cl (hy d j)
def hV(d:List ByteArray)(j:Nat):SV:=
 if j=0 then⟨[InoP.root],2,[],[],Fx,hO d 0,0⟩else if j=1 then mM dA [] Fx (hO d 1) 1 1 0 []else if j=2 then mM dA [hA] Fx (hO d 2) 2 1 1 []
 else if j≤3+d.length then mM dA [hA,hB] Fx (hO d j) (j:Nat) 1 2 (d.take (j-3))
 else if j=4+d.length then mM dA [hA,hB] Cq (hO d j) (j:Nat) 1 2 d else if j=5+d.length then mM [] [hA,hB] Cq (hO d j) (j:Nat) 0 2 d
 else if j=6+d.length then mM [] [hB] Cq (hO d j) (j:Nat) 0 1 d else⟨[InoP.root],3,[],[],Cq,hO d j,(j:Nat)⟩
variable{d:List ByteArray}
theorem hV0:hV d 0=sv0:=rfl
theorem RS{i:Nat}(hi:i<d.length):hR d (3+i)=zO ((3+i:Nat):Int) (bR (d.take i)) (d.getD i ⟨#[]⟩):=by
 unfold hR;rw[qB Y,qB Y,qB Y,qH Y,show 3+i-3=i by omega]
theorem VK{i:Nat}(hi:i<d.length):hy d (3+i)=⟨((3+i:Nat):Int),0,0⟩:=by
 unfold hy;rw[qB Y,qB Y,qB Y,qH Y]
theorem RT{i:Nat}(hi:i≤d.length):hV d (3+i)=mM dA [hA,hB] Fx (hO d (3+i)) ((3+i:Nat):Int) 1 2 (d.take i):=by
 unfold hV;rw[qB Y,qB Y,qB Y,qH Y,show 3+i-3=i by omega]
theorem Fc:hR d (3+d.length)=Vj∧hy d (3+d.length)=⟨2,0,0⟩:=by
 unfold hR hy;rw[qB Y,qB Y,qB Y,qB Y,qH rfl,qB Y,qB Y,qB Y,qB Y,qH rfl];exact⟨rfl,rfl⟩
theorem Fe:hR d (4+d.length)=Vk∧hy d (4+d.length)=⟨3,0,0⟩:=by
 unfold hR hy;rw[qB Y,qB Y,qB Y,qB Y,qB Y,qH rfl,qB Y,qB Y,qB Y,qB Y,qB Y,qH rfl];exact⟨rfl,rfl⟩
theorem Ff:hR d (5+d.length)=Vl∧hy d (5+d.length)=⟨4,0,0⟩:=by
 unfold hR hy;rw[qB Y,qB Y,qB Y,qB Y,qB Y,qB Y,qH rfl,qB Y,qB Y,qB Y,qB Y,qB Y,qB Y,qH rfl];exact⟨rfl,rfl⟩
theorem MC:hR d (6+d.length)=Vm∧hy d (6+d.length)=⟨5,0,0⟩:=by
 unfold hR hy;rw[qB Y,qB Y,qB Y,qB Y,qB Y,qB Y,qB Y,qB Y,qB Y,qB Y,qB Y,qB Y,qB Y,qB Y];exact⟨rfl,rfl⟩
theorem aeT:hV d (4+d.length)=mM dA [hA,hB] Cq (hO d (4+d.length)) ((4+d.length:Nat):Int) 1 2 d:=by
 unfold hV;rw[qB Y,qB Y,qB Y,qB Y,qH rfl]
theorem aaH:hV d (5+d.length)=mM [] [hA,hB] Cq (hO d (5+d.length)) ((5+d.length:Nat):Int) 0 2 d:=by
 unfold hV;rw[qB Y,qB Y,qB Y,qB Y,qB Y,qH rfl]
theorem VL:hV d (6+d.length)=mM [] [hB] Cq (hO d (6+d.length)) ((6+d.length:Nat):Int) 0 1 d:=by
 unfold hV;rw[qB Y,qB Y,qB Y,qB Y,qB Y,qB Y,qH rfl]
theorem aeU:hV d (7+d.length)=⟨[InoP.root],3,[],[],Cq,hO d (7+d.length),((7+d.length:Nat):Int)⟩:=by
 unfold hV;rw[qB Y,qB Y,qB Y,qB Y,qB Y,qB Y,qB Y]
theorem sQ(j:Nat)(c:Int):dQ (hO d (j+1)) c=if c=(hR d j).cl then hy d j else dQ (hO d j) c:=by rw[hO,Be]
theorem aaI: ∀i,i≤d.length→(dQ (hO d (3+i)) 0).s=((2+i:Nat):Int)∧(dQ (hO d (3+i)) 1).s=1
 |0,_=>⟨rfl,rfl⟩
 |i+1,h=>by
  obtain⟨h1,h2⟩:=aaI i Y;have hr:=RS (d:=d) (i:=i) Y;have hyy:=VK (d:=d) (i:=i) Y;constructor
  ·rw[show 3+(i+1)=(3+i)+1 by omega,sQ,hr,qH (by rfl),hyy];show((3+i:Nat):Int)=_;omega
  ·rw[show 3+(i+1)=(3+i)+1 by omega,sQ,hr,qB (by show¬((1:Int)=0);decide)];exact h2
theorem aiB:(dQ (hO d (4+d.length)) 1).s=2:=by rw[show 4+d.length=(3+d.length)+1 by omega,sQ,Fc.1,qH (by rfl),Fc.2]
theorem aiC:(dQ (hO d (5+d.length)) 1).s=3:=by rw[show 5+d.length=(4+d.length)+1 by omega,sQ,Fe.1,qH (by rfl),Fe.2]
theorem aiD:(dQ (hO d (6+d.length)) 1).s=4:=by rw[show 6+d.length=(5+d.length)+1 by omega,sQ,Ff.1,qH (by rfl),Ff.2]
theorem JD(h:ue d)(i:Nat):ue (d.take i):=⟨by have:=h.len;simp;omega,fun x hx=>h.each x (List.mem_of_mem_take hx)⟩
theorem Cx{i:Nat}(hi:i<d.length):d.take (i+1)=d.take i++[d.getD i ⟨#[]⟩]:=by
 rw[xA]
 congr 1
 rw[xz,qN hi];rfl
theorem VM(n:Nat): ∀i,i≤n→(hV d i).n=(i:Nat):=fun i _=>by
 unfold hV;split
 ·rename_i e;subst e;rfl
 split
 ·rename_i e;subst e;rfl
 split
 ·rename_i e;subst e;rfl
 repeat(split;·rfl)
 rfl
theorem VN(h:ue d)(i:Nat)(hi:i<7+d.length):dK (hV d i) (hR d i) (hy d i) (hV d (i+1)):=by
 have hlen:=h.len;by_cases h0:i=0
 ·subst h0;exact Vn _ (by show(0:Int)<1;decide)
 by_cases h1:i=1
 ·subst h1;exact Jp 0 2 [] [hA] Fx (hO d 1) 1 0 [] (.inl rfl) qa qa qa (by show(1:Int)<2;decide) qd qd
 by_cases h2:i=2
 ·subst h2;have e:hV d 3=mM dA [hA,hB] Fx (hO d 3) ((3:Nat):Int) 1 2 (d.take 0):=RT (d:=d) (i:=0) Y;rw[e];exact Jp 1 1 [hA] [hA,hB] Fx (hO d 2) 2 1 [] (.inr rfl) qa qa qa (by show(0:Int)<1;decide) qd qd
 by_cases h3:i<3+d.length
 ·obtain⟨j,rfl⟩: ∃j,i=3+j:=⟨i-3,Y⟩;have hj:j<d.length:=Y;have e1:=RT (d:=d) (i:=j) Y;have e2:=RT (d:=d) (i:=j+1) Y;rw[show 3+j+1=3+(j+1) by omega,e1,e2,RS hj,VK hj,Cx hj]
  have hO:hO d (3+(j+1))=fJ (hO d (3+j)) 0 ⟨((3+j:Nat):Int),0,0⟩:=by
   show fJ (hO d (3+j)) (hR d (3+j)).cl (hy d (3+j))=_;rw[RS hj,VK hj];rfl
  rw[hO];have hl:(d.take j).length=j:=by simp;omega
  have e3:((3+(j+1):Nat):Int)=((3+j:Nat):Int)+1:=Y;rw[e3];exact Vo _ [hA,hB] Fx (TopW.hO d (3+j)) _ 1 2 (d.take j) _ (by rw[←Cx hj];exact JD h _) Y (by rw[hl];omega) (by rw[(aaI j Y).1];omega) qd
 by_cases h4:i=3+d.length
 ·subst h4;have e1:=RT (d:=d) (i:=d.length) (Nat.le_refl _);rw[List.take_length]at e1
  have hO:hO d (4+d.length)=fJ (hO d (3+d.length)) 1 ⟨2,0,0⟩:=by
   rw[show 4+d.length=(3+d.length)+1 by omega];show fJ _ (hR d (3+d.length)).cl (hy d (3+d.length))=_;rw[Fc.1,Fc.2];rfl
  rw[show 3+d.length+1=4+d.length by omega,e1,aeT,Fc.1,Fc.2,hO,show((4+d.length:Nat):Int)=((3+d.length:Nat):Int)+1 by omega];exact Vp [hA,hB] _ _ 1 2 d Y (by rw[(aaI d.length (Nat.le_refl _)).2];decide)
 by_cases h5:i=4+d.length
 ·subst h5
  have hO:hO d (5+d.length)=fJ (hO d (4+d.length)) 1 ⟨3,0,0⟩:=by
   rw[show 5+d.length=(4+d.length)+1 by omega];show fJ _ (hR d (4+d.length)).cl (hy d (4+d.length))=_;rw[Fe.1,Fe.2];rfl
  rw[show 4+d.length+1=5+d.length by omega,aeT,aaH,Fe.1,Fe.2,hO,show((5+d.length:Nat):Int)=((4+d.length:Nat):Int)+1 by omega];exact Vq [hA,hB] Cq _ _ 2 d Y qa (by rw[aiB];decide)
 by_cases h6:i=5+d.length
 ·subst h6
  have hO:hO d (6+d.length)=fJ (hO d (5+d.length)) 1 ⟨4,0,0⟩:=by
   rw[show 6+d.length=(5+d.length)+1 by omega];show fJ _ (hR d (5+d.length)).cl (hy d (5+d.length))=_;rw[Ff.1,Ff.2];rfl
  rw[show 5+d.length+1=6+d.length by omega,aaH,VL,Ff.1,Ff.2,hO,show((6+d.length:Nat):Int)=((5+d.length:Nat):Int)+1 by omega];exact Vr [] _ _ d Y (by rw[aiC];decide)
 ·obtain rfl:i=6+d.length:=by omega
  have hO:hO d (7+d.length)=fJ (hO d (6+d.length)) 1 ⟨5,0,0⟩:=by
   rw[show 7+d.length=(6+d.length)+1 by omega];show fJ _ (hR d (6+d.length)).cl (hy d (6+d.length))=_;rw[MC.1,MC.2];rfl
  rw[show 6+d.length+1=7+d.length by omega,VL,aeU,MC.1,MC.2,hO,show((7+d.length:Nat):Int)=((6+d.length:Nat):Int)+1 by omega];exact Vs [] Cq _ _ d Y (by rw[aiD];decide)
theorem kR(h:ue d){n:Nat}(hn:n≤7+d.length):My (hR d) (hV d) (hy d) n:=⟨fun i hi=>VN h i Y,VM n,by have:=h.len;omega⟩
theorem Fg(d:List ByteArray): ∀(a o:Int) (p:Pt),p∈dS a o d→ ∃(i:Nat) (x:ByteArray),d[i]? =some x∧p.a=a+(i:Nat)∧p.n=(x.size:Nat)∧p.f=0:=by
 induction d with
 |nil=>intro a o p h;simp[dS]at h
 |cons y d ih=>
  intro a o p h;simp only[dS,qG]at h;rcases h with rfl|h
  ·exact⟨0,y,rfl,qc,rfl,rfl⟩
  ·obtain⟨i,x,h1,h2,h3,h4⟩:=ih _ _ p h;exact⟨i+1,x,by simpa using h1,Y,h3,h4⟩
theorem aaJ{i:Nat}{x:ByteArray}(h:d[i]? =some x):(hR d (3+i)).d=x∧(hR d (3+i)).k=10∧i<d.length:=by
 have hi:i<d.length:=(xb.1 h).1;rw[RS hi];exact⟨by show d.getD i ⟨#[]⟩=x;rw[xz,h];rfl,rfl,hi⟩
theorem RU(h:ue d):vE (hR d) (dS 3 0 d) (mq d):=by
 intro g hg
 have key: ∀(j:Nat) (x:ByteArray),d[j]? =some x→g (3+(j:Nat))=some x:=by
  intro j x hj
  have hm: ∃p∈dS 3 0 d,p.a=3+((j:Nat):Int):=by
   have: ∀(d:List ByteArray) (a o:Int) (j:Nat) (x:ByteArray),d[j]? =some x→ ∃p∈dS a o d,p.a=a+(j:Nat):=by
    intro d
    induction d with
    |nil=>intro a o j x h;simp at h
    |cons y d ih=>
     intro a o j x h
     cases j with
     |zero=>exact⟨_,by rw[dS];exact xh ..,qc⟩
     |succ j=>
      obtain⟨p,hp,e⟩:=ih (a+1) (o+(y.size:Nat)) j x (by simpa using h);exact⟨p,by rw[dS];exact qV _ hp,Y⟩
   exact this d 3 0 j x hj
  obtain⟨p,hp,e⟩:=hm;have h1:=hg p.a (List.mem_map.2 ⟨p,hp,rfl⟩);rw[e]at h1;rw[show(3:Int)+(j:Nat)=((3+j:Nat):Int) by omega]at h1⊢;rw[h1];show some (hR d (3+j)).d=_;rw[(aaJ hj).1]
 refine⟨fun p hp=>?_,aak d 3 0 g key⟩;obtain⟨i,x,h1,h2,h3,h4⟩:=Fg d 3 0 p hp;have hx:=h.each x (xp h1);have hi:=(aaJ h1).2.2;have hl:=h.len;exact⟨Y,Y,Y,Y,x,by rw[h2];exact key i x h1,Y,Y⟩
theorem VO: ∀z:Int,z∈(dS 3 0 d).map (·.a)→ ∃j,j<3+d.length∧z=(j:Nat)∧(hR d j).k=10:=by
 intro z hz;obtain⟨p,hp,rfl⟩:=List.mem_map.1 hz;obtain⟨i,x,h1,h2,h3,h4⟩:=Fg d 3 0 p hp;obtain⟨_,h5,h6⟩:=aaJ h1;exact⟨3+i,Y,by rw[h2];omega,h5⟩
end TopW
namespace TopW
open Go.RowKit OpW ConP ConW
open OpP (Rec)
variable{w J:qo}{B m n k f:Nat}{d:Dn}{Q:qo→Prop}{G:WK}{R:Nat→Rec}{V:Nat→SV}{y:Nat→oR}{now r:Int}{cl:Nat→sO}
theorem VP(w:qo):qw qx 16 #[] w fun e J=> ∃b0 n0 b1 n1 b2 n2,e=qm (ql #[U Z 0,qh (some ⟨b0,0,none⟩) 2 n0])∧cL J b0 n0 b1 n1 b2 n2∧qz w.heap.size w J:=by
 obtain⟨wA,p,hA,hp,hx,hb,l1⟩:=aD w (qn #[U Z 0,qh none 0 0] 54);have oN:=Hd hb;have HX:=Hd hx;have HL:=Hd l1;obtain⟨wB,wC,p1,p2,e1,e2,g1,g2,k1,k2,kb,m1,m2⟩:=yF wA (qn #[U Z 0,U Z 1] 3) (qn #[U Z 2,U Z 3] 3);obtain⟨wD,p3,e3,g3,k3,kb3,m3⟩:=aD wC (qn #[qh (some ⟨p1,0,none⟩) 2 2,qh (some ⟨p2,0,none⟩) 2 2] 35);have HK:=Hd (And.intro (ae kb3 k1) (And.intro (ae kb3 k2) k3));have YK:=Hd (ai kb kb3);have Fw:=Hd (ae kb3 (ae kb hx));clear hx hb l1 k1 k2 k3 kb kb3 m1 m2 m3;go_enter func16,ntmps16
 go_wp2_with((with_reducible(refine qE rfl 54 (Operand.tmp 0) (Operand.tmp 4) rfl p #[U Z 0,qh (some ⟨p3,0,none⟩) 2 2] ?_ ?_ 54 #[U Z 0,qh none 0 0] ?_ ?_ ?_ ?_ ?_));(·rfl);(·rfl);(·exact Fw.o);(·exact yP);(·rfl);(·simp[Value.oneCell']))
 try simp only[Act.put]
 refine aR rfl rfl rfl (qJ _ _ _ _ _ _ Fw.o) underlying54 rfl yP ?_
 have ne: ∀(b:Nat) (cs:Array qp) (t:TypeId),wD.heap[b]? =some (qn cs t (0,0))→t≠54→b≠p:=fun b cs t h ht=>by
  rintro rfl;rw[Fw.o]at h;injection h with h;injection h with _ h _;exact ht h.symm
 have ml:2≤maxLen:=by unfold maxLen;omega
 refine⟨p3,2,p1,2,p2,2,rfl,⟨⟨_,(xl wD p p3 _ (ne _ _ _ HK.o.2.2 qa)).trans HK.o.2.2,rfl,rfl⟩,Nat.le_refl _,ml,⟨⟨_,(xl wD p p1 _ (ne _ _ _ HK.o.1 qa)).trans HK.o.1,rfl,rfl⟩,Nat.le_refl _,ml⟩,⟨⟨_,(xl wD p p2 _ (ne _ _ _ HK.o.2.1 qa)).trans HK.o.2.1,rfl,rfl⟩,Nat.le_refl _,ml⟩⟩,?_⟩;exact aj (ai oN.o YK.o) HL.o _
def cl0:Nat→sO:=fun _=>⟨1,0,none⟩
theorem Fh(d:List ByteArray)(w:qo)(hv:PV w)(hf:Fl w)(h10:10≤w.heap.size):
 qw qx 4 #[U Z 2] w fun e J=> ∃f G,e=qm (.tuple #[pV f,qk true])∧uj w.heap.size J f G (hR d) (hV d) 0 0 0 cl0∧qz w.heap.size w J:=by
 have HV:=Hd hv;have HF:=Hd hf;have HT:=Hd h10;clear hv hf h10;go_enter func4,ntmps4;go_wp2_with fail
 refine(VP w).mono ?_;rintro e w2⟨b0,n0,b1,n1,b2,n2,rfl,h1,h2⟩;have HP:=Hd h1;have az:=Hd h2;clear h1 h2;go_wp2_with fail
 refine(Ry w2 HP.o).mono ?_;rintro e w3⟨G,rfl,h1,h2,h3,h4⟩;have HW:=Hd h1;have HG:=Hd (And.intro h2 h3);have cu:=Hd (ai az.o h4);clear h1 h2 h3 h4;obtain⟨wA,f,hA,hf,hx,hb,l1⟩:=aD w3 (qn #[pV G.wb] 42);have HX:=Hd hx;have oN:=Hd hb;clear hx hb l1;go_wp2_with fail
 go_ret2
 have hb:=ai cu.o oN.o;have uY:=HG.o;have hs2:=az.o.size;refine⟨f,G,rfl,⟨⟨⟨_,⟨HW.o.grow oN.o,HF.o.ag hb,fun x hx=>qM hs2 (uY.1 x hx),HT.o,hb.size,⟨qM hs2 uY.2.1,qM hs2 uY.2.2⟩⟩,rfl,rfl,⟨fun j hj=>qZ hj Y,fun _ _ _ _=>rfl⟩,rfl,rfl,fun k hk=>?_⟩⟩,HX.o,HV.o.ag hb,HT.o,hb.size⟩,hb⟩;have e:k=0∨k=1:=Y;rcases e with rfl|rfl
 ·exact⟨rfl,rfl,rfl,rfl,rfl,rfl⟩
 ·exact⟨rfl,rfl,rfl,rfl,rfl,rfl⟩
variable{cl':Nat→sO}{d:List ByteArray}{a c:sO}
def clS(a c:sO):Nat→sO:=fun k=>if k=0 then a else c
theorem uj.same(h:uj B w f G R V n now r cl)(e0:cl 0=cl' 0)(e1:cl 1=cl' 1):uj B w f G R V n now r cl':=by
 obtain⟨⟨S,h1,h2,h3,h4,h5,h6,h7⟩,g1,g2,g3,g4⟩:=h;refine⟨⟨S,h1,h2,h3,h4,h5,h6,fun k hk=>?_⟩,g1,g2,g3,g4⟩;have:=h7 k hk;have e:k=0∨k=1:=Y;rcases e with rfl|rfl
 ·rw[←e0];exact this
 ·rw[←e1];exact this
abbrev JE:ByteArray:=⟨#[99,114,101,97,116,101,32,47,97]⟩
abbrev JF:ByteArray:=⟨#[111,112,101,110,32,47,97]⟩
abbrev RV:ByteArray:=⟨#[114,101,110,101,119]⟩
abbrev JG:ByteArray:=⟨#[117,110,108,105,110,107,32,47,97]⟩
abbrev JH:ByteArray:=⟨#[101,120,112,105,114,101]⟩
abbrev mE(f k:Nat)(t:ByteArray)(w:qo)(rc rh:Int)(rd:ByteArray)(P:qo→Prop)(B:Nat):Prop:=qw qx 6 #[pV f,U Z (k:Nat),qg t] w fun e J=>e=qm (ql (bz rc rh rd))∧P J∧Kp B w J
abbrev ia(d:List ByteArray)(B:Nat)(w:qo)(f:Nat)(G:WK)(n:Nat)(now r:Int)(a c:sO):Prop:=uj B w f G (hR d) (hV d) n now r (clS a c)
theorem Fi(hd:ue d)(h:ia d B w f G 0 0 0 ⟨1,0,none⟩ ⟨1,0,none⟩):mE f 0 JE w 0 0 ⟨#[]⟩ (fun J=>ia d B J f G 1 0 0 ⟨2,1,none⟩ ⟨1,0,none⟩) B:=
 cW (fun e J ⟨h1,h2,h3⟩=>⟨h1,h2.same rfl rfl,h3⟩) (rA (k:=0) (y:=hy d) qa JE 3 0 Dz qa KI w h (Nat.le_refl _) qa (kR hd Y) rfl qa qa ⟨by show(0:Int)≤1;decide,by show(1:Int)≤1000000;decide⟩)
theorem JI(hd:ue d)(h:ia d B w f G 1 0 0 ⟨2,1,none⟩ ⟨1,0,none⟩):mE f 0 JF w 0 1 ⟨#[]⟩ (fun J=>ia d B J f G 2 0 0 ⟨3,2,none⟩ ⟨1,0,none⟩) B:=
 cW (fun e J ⟨h1,h2,h3⟩=>⟨h1,h2.same rfl rfl,h3⟩) (rA (k:=0) (y:=hy d) qa JF 8 0 Dz qa Ot w h (Nat.le_refl _) qa (kR hd Y) rfl qa qa ⟨by show(0:Int)≤2;decide,by show(2:Int)≤1000000;decide⟩)
theorem JJ(hd:ue d)(h:ia d B w f G 2 0 0 ⟨3,2,none⟩ ⟨1,0,none⟩):mE f 1 JF w 0 2 ⟨#[]⟩ (fun J=>ia d B J f G 3 0 0 ⟨3,2,none⟩ ⟨2,3,none⟩) B:=
 cW (fun e J ⟨h1,h2,h3⟩=>⟨h1,h2.same rfl rfl,h3⟩) (rA (k:=1) (y:=hy d) qa JF 8 0 Dz qa Ou w h (by show 0≤2;omega) qa (kR hd Y) rfl qa qa ⟨by show(0:Int)≤1;decide,by show(1:Int)≤1000000;decide⟩)
theorem JK(u:Nat)(x t:ByteArray)(ht:t.data.toList=[119,114,105,116,101,32,49,32]++Lib.decDigits u++[32]++fm x.data.toList)(hs:t.size≤50000)(hu:u≤7000)(hx:1≤x.size∧x.size≤1000)(hb:a.buf=none)(h:ia d B w f G n now r a c):mE f 0 t w 0 0 ⟨#[]⟩ (fun J=>ia d B J f G n now r ⟨a.sq,a.j,some ⟨1,(u:Nat),x⟩⟩ c) B:=
 cW (fun e J ⟨h1,h2,h3⟩=>⟨h1,h2.same rfl rfl,h3⟩) (MA t u x ht hs hu hx w h hb)
theorem RW(hd:ue d)(i:Nat)(hi:i<d.length)(hb:a.buf=some ⟨1,bR (d.take i),d.getD i ⟨#[]⟩⟩)(ve:a.sq=((3+i:Nat):Int))(hj:a.j≤3+i)(h:ia d B w f G (3+i) 0 r a c):mE f 0 ⟨#[115,121,110,99,32,49]⟩ w 0 0 ⟨#[]⟩ (fun J=>ia d B J f G (3+(i+1)) 0 r ⟨((3+(i+1):Nat):Int),3+(i+1),none⟩ c) B:=by
 have hl:=hd.len;refine cW ?_ (RQ (y:=hy d) ⟨#[115,121,110,99,32,49]⟩ rfl w h (show a.j≤3+i from hj) Y (kR hd Y) ⟨1,bR (d.take i),d.getD i ⟨#[]⟩⟩ hb rfl ?_ ?_ ?_)
 ·rintro e J⟨h1,h2,h3⟩;refine⟨h1,h2.same ?_ rfl,h3⟩;show(⟨a.sq+1,3+i+1,none⟩:sO)=⟨((3+(i+1):Nat):Int),3+(i+1),none⟩;rw[ve,show((3+i:Nat):Int)+1=((3+(i+1):Nat):Int) by omega];rfl
 ·rw[RS hi];show zO _ _ _=(⟨0,a.sq,10,⟨#[]⟩,⟨#[]⟩,0,1,bR (d.take i),d.getD i ⟨#[]⟩,0,0,[]⟩:Rec);rw[ve];rfl
 ·rw[VK hi]
 ·show 0≤a.sq∧a.sq≤1000000;omega
theorem VQ(hd:ue d)(h:ia d B w f G (3+d.length) 0 r a ⟨2,3,none⟩):mE f 1 RV w 0 0 ⟨#[]⟩ (fun J=>ia d B J f G (4+d.length) 0 r a ⟨3,4+d.length,none⟩) B:=by
 have hl:=hd.len;refine cW ?_ (rA (k:=1) (y:=hy d) qa RV 11 0 ⟨#[]⟩ qa Ov w h (by show 3≤3+d.length;omega) Y (kR hd Y) (by rw[Fc.1];rfl) qa qa ⟨by show(0:Int)≤2;decide,by show(2:Int)≤1000000;decide⟩);rintro e J⟨h1,h2,h3⟩;rw[Fc.2]at h1;have e4:3+d.length+1=4+d.length:=Y;rw[e4]at h2;exact⟨h1,h2.same rfl rfl,h3⟩
theorem RX(hd:ue d)(h:ia d B w f G (4+d.length) 0 r a ⟨3,4+d.length,none⟩):mE f 1 JG w 0 0 ⟨#[]⟩ (fun J=>ia d B J f G (5+d.length) 0 r a ⟨4,5+d.length,none⟩) B:=by
 have hl:=hd.len;refine cW ?_ (rA (k:=1) (y:=hy d) qa JG 5 0 Dz qa KJ w h (Nat.le_refl _) Y (kR hd Y) (by rw[Fe.1];rfl) qa qa ⟨by show(0:Int)≤3;decide,by show(3:Int)≤1000000;decide⟩);rintro e J⟨h1,h2,h3⟩;rw[Fe.2]at h1;have e4:4+d.length+1=5+d.length:=Y;rw[e4]at h2;exact⟨h1,h2.same rfl rfl,h3⟩
theorem RY(hd:ue d)(h:ia d B w f G (5+d.length) 500 r a ⟨4,5+d.length,none⟩):mE f 1 JH w 0 0 ⟨#[]⟩ (fun J=>ia d B J f G (6+d.length) 500 r a ⟨5,6+d.length,none⟩) B:=by
 have hl:=hd.len;refine cW ?_ (rA (k:=1) (y:=hy d) qa JH 12 0 ⟨#[]⟩ qa KK w h (Nat.le_refl _) Y (kR hd Y) (by rw[Ff.1];rfl) qa qa ⟨by show(0:Int)≤4;decide,by show(4:Int)≤1000000;decide⟩);rintro e J⟨h1,h2,h3⟩;rw[Ff.2]at h1;have e4:5+d.length+1=6+d.length:=Y;rw[e4]at h2;exact⟨h1,h2.same rfl rfl,h3⟩
theorem VR(hd:ue d)(t:ByteArray)(ht:t=⟨#[99,108,111,115,101,32,50]⟩)(h:ia d B w f G (6+d.length) 500 r a ⟨5,6+d.length,none⟩):mE f 1 t w 0 0 ⟨#[]⟩ (fun J=>ia d B J f G (7+d.length) 500 r a ⟨6,7+d.length,none⟩) B:=by
 subst ht;have hl:=hd.len;refine cW ?_ (rA (k:=1) (y:=hy d) qa ⟨#[99,108,111,115,101,32,50]⟩ 9 2 ⟨#[]⟩ qa Ow w h (Nat.le_refl _) Y (kR hd Y) (by rw[MC.1];rfl) qa qa ⟨by show(0:Int)≤5;decide,by show(5:Int)≤1000000;decide⟩);rintro e J⟨h1,h2,h3⟩;rw[MC.2]at h1;have e4:6+d.length+1=7+d.length:=Y;rw[e4]at h2;exact⟨h1,h2.same rfl rfl,h3⟩
theorem aaK(hd:ue d)(t:ByteArray)(ht:t=⟨#[114,101,97,100,32,49,32,48,32,56,49,57,50]⟩)(hj:a.j≤6+d.length)(h:ia d B w f G (6+d.length) now r a c):mE f 0 t w 68 0 ⟨#[]⟩ (fun J=>ia d B J f G (6+d.length) now r ⟨a.sq,6+d.length,a.buf⟩ c) B:=by
 subst ht;have hl:=hd.len;refine cW ?_ (Fb (k:=0) (y:=hy d) qa ⟨#[114,101,97,100,32,49,32,48,32,56,49,57,50]⟩ 1 qa Ox w h hj Y (kR hd Y) qa ?_)
 ·rintro e J⟨h1,h2,h3⟩;exact⟨h1,h2.same rfl rfl,h3⟩
 ·rw[VL];kernel_rfl
theorem JL(hd:ue d)(n:Nat)(fz:Int)(t:ByteArray)(hs:t.size≤50000)(hq:cI (jz ([99,32]++[UInt8.ofNat (48+1)]++[32]++t.data.toList))=some (kL 1 4 2 0 fz ⟨#[]⟩))(SD:bR d≤fz∧fz≤8192)(hn:3+d.length≤n∧n≤7+d.length)(D:List DirP.En)(H:List cN.Ha)(ls:List Int)(O:Int→Option oR)(l o:Int)(hV':hV d n=mM D H ls O (n:Nat) l o d)(hH:bq.BA H 1 2=true∧bq.yZ H 1 2=2)
 (hj:c.j≤n) (h:ia d B w f G n now r a c):mE f 1 t w 0 0 ⟨(mq d).toArray⟩ (fun J=>ia d B J f G n now r a ⟨c.sq,n,c.buf⟩) B:=by
 have hl:=hd.len;have ho:=hd.off;have hp:=yM d 3 0;refine cW ?_ (Cw (k:=1) (y:=hy d) (pl:=dS 3 0 d) (L:=mq d) qa t 2 fz hs hq w h hj Y (kR hd hn.2) qa ?_ 2 (bR d) ?_ (Jm 2 qa) ?_ ⟨ho.1,SD.1⟩ SD.2 ?_ ?_ Y (aaj d 3 0) ?_ (RU hd))
 ·rintro e J⟨h1,h2,h3⟩;exact⟨h1,h2.same rfl rfl,h3⟩
 ·rw[hV'];exact hH.1
 ·rw[hV'];exact hH.2
 ·rw[hV'];rfl
 ·rw[hV'];exact Vi hd
 ·rw[hV'];show(dS 3 0 d).length≤1000;omega
 ·intro z hz;obtain⟨j,h1,h2,h3⟩:=VO z hz;exact⟨j,Y,h2,h3⟩
variable{p:Nat}{rc rh:Int}{rd:ByteArray}
def uk(w:qo)(p:Nat)(rc rh:Int)(rd:ByteArray):Prop:=w.heap[p]? =some (qn (bz rc rh rd) 30 (0,0))
theorem uk.grow(h:uk w p rc rh rd)(k:qz w.heap.size w J):uk J p rc rh rd:=ae k h
theorem uk.kp(h:uk w p rc rh rd)(k:Kp B w J):uk J p rc rh rd:=k.bC _ _ _ _ h qa
theorem uk.c0(h:uk w p rc rh rd):w.cell? ⟨p,0,none⟩=some (U Z rc):=qI h 0
theorem uk.c1(h:uk w p rc rh rd):w.cell? ⟨p,1,none⟩=some (U Z rh):=qI h 1
theorem uk.c7(h:uk w p rc rh rd):w.cell? ⟨p,7,none⟩=some (qg rd):=qI h 7
def dHi:List ByteArray:=[⟨#[104,105]⟩]
theorem RZ:Lib.decDigits 0=[48]:=by rw[Lib.decDigits,dif_pos qa];rfl
theorem yV:ue dHi:=⟨qa,fun x hx=>by simp only[dHi,qS]at hx;subst hx;decide⟩
set_option maxHeartbeats 6400000 in
theorem oL(w:qo)(hv:PV w)(hf:Fl w)(h10:10≤w.heap.size):qw qx 5 #[] w fun e J=>e=qm (qk true)∧qz w.heap.size w J:=by
 have HV:=Hd hv;have HF:=Hd hf;have HT:=Hd h10;clear hv hf h10;go_enter func5,ntmps5;go_wp2_with fail
 refine(Fh dHi w HV.o HF.o HT.o).mono ?_;rintro e w1⟨f,G,rfl,h1,h2⟩;have HL:=Hd (h1.same (cl':=clS ⟨1,0,none⟩ ⟨1,0,none⟩) rfl rfl);have HK:qy (Kp w.heap.size w w1):=Hd (Kp.af h2 (Nat.le_refl _));clear h1 h2;obtain⟨B,hB⟩: ∃B,w.heap.size=B:=⟨_,rfl⟩;rw[hB]at HL HK;have Fq:=Hd hB;clear hB;go_wp2_with fail
 refine(Fi yV HL.o).mono ?_;rintro e w3r⟨rfl,h1,h2⟩;have dL:=Hd h1;have ec:=Hd (HK.o.trans h2);clear h1 h2 HL HK;obtain⟨wA,p3,hAl,hp,g1,gb,gl⟩:=aD w3r (qn (bz 0 0 ⟨#[]⟩) 30);have HX:=Hd g1;have dI:=aj gb gl (bz 0 0 ⟨#[]⟩);have fY:qy (uk (wA.setRow p3 (bz 0 0 ⟨#[]⟩)) p3 0 0 ⟨#[]⟩):=Hd (qJ _ _ _ _ _ _ g1);have HL:=Hd (dL.o.grow dI);have HK:=Hd (ec.o.trans (Kp.af dI dL.o.le));obtain⟨w3c,hwC⟩: ∃wC,wA.setRow p3 (bz 0 0 ⟨#[]⟩)=wC:=⟨_,rfl⟩;rw[hwC]at HL HK fY;clear g1 gb gl dI dL ec
 go_wp2_with((with_reducible(refine qE rfl 30 (Operand.tmp 3) (Operand.tmp 16) rfl p3 (bz 0 0 ⟨#[]⟩) ?_ ?_ 30 (bz 0 0 ⟨#[]⟩) ?_ ?_ ?_ ?_ ?_));(·rfl);(·rfl);(·exact HX.o);(·exact cd);(·rfl);(·simp[Value.oneCell']);rw[hwC])
 clear HX hwC hAl hp;refine(JI yV HL.o).mono ?_;rintro e w4r⟨rfl,h1,h2⟩;have dL:=Hd h1;have ec:=Hd (HK.o.trans h2);have kf:=Hd (fY.o.kp h2);clear h1 h2 HL HK fY;obtain⟨wA,p4,hAl,hp,g1,gb,gl⟩:=aD w4r (qn (bz 0 0 ⟨#[]⟩) 30);have HX:=Hd g1;have dI:=aj gb gl (bz 0 1 ⟨#[]⟩);have eM:qy (uk (wA.setRow p4 (bz 0 1 ⟨#[]⟩)) p4 0 1 ⟨#[]⟩):=Hd (qJ _ _ _ _ _ _ g1);have HL:=Hd (dL.o.grow dI);have HK:=Hd (ec.o.trans (Kp.af dI dL.o.le));have fY:=Hd (kf.o.grow dI);obtain⟨w4c,hwC⟩: ∃wC,wA.setRow p4 (bz 0 1 ⟨#[]⟩)=wC:=⟨_,rfl⟩;rw[hwC]at HL HK eM fY;clear g1 gb gl dI dL ec kf
 go_wp2_with((with_reducible(refine qE rfl 30 (Operand.tmp 4) (Operand.tmp 18) rfl p4 (bz 0 1 ⟨#[]⟩) ?_ ?_ 30 (bz 0 0 ⟨#[]⟩) ?_ ?_ ?_ ?_ ?_));(·rfl);(·rfl);(·exact HX.o);(·exact cd);(·rfl);(·simp[Value.oneCell']);rw[hwC])
 clear HX hwC hAl hp;refine(JJ yV HL.o).mono ?_;rintro e w5r⟨rfl,h1,h2⟩;have dL:=Hd h1;have ec:=Hd (HK.o.trans h2);have kf:=Hd (fY.o.kp h2);have lF:=Hd (eM.o.kp h2);clear h1 h2 HL HK fY eM;obtain⟨wA,p5,hAl,hp,g1,gb,gl⟩:=aD w5r (qn (bz 0 0 ⟨#[]⟩) 30);have HX:=Hd g1;have dI:=aj gb gl (bz 0 2 ⟨#[]⟩);have lG:qy (uk (wA.setRow p5 (bz 0 2 ⟨#[]⟩)) p5 0 2 ⟨#[]⟩):=Hd (qJ _ _ _ _ _ _ g1);have HL:=Hd (dL.o.grow dI);have HK:=Hd (ec.o.trans (Kp.af dI dL.o.le));have fY:=Hd (kf.o.grow dI);have eM:=Hd (lF.o.grow dI);obtain⟨w5c,hwC⟩: ∃wC,wA.setRow p5 (bz 0 2 ⟨#[]⟩)=wC:=⟨_,rfl⟩;rw[hwC]at HL HK lG fY eM
 clear g1 gb gl dI dL ec kf lF;have z0:=eM.o.c1;go_wp2_with((with_reducible(refine qE rfl 30 (Operand.tmp 5) (Operand.tmp 20) rfl p5 (bz 0 2 ⟨#[]⟩) ?_ ?_ 30 (bz 0 0 ⟨#[]⟩) ?_ ?_ ?_ ?_ ?_));(·rfl);(·rfl);(·exact HX.o);(·exact cd);(·rfl);(·simp[Value.oneCell']);rw[hwC])
 clear HX hwC hAl hp z0;refine(eU 1 [49] (fV 1 qa) qa qa qa w5c HL.o.pv.cv).mono ?_;rintro e w6d⟨rfl,hb⟩;have dL:=Hd (HL.o.grow hb);have ec:=Hd (HK.o.trans (Kp.af hb HL.o.le));have kf:=Hd (fY.o.grow hb);have lF:=Hd (eM.o.grow hb);have nV:=Hd (lG.o.grow hb);clear hb HL HK fY eM lG;have HL:=dL;have HK:=ec;have fY:=kf;have eM:=lF;have lG:=nV;clear dL ec kf lF nV;obtain⟨D,hD⟩: ∃D,bs [49]=D:=⟨_,rfl⟩;have mO:=Hd hD;have hz:D.size=1:=by rw[←hD];rfl
 rw[hD];clear hD;have f0: ¬9223372036854775807<6+D.size:=Y;have f1: ¬9223372036854775807<6+D.size+7:=Y;clear hz;go_wp2_with fail
 clear f0 f1;obtain⟨t,ht⟩: ∃t,(⟨#[119,114,105,116,101,32]⟩++D++⟨#[32,48,32,54,56,54,57]⟩:ByteArray)=t:=⟨_,rfl⟩;have ru:qy (t=⟨#[119,114,105,116,101,32,49,32,48,32,54,56,54,57]⟩):=Hd (by rw[←ht,←mO.o];rfl);rw[ht];clear ht mO;refine(JK 0 ⟨#[104,105]⟩ t (by rw[ru.o,RZ];rfl) (by rw[ru.o];decide) qa qa rfl HL.o).mono ?_;rintro e w6r⟨rfl,h1,h2⟩;have dL:=Hd h1;have ec:=Hd (HK.o.trans h2);have kf:=Hd (fY.o.kp h2);have lF:=Hd (eM.o.kp h2);have nV:=Hd (lG.o.kp h2);clear h1 h2 HL HK fY eM lG;obtain⟨wA,p6,hAl,hp,g1,gb,gl⟩:=aD w6r (qn (bz 0 0 ⟨#[]⟩) 30);have HX:=Hd g1;have dI:=aj gb gl (bz 0 0 ⟨#[]⟩)
 have vA:qy (uk (wA.setRow p6 (bz 0 0 ⟨#[]⟩)) p6 0 0 ⟨#[]⟩):=Hd (qJ _ _ _ _ _ _ g1);have HL:=Hd (dL.o.grow dI);have HK:=Hd (ec.o.trans (Kp.af dI dL.o.le));have fY:=Hd (kf.o.grow dI);have eM:=Hd (lF.o.grow dI);have lG:=Hd (nV.o.grow dI);obtain⟨w6c,hwC⟩: ∃wC,wA.setRow p6 (bz 0 0 ⟨#[]⟩)=wC:=⟨_,rfl⟩;rw[hwC]at HL HK vA fY eM lG;clear g1 gb gl dI dL ec kf lF nV;have z0:=eM.o.c1;go_wp2_with((with_reducible(refine qE rfl 30 (Operand.tmp 6) (Operand.tmp 27) rfl p6 (bz 0 0 ⟨#[]⟩) ?_ ?_ 30 (bz 0 0 ⟨#[]⟩) ?_ ?_ ?_ ?_ ?_));(·rfl);(·rfl);(·exact HX.o);(·exact cd);(·rfl);(·simp[Value.oneCell']);rw[hwC])
 clear HX hwC hAl hp z0;clear ru;refine(eU 1 [49] (fV 1 qa) qa qa qa w6c HL.o.pv.cv).mono ?_;rintro e w7d⟨rfl,hb⟩;have dL:=Hd (HL.o.grow hb);have ec:=Hd (HK.o.trans (Kp.af hb HL.o.le));have kf:=Hd (fY.o.grow hb);have lF:=Hd (eM.o.grow hb);have nV:=Hd (lG.o.grow hb);have yW:=Hd (vA.o.grow hb);clear hb HL HK fY eM lG vA;have HL:=dL;have HK:=ec;have fY:=kf;have eM:=lF;have lG:=nV;have vA:=yW;clear dL ec kf lF nV yW;obtain⟨D,hD⟩: ∃D,bs [49]=D:=⟨_,rfl⟩;have mO:=Hd hD;have hz:D.size=1:=by rw[←hD];rfl
 rw[hD];clear hD;have f0: ¬9223372036854775807<5+D.size:=Y;clear hz;go_wp2_with fail
 clear f0;obtain⟨t,ht⟩: ∃t,(⟨#[115,121,110,99,32]⟩++D:ByteArray)=t:=⟨_,rfl⟩;have ru:qy (t=⟨#[115,121,110,99,32,49]⟩):=Hd (by rw[←ht,←mO.o];rfl);rw[ht];clear ht mO;rw[ru.o];clear ru;refine(RW yV 0 qa rfl rfl qa HL.o).mono ?_;rintro e w7r⟨rfl,h1,h2⟩;have dL:=Hd h1;have ec:=Hd (HK.o.trans h2);have kf:=Hd (fY.o.kp h2);have lF:=Hd (eM.o.kp h2);have nV:=Hd (lG.o.kp h2);have yW:=Hd (vA.o.kp h2);clear h1 h2 HL HK fY eM lG vA;obtain⟨wA,p7,hAl,hp,g1,gb,gl⟩:=aD w7r (qn (bz 0 0 ⟨#[]⟩) 30);have HX:=Hd g1;have dI:=aj gb gl (bz 0 0 ⟨#[]⟩)
 have eQ:qy (uk (wA.setRow p7 (bz 0 0 ⟨#[]⟩)) p7 0 0 ⟨#[]⟩):=Hd (qJ _ _ _ _ _ _ g1);have HL:=Hd (dL.o.grow dI);have HK:=Hd (ec.o.trans (Kp.af dI dL.o.le));have fY:=Hd (kf.o.grow dI);have eM:=Hd (lF.o.grow dI);have lG:=Hd (nV.o.grow dI);have vA:=Hd (yW.o.grow dI);obtain⟨w7c,hwC⟩: ∃wC,wA.setRow p7 (bz 0 0 ⟨#[]⟩)=wC:=⟨_,rfl⟩;rw[hwC]at HL HK eQ fY eM lG vA;clear g1 gb gl dI dL ec kf lF nV yW;have z0:=lG.o.c1
 go_wp2_with((with_reducible(refine qE rfl 30 (Operand.tmp 7) (Operand.tmp 33) rfl p7 (bz 0 0 ⟨#[]⟩) ?_ ?_ 30 (bz 0 0 ⟨#[]⟩) ?_ ?_ ?_ ?_ ?_));(·rfl);(·rfl);(·exact HX.o);(·exact cd);(·rfl);(·simp[Value.oneCell']);rw[hwC])
 clear HX hwC hAl hp z0;refine(eU 2 [50] (fV 2 qa) qa qa qa w7c HL.o.pv.cv).mono ?_;rintro e w8d⟨rfl,hb⟩;have dL:=Hd (HL.o.grow hb);have ec:=Hd (HK.o.trans (Kp.af hb HL.o.le));have kf:=Hd (fY.o.grow hb);have lF:=Hd (eM.o.grow hb);have nV:=Hd (lG.o.grow hb);have yW:=Hd (vA.o.grow hb);have dh:=Hd (eQ.o.grow hb);clear hb HL HK fY eM lG vA eQ;have HL:=dL;have HK:=ec;have fY:=kf;have eM:=lF;have lG:=nV;have vA:=yW;have eQ:=dh;clear dL ec kf lF nV yW dh;obtain⟨D,hD⟩: ∃D,bs [50]=D:=⟨_,rfl⟩;have mO:=Hd hD;have hz:D.size=1:=by rw[←hD];rfl
 rw[hD];clear hD;have f0: ¬9223372036854775807<5+D.size:=Y;have f1: ¬9223372036854775807<5+D.size+4:=Y;clear hz;go_wp2_with fail
 clear f0 f1;obtain⟨t,ht⟩: ∃t,(⟨#[114,101,97,100,32]⟩++D++⟨#[32,48,32,57]⟩:ByteArray)=t:=⟨_,rfl⟩;have ru:qy (t=⟨#[114,101,97,100,32,50,32,48,32,57]⟩):=Hd (by rw[←ht,←mO.o];rfl);rw[ht];clear ht mO;rw[ru.o];clear ru;refine(JL (d:=dHi) yV 4 9 ⟨#[114,101,97,100,32,50,32,48,32,57]⟩ qa Oz qa qa dA [hA,hB] Fx (hO dHi 4) 1 2 (RT (d:=dHi) (i:=1) qa) qa qa HL.o).mono ?_;rintro e w8r⟨rfl,h1,h2⟩;have dL:=Hd h1;have ec:=Hd (HK.o.trans h2);have kf:=Hd (fY.o.kp h2);have lF:=Hd (eM.o.kp h2);have nV:=Hd (lG.o.kp h2);have yW:=Hd (vA.o.kp h2);have dh:=Hd (eQ.o.kp h2);clear h1 h2 HL HK fY eM lG vA eQ
 obtain⟨wA,p8,hAl,hp,g1,gb,gl⟩:=aD w8r (qn (bz 0 0 ⟨#[]⟩) 30);have HX:=Hd g1;have dI:=aj gb gl (bz 0 0 ⟨#[104,105]⟩);have fw:qy (uk (wA.setRow p8 (bz 0 0 ⟨#[104,105]⟩)) p8 0 0 ⟨#[104,105]⟩):=Hd (qJ _ _ _ _ _ _ g1);have HL:=Hd (dL.o.grow dI);have HK:=Hd (ec.o.trans (Kp.af dI dL.o.le));have fY:=Hd (kf.o.grow dI);have eM:=Hd (lF.o.grow dI);have lG:=Hd (nV.o.grow dI);have vA:=Hd (yW.o.grow dI);have eQ:=Hd (dh.o.grow dI);obtain⟨w8c,hwC⟩: ∃wC,wA.setRow p8 (bz 0 0 ⟨#[104,105]⟩)=wC:=⟨_,rfl⟩;rw[hwC]at HL HK fw fY eM lG vA eQ;clear g1 gb gl dI dL ec kf lF nV yW dh;have z0:=fY.o.c0;have z1:=eM.o.c0
 have z2:=lG.o.c0;have z3:=vA.o.c0;have z4:=eQ.o.c0;have z5:=fw.o.c7;go_wp2_with((with_reducible(refine qE rfl 30 (Operand.tmp 8) (Operand.tmp 40) rfl p8 (bz 0 0 ⟨#[104,105]⟩) ?_ ?_ 30 (bz 0 0 ⟨#[]⟩) ?_ ?_ ?_ ?_ ?_));(·rfl);(·rfl);(·exact HX.o);(·exact cd);(·rfl);(·simp[Value.oneCell']);rw[hwC])
 clear HX hwC hAl hp z0 z1 z2 z3 z4 z5;go_ret;exact⟨rfl,by rw[Fq.o];exact HK.o.below⟩
variable{S:WS}{K:CK}{c:CS}
def MQ(x:List UInt8):Bool:=decide (1≤x.length∧x.length≤200)
theorem Sa(q:List UInt8→Bool): ∀(l:List (List UInt8)) (i:Nat),i<(l.takeWhile q).length→ ∃x,l[i]? =some x∧(l.takeWhile q)[i]? =some x∧q x=true
 |[],i,h=>by simp at h
 |y::l,i,h=>by
  rw[List.takeWhile_cons]at h⊢
  cases hy:q y with
  |false=>rw[hy]at h;simp at h
  |true=>
   rw[hy]at h;simp only[if_true]at h⊢
   cases i with
   |zero=>exact⟨y,rfl,rfl,hy⟩
   |succ i=>
    obtain⟨x,h1,h2,h3⟩:=Sa q l i (by simp only[xf]at h;omega);exact⟨x,by simpa using h1,by simpa using h2,h3⟩
theorem Sb(q:List UInt8→Bool): ∀l:List (List UInt8),(l.takeWhile q).length=l.length∨ ∃x,l[(l.takeWhile q).length]? =some x∧q x=false
 |[]=> .inl rfl
 |y::l=>by
  rw[List.takeWhile_cons]
  cases hy:q y with
  |false=>right;exact⟨y,rfl,hy⟩
  |true=>
   simp only[if_true,xf];rcases Sb q l with h|⟨x,h1,h2⟩
   ·left;omega
   ·right;exact⟨x,by simpa using h1,h2⟩
def Cy(l:List (List UInt8))(m:Nat):List ByteArray:=((l.takeWhile MQ).take m).map fun x=>⟨x.toArray⟩
structure Cut(l:List (List UInt8))(m:Nat)(d:List ByteArray):Prop where
 ok:ue d
 lt: ∀i,i<d.length→i<m∧ ∃x,l[i]? =some x∧MQ x=true∧d.getD i ⟨#[]⟩=⟨x.toArray⟩
 len:d.length≤l.length∧d.length≤m
 stop:d.length=l.length∨ ∃x,l[d.length]? =some x∧(MQ x=false∨d.length=m)
theorem aaL(q:List UInt8→Bool)(l:List (List UInt8)):(l.takeWhile q).length≤l.length:=by
 induction l with
 |nil=>simp
 |cons y l ih=>
  rw[List.takeWhile_cons];split<;>simp only[xf,List.length_nil]<;>omega
theorem FM(l:List (List UInt8))(m:Nat)(hm:m≤10):Cut l m (Cy l m):=by
 have hl:(Cy l m).length=min m (l.takeWhile MQ).length:=by simp[Cy]
 have hq:=aaL MQ l
 have get: ∀i,i<(Cy l m).length→ ∃x,l[i]? =some x∧(Cy l m)[i]? =some ⟨x.toArray⟩∧MQ x=true:=fun i hi=>by
  obtain⟨x,h1,h2,h3⟩:=Sa MQ l i Y;refine⟨x,h1,?_,h3⟩;unfold Cy;rw[List.getElem?_map,List.getElem?_take,qH Y,h2];rfl
 refine⟨⟨Y,fun x hx=>?_⟩,fun i hi=>?_,⟨Y,Y⟩,?_⟩
 ·obtain⟨i,hi,e⟩:=List.getElem_of_mem hx;obtain⟨y,_,h2,h3⟩:=get i hi;rw[qN hi]at h2;injection h2 with h2
  rw[←e,h2];have h4:=xr h3;show 1≤y.toArray.size∧y.toArray.size≤200;rw[List.size_toArray];exact h4
 ·obtain⟨y,h1,h2,h3⟩:=get i hi;exact⟨Y,y,h1,h3,by rw[xz,h2];rfl⟩
 ·by_cases e:(Cy l m).length=m
  ·rcases Nat.lt_or_ge m l.length with h|h
   ·right;exact⟨l[m],by rw[e];exact qN h,.inr e⟩
   ·left;omega
  ·have e2:(Cy l m).length=(l.takeWhile MQ).length:=by omega
   rcases Sb MQ l with h|⟨x,h1,h2⟩
   ·left;omega
   ·right;exact⟨x,by rw[e2];exact h1,.inl h2⟩
theorem Sc(d:List ByteArray):((mq d).length:Int)=bR d:=by
 induction d with
 |nil=>rfl
 |cons x d ih=>
  have e:x.data.toList.length=x.size:=Array.length_toList;simp only[mq,qU,qY,bR]at ih⊢;omega
theorem MD(d:List ByteArray)(x:ByteArray):mq (d++[x])=mq d++x.data.toList:=by simp[mq]
theorem Hr(w:qo)(h:bt w K c):qw qx 11 #[pV K.cb] w fun e J=>e=qm (pV K.B.st)∧w=J:=by
 obtain⟨b0,n0,b1,n1,b2,n2,hr,_⟩:=h.row;have c4:=ar hr 4 _ rfl;clear h hr;go_enter func11,ntmps11;go_wp2_with fail
 go_ret;exact⟨rfl,rfl⟩
theorem Fj{a c:sO}{now r:Int}(E:ByteArray)(hE:(⟨(mq d).toArray⟩:ByteArray)=E)(hd:ue d)(n:Nat)(t:ByteArray)(ht:t=⟨#[114,101,97,100,32,50,32,48,32,56,49,57,50]⟩)(hn:3+d.length≤n∧n≤7+d.length)(D:List DirP.En)(H:List cN.Ha)(ls:List Int)(O:Int→Option oR)(l o:Int)(hV':hV d n=mM D H ls O (n:Nat) l o d)(hH:bq.BA H 1 2=true∧bq.yZ H 1 2=2)
 (hj:c.j≤n) (h:ia d B w f G n now r a c):mE f 1 t w 0 0 E (fun J=>ia d B J f G n now r a ⟨c.sq,n,c.buf⟩) B:=by
 subst hE;subst ht;exact JL hd n 8192 _ qa Oy ⟨by have:=hd.off;omega,Y⟩ hn D H ls O l o hV' hH hj h
theorem uj.fl{R:Nat→Rec}{V:Nat→SV}{now r:Int}{cl:Nat→sO}(h:uj B w f G R V n now r cl):Fl w:=by
 obtain⟨S,h1,_⟩:=h.at_.ex;exact h1.fl
