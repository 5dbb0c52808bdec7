/- Part 14 of the texts that the law's walk needs. -/
import Derived.Test.YtimabpfjjpjfjaaGreatDoorM01
import Derived.Test.YtimabpfjjpjfjaaGreatDoorM13
import Derived.Deep.LoopGhost
import Derived.OwnWalk
set_option maxHeartbeats 3200000
set_option maxRecDepth 100000
set_option linter.all false
open Go.Value renaming string→qg,tuple→qj,slice→qh,bool→qk,int→U
open Go renaming Value→qp,World→qo,Calls→qw,Addr→qt
open Go.Ending renaming returned→qm
open Go.IntKind renaming i64→Z
open Go.RowKit renaming Below→qz,Hid→qy
namespace Go.Proofs.YtimabpfjjpjfjaaGreatDoor
open Tryz
open Tryz renaming prog→qx
namespace PathW
open Go.RowKit
theorem ky:(prog.info? 9).map (fun i=>(i.zero,i.size,i.bytes))=some (some (qg ⟨#[]⟩),1,16):=qd
def gF(l:List UInt8):qp:=qg ⟨l.toArray⟩
def Strs(B:Nat)(w:qo)(v:qp)(l:List (List UInt8)):Prop:=w.ownsRow B 9 1 v l.length (l.map gF)
theorem FV(w:qo):qw qx 124 #[qg ⟨#[47]⟩] w fun e J=>e=qm (qj #[qh none 0 0,qk true])∧w=J:=by
 go_enter func124,ntmps124;go_wp2
 go_step3
 go_wp2
 rw[Exit.noGoto_ret];go_ret2
 exact⟨rfl,rfl⟩
theorem Dp(s:ByteArray)(w:qo):
 qw qx 126 #[qg s,.int .u8 47] w fun e J=>e=qm (U Z (if el s.data.toList<s.data.toList.length then(el s.data.toList:Int)else-1))∧w=J:=by
 have h:=Tryz.strings_IndexByte s 47 w;rw[show((47:Int).toNat.toUInt8)=47 from rfl,Kw]at h;exact h.mono fun e J ⟨h1,h2⟩=>⟨h1,h2.symm⟩
theorem Aj(s:ByteArray)(k:Nat)(hk:el s.data.toList=k)(h:k<s.size)(w:qo):
 qw qx 126 #[qg s,.int .u8 47] w fun e J=>e=qm (U Z (k:Int))∧w=J:=by
 have h0:=Dp s w
 rwa [qH (by simp;omega),hk]at h0
theorem Dq(s:ByteArray)(k:Nat)(hk:el s.data.toList=k)(h:k=s.size)(w:qo):
 qw qx 126 #[qg s,.int .u8 47] w fun e J=>e=qm (U Z (-1))∧w=J:=by
 have h0:=Dp s w
 rwa [qB (by simp;omega)]at h0
theorem vj(s:ByteArray)(b:Bool)(hb:cj s.data.toList=b)(hs:s.size≤9223372036854775807)(w:qo):
 qw qx 164 #[qg s] w fun e J=>e=qm (qk b)∧w=J:=by
 rw[←hb];exact jK s hs w
def Wk:qp→Nat
 |qg s=>s.size
 |_=>0
theorem NX(q:ByteArray):(q.extract 1 q.size).data.toList=q.data.toList.drop 1:=by
 rw[xL,xJ,xE,qT qc]
theorem lp(q:ByteArray)(k:Nat):(q.extract k q.size).data.toList=q.data.toList.drop k:=by
 rw[xL,xJ,xE,qT qc]
theorem NY(q:ByteArray)(k:Nat):(q.extract 0 k).data.toList=q.data.toList.take k:=by
 rw[xL,xJ,xE];simp
theorem iQ(s:ByteArray):Value.string s=gF s.data.toList:=rfl
theorem dH(q:ByteArray):q.data.toList.length=q.size:=qc
theorem KB(q:ByteArray)(h:0<q.size):q.data.toList=q[0]::(q.extract 1 q.size).data.toList:=by
 rw[NX];have hl:=dH q;have h0:q.data.toList[0]'Y=q[0]:=rfl;rw[←h0]
 conv=>lhs;rw[←List.drop_zero (l:=q.data.toList),List.drop_eq_getElem_cons Y]
theorem Strs.form{B:Nat}{w:qo}{v:qp}{l:List (List UInt8)}(h:Strs B w v l): ∃oa cap,v=qh oa l.length cap:=by
 rcases h.2 with⟨rfl,h0⟩|⟨g,cap,cur,rfl,_⟩
 ·exact⟨none,0,by rw[h0]⟩
 ·exact⟨_,_,rfl⟩
theorem Strs.snoc{B:Nat}{w:qo}{oa:Option qt}{cap:Nat}{l:List (List UInt8)}{s:ByteArray}{x:List UInt8}(hx:Value.string s=gF x)
 (h:w.ownsRow B 9 1 (qh oa (l.length+1) cap) (l.length+1) (l.map gF++(#[Value.string s]:Array qp).toList)):Strs B w (qh oa (l.length+1) cap) (l++[x]):=by
 unfold Strs;rw[qY,List.map_append];rw[hx]at h;exact h
theorem Dr(p:ByteArray)(hp:p.data.toList≠[47])(hs:p.size≤140737488355328)(w:qo):
 qw qx 124 #[qg p] w fun e J=> ∃v,e=qm (qj #[v,qk (dq p.data.toList).isSome])∧Strs w.heap.size J v ((dq p.data.toList).getD [])∧qz w.heap.size w J:=by
 obtain⟨i0,hi,hz0,hz1,hz2⟩:=info_parts ky;have bd:(p.toList==[47])=false:=by rw[xq,qP];exact hp
 have fP:=Hd (FU p.data.toList hp)
 have NONE:qy (∀W:qo,qz w.heap.size w W→dq p.data.toList=none→ ∃v,(Ending.returned (qj #[qh none 0 0,qk false]))=qm (qj #[v,qk (dq p.data.toList).isSome])∧Strs w.heap.size W v ((dq p.data.toList).getD [])∧qz w.heap.size w W):=Hd fun W hW hn=>by
  rw[hn];exact⟨_,rfl,⟨rfl,.inl ⟨rfl,rfl⟩⟩,hW⟩
 generalize hN:dq p.data.toList=N at*;have HN:=Hd hN;clear hp hN;go_enter func124,ntmps124;go_wp2
 go_step3
 go_wp2
 go_step3
 go_wp2
 clear bd
 go_loopw [0,4] (fun x l wr=> ∃(q:ByteArray) (acc:List (List UInt8)),x=qg q∧Strs w.heap.size wr l acc∧acc.length≤8∧q.size≤140737488355328∧cont acc q.data.toList=N∧qz w.heap.size w wr) (fun x _ _=>Wk x)
 case atStart=>exact⟨p,[],rfl,⟨rfl,.inl ⟨rfl,rfl⟩⟩,qc,hs,fP.o,Below.refl _ _⟩
 case round=>
  obtain⟨q,acc,rfl,np,agv,hqs,wT,dz⟩:=hrel;obtain⟨oa,cap,rfl⟩:=np.form;have ei:qy (wr.ownsRow w.heap.size 9 1 (qh oa acc.length cap) acc.length (acc.map gF)):=Hd np;have HC:=Hd wT;have HB:=Hd dz;clear np wT dz;by_cases h0:q.size=0
  ·obtain⟨n1,n2,n3⟩:=CP h0;have hq0:qy (q.data.toList=[]):=Hd (xe (by simpa using h0));clear h0;go_wp2
   rw[Exit.noGoto_ret];go_ret2
   exact NONE.o _ HB.o (by rw[←HC.o,hq0.o];rfl)
  ·have FW:0<q.size:=by omega
   obtain⟨n1,n2⟩:=lR FW;have mz:=KB q FW;clear h0;by_cases hc:q[0]=47
   ·have hb:((q[0].toNat:Int) !=47)=false:=by rw[hc];rfl
    rw[hc]at mz;clear hc;by_cases uw:acc.length=8
    ·have hb8:((acc.length:Int)==8)=true:=by rw[uw];rfl
     have HX:qy (N=none):=Hd (by rw[←HC.o,mz];exact Kx _ _ Y);clear uw mz;go_wp2
     rw[Exit.noGoto_ret];go_ret2
     exact NONE.o _ HB.o HX.o
    ·have hb8:((acc.length:Int)==8)=false:=by rw[qP];omega
     have aiW:acc.length≤7:=Y;clear uw agv;have hTs:(q.extract 1 q.size).size=q.size-1:=qc;generalize hT:q.extract 1 q.size=T at*;have HT:=Hd hT;have wT:cont acc (47::T.data.toList)=N:=by rw[←mz];exact HC.o
     clear hT HC;have hTL:=dH T;have hTZ:T.size≤140737488355328:=Y;obtain⟨e,he⟩: ∃e,el T.data.toList=e:=⟨_,rfl⟩;have hle:e≤T.size:=by have:=Th T.data.toList;omega
     have HE:=Hd he;have kh:qy ((T.extract 0 e).data.toList=T.data.toList.take e):=Hd (NY T e);have aF:qy ((T.extract e T.size).data.toList=T.data.toList.drop e):=Hd (lp T e);have hTs2:T.size<q.size:=Y;clear hTs hTL
     cases hn:cj (T.data.toList.take e)with
     |false=>
      have HX:qy (N=none):=Hd (by rw[←wT];exact Dm _ _ (by rw[he];exact hn));have zw:qy (cj (T.extract 0 e).data.toList=false):=Hd (by rw[kh.o];exact hn);clear mz wT hn he;rcases Nat.lt_or_ge e T.size with aN|uY
      ·go_wp2_with(first
        |(go_at_call 126;rw[HT.o];refine(Aj T e HE.o aN _).mono ?_;rintro e1 w1 ⟨rfl,rfl⟩)
        |(go_at_call 164;refine(vj _ false zw.o (by simp;omega) _).mono ?_;rintro e2 w2 ⟨rfl,rfl⟩))
       rw[Exit.noGoto_ret];go_ret2
       exact NONE.o _ HB.o HX.o
      ·obtain rfl:e=T.size:=by omega
       have HNT:qy (cj T.data.toList=false):=Hd (by rw[←zw.o,kh.o,qT qc])
       go_wp2_with(first
        |(go_at_call 126;rw[HT.o];refine(Dq T _ HE.o rfl _).mono ?_;rintro e1 w1 ⟨rfl,rfl⟩)
        |(go_at_call 164;refine(vj _ false HNT.o Y _).mono ?_;rintro e2 w2 ⟨rfl,rfl⟩))
       rw[Exit.noGoto_ret];go_ret2
       exact NONE.o _ HB.o HX.o
     |true=>
      have zw:qy (cj (T.extract 0 e).data.toList=true):=Hd (by rw[kh.o];exact hn);have HSV:qy (Value.string (T.extract 0 e)=gF (T.data.toList.take e)):=Hd (by rw[iQ,kh.o]);have BF:=Hd hn;have fF:=Hd wT;clear mz wT hn he;rcases Nat.lt_or_ge e T.size with aN|uY
      ·have bd:(T.extract e T.size).size≠0:=by simp;omega
       obtain⟨m1,m2⟩:=lR (s:=T.extract e T.size) Y
       have m3:(T.extract e T.size).toList≠[]:=by
        intro h;rw[h]at m1;cases m1
       have dD:qy (cont (acc++[T.data.toList.take e]) (T.extract e T.size).data.toList=N):=Hd (by
        rw[aF.o,←fF.o];have:=Kz acc T.data.toList (by rw[HE.o];exact BF.o) (by rw[HE.o,←aF.o,←xq];exact m3);rw[this,HE.o])
       clear bd m3
       go_wp2_with(first
        |(go_at_call 126;rw[HT.o];refine(Aj T e HE.o aN _).mono ?_;rintro e1 w1 ⟨rfl,rfl⟩)
        |(go_at_call 164;refine(vj _ true zw.o (by simp;omega) _).mono ?_;rintro e2 w2 ⟨rfl,rfl⟩)
        |(at_builtin;refine bB rfl _ _ 22 rfl w.heap.size 9 i0 (qg ⟨#[]⟩) 1 16 underlying22 hi hz0 hz1 hz2 rfl qa _ _ _ (by rfl) ei.o 1 1 (by rfl) rfl (by simp;rfl) (by unfold maxLen;omega) Y HB.o.size ?_;intro oa2 dd w5 bT bK _;have br:=Hd bT;have gx:=Hd (HB.o.trans bK);clear bT bK))
       refine⟨⟨_,acc++[T.data.toList.take e],rfl,Strs.snoc HSV.o br.o,by simp;omega,by simp;omega,dD.o,gx.o⟩,?_⟩;simp[Wk];omega
      ·obtain rfl:e=T.size:=by omega
       have HTK:qy (T.data.toList.take T.size=T.data.toList):=Hd (qT qc);have HNT:qy (cj T.data.toList=true):=Hd (by rw[←BF.o,HTK.o])
       have HX:qy (N=some (acc++[T.data.toList])):=Hd (by
        rw[←fF.o];have:=Ky acc T.data.toList Y (by rw[HE.o];exact BF.o) (by rw[HE.o];exact List.drop_eq_nil_of_le qc);rw[this,HE.o,HTK.o])
       go_wp2_with(first
        |(go_at_call 126;rw[HT.o];refine(Dq T _ HE.o rfl _).mono ?_;rintro e1 w1 ⟨rfl,rfl⟩)
        |(go_at_call 164;refine(vj _ true HNT.o Y _).mono ?_;rintro e2 w2 ⟨rfl,rfl⟩)
        |(at_builtin;refine bB rfl _ _ 22 rfl w.heap.size 9 i0 (qg ⟨#[]⟩) 1 16 underlying22 hi hz0 hz1 hz2 rfl qa _ _ _ (by rfl) ei.o 1 1 (by rfl) rfl (by simp;rfl) (by unfold maxLen;omega) Y HB.o.size ?_;intro oa2 dd w5 bT bK _;have br:=Hd bT;have gx:=Hd (HB.o.trans bK);clear bT bK))
       go_ret2
       exact⟨qh oa2 (acc.length+1) dd,by rw[HX.o];rfl,by rw[HX.o];exact Strs.snoc (iQ T) br.o,gx.o⟩
   ·have hb:((q[0].toNat:Int) !=47)=true:=by
     rw[bne_iff_ne];intro h;exact hc (UInt8.toNat_inj.1 (by have:(47:UInt8).toNat=47:=rfl;omega))
    have HX:qy (N=none):=Hd (by rw[←HC.o,mz];exact BE _ _ _ hc);clear hc mz;go_wp2
    rw[Exit.noGoto_ret];go_ret2
    exact NONE.o _ HB.o HX.o
theorem tB(p:ByteArray)(hs:p.size≤140737488355328)(w:qo):
 qw qx 124 #[qg p] w fun e J=> ∃v,e=qm (qj #[v,qk (dq p.data.toList).isSome])∧Strs w.heap.size J v ((dq p.data.toList).getD [])∧qz w.heap.size w J:=by
 by_cases hp:p.data.toList=[47]
 ·obtain rfl:p=⟨#[47]⟩:=by apply ByteArray.ext;apply Array.toList_inj.1;exact hp
  refine(FV w).mono ?_;rintro e J⟨rfl,rfl⟩;exact⟨qh none 0 0,rfl,⟨rfl,.inl ⟨rfl,rfl⟩⟩,Below.refl _ _⟩
 ·exact Dr p hp hs w
theorem cG(p:ByteArray)(hs:p.size≤140737488355328)(w:qo):
 qw qx 81 #[qg p] w fun e J=>e=qm (qk (dq p.data.toList).isSome)∧qz w.heap.size w J:=by
 go_enter func81,ntmps81;go_wp2_with(go_at_call 124;refine(tB _ hs _).mono ?_;rintro e w1 ⟨v,rfl,hs1,hb1⟩;have cq:=Hd hb1;clear hs1 hb1)
 go_ret;exact⟨rfl,cq.o⟩
def pO(p:List UInt8):Int:=if(dq p).isSome=true then 0 else 11
def mN(B:Nat)(w:qo)(oa:Option qt)(l:List (List UInt8)):Prop:= ∀i (h:i<l.length),∃a,oa=some a∧a.block<B∧w.cell? (a.add i)=some (gF l[i])
theorem mN.below{B:Nat}{w J:qo}{oa:Option qt}{l:List (List UInt8)}(h:mN B w oa l)(hb:qz B w J):mN B J oa l:=by
 intro i hi;obtain⟨a,h1,h2,h3⟩:=h i hi;exact⟨a,h1,h2,(hb.cell (by rw[bA];exact h2)).trans h3⟩
theorem mN.sa{B:Nat}{w:qo}{oa:Option qt}{n cap:Nat}{l:List (List UInt8)}(h:Strs B w (qh oa n cap) l):mN w.heap.size w oa l:=by
 intro i hi;rcases h.2 with⟨_,h0⟩|⟨g,cap',cur,hv,hb,hg,_⟩
 ·omega
 ·have hc:=World.ownsRow.cells h (g:=g) (by simp[Value.ownBlock];injection hv with h1;rw[h1]) i (gF l[i]) (by simp[hi]);injection hv with h1
  exact⟨⟨g,0,none⟩,h1,qK hg,hc⟩
theorem mN.take{B:Nat}{w:qo}{oa:Option qt}{l:List (List UInt8)}(h:mN B w oa l)(k:Nat):mN B w oa (l.take k):=by
 intro i hi;have hi2:i<l.length:=by rw[xF]at hi;omega
 obtain⟨a,h1,h2,h3⟩:=h i hi2;exact⟨a,h1,h2,by rw[List.getElem_take];exact h3⟩
theorem NZ(l:List (List UInt8))(k:Nat)(h:k<l.length):(l.take (k+1)).all cj=((l.take k).all cj&&cj l[k]):=by
 rw[qL h,List.all_append];simp
theorem Ak(x:List UInt8):(⟨x.toArray⟩:ByteArray).size=x.length:=by simp[ByteArray.size]
def pq(l:List (List UInt8)):ByteArray:=match wR l with|some s=>⟨s.toArray⟩|none=>⟨#[]⟩
def pt(l:List (List UInt8)):Int:=match wR l with|some _=>0|none=>11
theorem rS(l:List (List UInt8))(h:l.length≤8)(ha:l.all cj=true):(Lib.join l [47]).length≤100:=by
 have h1:=qX List.length (wQ l);rw[xf]at h1
 have h2:(jL l).length≤1+l.length*9:=by
  unfold jL;split
  ·simp
  ·rw[my,List.length_flatten,List.map_map]
   have key: ∀m:List (List UInt8),m.all cj=true→(m.map (List.length∘fun x=>47::x)).sum≤m.length*9:=by
    intro m
    induction m with
    |nil=>simp
    |cons x r ih=>
     intro hm;simp only[List.all_cons,qF]at hm
     have hx:x.length≤8:=by
      have:=hm.1;unfold cj at this;simp only[qF,qC]at this;exact this.1.2
     have:=ih hm.2;simp only[List.map_cons,List.sum_cons,Function.comp_apply,xf];omega
   have:=key l ha;omega
 omega
theorem Ds(p:List UInt8): ∀x∈(dq p).getD [],x.length≤9223372036854775807:=by
 intro x hx
 cases h:dq p with
 |none=>rw[h]at hx;simp at hx
 |some l=>
  rw[h]at hx;have:=List.all_eq_true.1 (pN p l h).2.2 x hx;unfold cj at this;simp only[qF,qC]at this;omega
theorem Strs.cap{B:Nat}{w:qo}{oa:Option qt}{n cap:Nat}{l:List (List UInt8)}(h:Strs B w (qh oa n cap) l):n=l.length∧l.length≤cap:=by
 rcases h.2 with⟨hv,h0⟩|⟨g,cap',cur,hv,_,_,hn,_⟩
 ·injection hv with h1 h2 h3;subst h2;subst h3;omega
 ·injection hv with h1 h2 h3;subst h2;subst h3;exact⟨rfl,hn⟩
def Oa(p:List UInt8):List UInt8×List UInt8×Bool:=match dq p with
 |none=>([],[],false)
 |some l=>if l=[]then([],[],false)else(jL (l.take (l.length-1)),l.getD (l.length-1) [],true)
theorem KC(l:List (List UInt8))(k:Nat)(h8:l.length≤8)(ha:l.all cj=true):pq (l.take k)=⟨(jL (l.take k)).toArray⟩∧pt (l.take k)=0:=by
 have h:wR (l.take k)=some (jL (l.take k)):=by
  rw[wR,qH ⟨by rw[xF];omega,List.all_eq_true.2 fun x hx=>List.all_eq_true.1 ha x (List.mem_of_mem_take hx)⟩]
 rw[pq,pt,h];exact⟨rfl,rfl⟩
theorem KD(x:List UInt8)(h:cj x=true):x.length≤8:=by
 unfold cj at h;simp only[qF,qC]at h;exact h.1.2
theorem KE(l:List (List UInt8))(h:l.all cj=true):(my l).length≤l.length*9:=by
 induction l with
 |nil=>simp[my]
 |cons x r ih=>
  simp only[List.all_cons,qF]at h;have h1:=ih h.2;have h2:=KD x h.1;have:my (x::r)=47::x++my r:=rfl;rw[this];simp only[qY,xf];omega
theorem sc(q:ByteArray)(a b:Nat):(q.extract a b).data.toList=(q.data.toList.drop a).take (b-a):=by
 rw[xL,xJ,xE]
theorem getD_at(q:ByteArray)(j:Nat)(h:j<q.size):q.data.toList.getD j 0=q[j]:=by
 rw[xz,qN (by simpa using h)];rfl
theorem Al(p:ByteArray)(hs:p.size≤140737488355328)(w:qo):
 qw qx 322 #[qg p] w fun e J=> ∃v,e=qm (qj #[v,U Z (pO p.data.toList)])∧Strs w.heap.size J v ((dq p.data.toList).getD [])∧qz w.heap.size w J:=by
 have hn:=tB p hs w
 cases hN:dq p.data.toList with
 |none=>
  have HE:qy (pO p.data.toList=11):=Hd (by rw[pO,hN];rfl);rw[hN]at hn;have HN:=Hd hn;clear hn hN;go_enter func322,ntmps322;go_wp2_with(go_at_call 124;refine HN.o.mono ?_;rintro e w1 ⟨v,rfl,hs1,hb1⟩;have cq:=Hd hb1;have dZ:=Hd hs1;clear hs1 hb1)
  go_ret2
  exact⟨_,by rw[HE.o];rfl,⟨rfl,.inl ⟨rfl,rfl⟩⟩,cq.o⟩
 |some l=>
  have HE:qy (pO p.data.toList=0):=Hd (by rw[pO,hN];rfl);rw[hN]at hn;have HN:=Hd hn;clear hn hN;go_enter func322,ntmps322;go_wp2_with(go_at_call 124;refine HN.o.mono ?_;rintro e w1 ⟨v,rfl,hs1,hb1⟩;have cq:=Hd hb1;have dZ:=Hd hs1;clear hs1 hb1)
  go_ret2
  exact⟨_,by rw[HE.o];rfl,dZ.o,cq.o⟩
theorem Am(s:ByteArray)(hs:s.size≤9223372036854775807)(w:qo):
 qw qx 506 #[qg s] w fun e J=>e=qm (qk (!cj s.data.toList))∧w=J:=by
 go_enter func506,ntmps506;go_wp2_with(go_at_call 164;refine(jK _ hs _).mono ?_;rintro e w1 ⟨rfl,rfl⟩)
 go_ret;exact⟨rfl,rfl⟩
theorem pP(oa:Option qt)(cap:Nat)(l:List (List UInt8))(hl:l.length≤140737488355328)(hz: ∀x∈l,x.length≤9223372036854775807)(w:qo)(h:mN w.heap.size w oa l):
 qw qx 507 #[qh oa l.length cap,.func (.func 506) #[] #[]] w fun e J=> ∃r:Int,e=qm (U Z r)∧w=J∧decide (0≤r)= !(l.all cj):=by
 have HR:=Hd h;have HZ:=Hd hz;clear h hz;go_enter func507,ntmps507;go_wp2_with fail
 go_loop [8] (fun i=> ∃k:Nat,k≤l.length∧i=U Z k∧(l.take k).all cj=true) (fun i=>l.length-(intOf i).toNat)
 case atStart=>exact⟨0,Nat.zero_le _,rfl,rfl⟩
 case round=>
  obtain⟨k,hk,rfl,mR⟩:=hrel;have HA:=Hd mR;clear mR;by_cases aN:k<l.length
  ·have HT:=Hd (NZ l k aN);obtain⟨a,rfl,_,hc⟩:=HR.o k aN;have HS:qy ((⟨l[k].toArray⟩:ByteArray).size≤9223372036854775807):=Hd (by rw[Ak];have:=HZ.o l[k] (List.getElem_mem _);omega);unfold gF at hc
   cases hn:cj l[k]with
   |true=>
    have HN:=Hd hn;clear hn;go_wp2_with(go_at_call 506;refine(Am _ HS.o _).mono ?_;rintro e w1 ⟨he,rfl⟩;obtain rfl:e=qm (qk false):=he.trans (by rw[HN.o];rfl))
    first
     |exact⟨⟨k+1,Y,by go_num,by rw[HT.o,HA.o,HN.o];rfl⟩,by simp[intOf];omega⟩
     |(go_round
       case rel=>exact⟨k+1,Y,by go_num,by rw[HT.o,HA.o,HN.o];rfl⟩
       case measure=>simp[intOf];omega)
   |false=>
    have HN:=Hd hn;clear hn;go_wp2_with(go_at_call 506;refine(Am _ HS.o _).mono ?_;rintro e w1 ⟨he,rfl⟩;obtain rfl:e=qm (qk true):=he.trans (by rw[HN.o];rfl))
    go_ret;refine⟨_,rfl,rfl,?_⟩
    have:l.all cj=false:=by
     rw[List.all_eq_false];exact⟨l[k],List.getElem_mem _,by rw[HN.o];simp⟩
    rw[this,qR Y];rfl
  ·have HK:qy (l.take k=l):=Hd (qT Y);go_wp2
   go_ret;exact⟨_,rfl,rfl,by rw[←HK.o,HA.o];rfl⟩
theorem iE(oa:Option qt)(cap:Nat)(l:List (List UInt8))(hl:l.length≤140737488355328)(hz: ∀x∈l,x.length≤9223372036854775807)(w:qo)(h:mN w.heap.size w oa l):
 qw qx 505 #[qh oa l.length cap,.func (.func 506) #[] #[]] w fun e J=>e=qm (qk (!(l.all cj)))∧w=J:=by
 have HI:=Hd (pP oa cap l hl hz w h);clear h hz;go_enter func505,ntmps505;go_wp2_with(go_at_call 507;refine HI.o.mono ?_;rintro e w1 ⟨r,rfl,rfl,hd⟩;have HD:=Hd hd;clear hd)
 go_ret;exact⟨aH HD.o,rfl⟩
theorem nr(oa:Option qt)(cap:Nat)(l:List (List UInt8))(b:Bool)(hb:(!(l.all cj))=b)(hl:l.length≤140737488355328)(hz: ∀x∈l,x.length≤9223372036854775807)(w:qo)(h:mN w.heap.size w oa l):
 qw qx 505 #[qh oa l.length cap,.func (.func 506) #[] #[]] w fun e J=>e=qm (qk b)∧w=J:=by
 rw[←hb];exact iE oa cap l hl hz w h
theorem Ob(oa:Option qt)(cap:Nat)(l:List (List UInt8))(hl:l.length≤140737488355328)(rY:l.length≤cap)(hz: ∀x∈l,x.length≤9223372036854775807)(w:qo)(h:mN w.heap.size w oa l):
 qw qx 501 #[qh oa l.length cap] w fun e J=>e=qm (qj #[qg (pq l),U Z (pt l)])∧qz w.heap.size w J:=by
 by_cases h8:l.length≤8
 ·have d:decide (8<(l.length:Int))=false:=qD Y
  cases ha:l.all cj with
  |true=>
   have Ti:=Hd (nr oa cap l false (by rw[ha];rfl) hl hz w h);have HR:qy (pq l=⟨(jL l).toArray⟩∧pt l=0):=Hd (by rw[pq,pt,wR,qH ⟨h8,ha⟩];exact⟨rfl,rfl⟩);have hlen:=rS l h8 ha
   have HJ:qy (qw qx 29 #[qh oa l.length cap,qg ⟨#[47]⟩] w fun e J=>e=qm (qg ⟨(Lib.join l [47]).toArray⟩)∧qz w.heap.size w J):=by
    apply Hd;by_cases h0:l=[]
    ·subst h0;exact(Tryz.strings_Join_none oa cap ⟨#[47]⟩ w).mono fun e J ⟨h1,h2⟩=>⟨h1,by rw[h2];exact Below.refl _ _⟩
    ·have FW:0<l.length:=List.length_pos_iff.2 h0;obtain⟨a,rfl,oW,hc0⟩:=h 0 FW
     have hsp:a.spot=none:=by
      have:=World.cell?_spot hc0;simpa [Addr.add]using this
     obtain⟨b,o,sp⟩:=a;obtain rfl:sp=none:=hsp
     have wU:(l.map fun x=>(⟨x.toArray⟩:ByteArray)).map (·.data.toList)=l:=by
      rw[List.map_map];conv=>rhs;rw[←List.map_id l]
      rfl
     have key:=Tryz.strings_Join b o cap (l.map fun x=>(⟨x.toArray⟩:ByteArray)) ⟨#[47]⟩ w (by
      intro j s hs;rw[List.getElem?_map]at hs;obtain⟨x,hx,rfl⟩:=xG.1 hs;obtain⟨hj,rfl⟩:=xb.1 hx;obtain⟨a',ha',_,hc⟩:=h j hj;injection ha' with ha'
      subst ha'
      have he:(⟨b,o,none⟩:qt).add j=⟨b,o+j,none⟩:=by
       unfold Addr.add;split
       ·rename_i hj0;subst hj0;rfl
       ·rfl
      rw[he]at hc;exact hc) oW (by simpa using hl) (by simpa using rY) (by rw[wU];show(Lib.join l [47]).length≤_;omega)
     rw[wU,List.length_map]at key;exact key
   have sR:qy ((⟨(Lib.join l [47]).toArray⟩:ByteArray).size≤100):=Hd (by rw[Ak];exact hlen)
   have HP:qy ((⟨#[47]⟩:ByteArray)++⟨(Lib.join l [47]).toArray⟩=⟨(jL l).toArray⟩):=Hd (by
    apply ByteArray.ext;apply Array.toList_inj.1;rw[ByteArray.data_append,Array.toList_append,←wQ];rfl)
   generalize hJJ:(⟨(Lib.join l [47]).toArray⟩:ByteArray)=Jq at*;have hjz:=sR.o;clear ha hlen hJJ h hz h8 sR;go_enter func501,ntmps501
   go_wp2_with(first
    |(go_at_call 505;refine Ti.o.mono ?_;rintro e w1 ⟨rfl,rfl⟩)
    |(go_at_call 29;refine HJ.o.mono ?_;rintro e w1 ⟨rfl,hb1⟩))
   go_ret2
   exact⟨by rw[HR.o.1,HR.o.2,←HP.o];rfl,hb1⟩
  |false=>
   have Ti:=Hd (nr oa cap l true (by rw[ha];rfl) hl hz w h);have HR:qy (pq l=⟨#[]⟩∧pt l=11):=Hd (by rw[pq,pt,wR,qB (by rw[ha];simp)];exact⟨rfl,rfl⟩);clear ha h hz h8;go_enter func501,ntmps501
   go_wp2_with(first
    |(go_at_call 505;refine Ti.o.mono ?_;rintro e w1 ⟨rfl,rfl⟩))
   go_ret2
   exact⟨by rw[HR.o.1,HR.o.2];rfl,Below.refl _ _⟩
 ·have d:decide (8<(l.length:Int))=true:=qR Y;have HR:qy (pq l=⟨#[]⟩∧pt l=11):=Hd (by rw[pq,pt,wR,qB Y];exact⟨rfl,rfl⟩);clear h hz h8;go_enter func501,ntmps501;go_wp2
  go_ret2
  exact⟨by rw[HR.o.1,HR.o.2];rfl,Below.refl _ _⟩
theorem sd(oa:Option qt)(n cap:Nat)(l:List (List UInt8))(hn:n=l.length)(hl:l.length≤140737488355328)(rY:l.length≤cap)(hz: ∀x∈l,x.length≤9223372036854775807)(s:ByteArray)(e0:Int)(hs:pq l=s∧pt l=e0)(w:qo)(h:mN w.heap.size w oa l):
 qw qx 501 #[qh oa n cap] w fun e J=>e=qm (qj #[qg s,U Z e0])∧qz w.heap.size w J:=by
 subst hn;rw[←hs.1,←hs.2];exact Ob oa cap l hl rY hz w h
theorem Yh(p:ByteArray)(hs:p.size≤140737488355328)(w:qo):
 qw qx 485 #[qg p] w fun e J=>e=qm (qj #[qg ⟨(Oa p.data.toList).1.toArray⟩,qg ⟨(Oa p.data.toList).2.1.toArray⟩,qk (Oa p.data.toList).2.2])∧qz w.heap.size w J:=by
 have hn:=tB p hs w
 cases hN:dq p.data.toList with
 |none=>
  have HU:qy (Oa p.data.toList=([],[],false)):=Hd (by rw[Oa,hN]);rw[hN]at hn;have HN:=Hd hn;clear hn hN;go_enter func485,ntmps485;go_wp2_with(go_at_call 124;refine HN.o.mono ?_;rintro e w1 ⟨v,rfl,hs1,hb1⟩;have cq:=Hd hb1;clear hs1 hb1)
  go_ret3
  exact⟨by rw[HU.o];rfl,cq.o⟩
 |some l=>
  rw[hN]at hn;have HN:=Hd hn;obtain⟨_,h8,ha⟩:=pN _ l hN;have hz:=Ds p.data.toList;rw[hN]at hz;have HZ:qy (∀x∈l,x.length≤9223372036854775807):=Hd hz;by_cases h0:l=[]
  ·have HU:qy (Oa p.data.toList=([],[],false)):=Hd (by rw[Oa,hN];simp[h0]);subst h0;clear hn hN hz;go_enter func485,ntmps485;go_wp2_with(go_at_call 124;refine HN.o.mono ?_;rintro e w1 ⟨v,rfl,hs1,hb1⟩;have cq:=Hd hb1;obtain⟨oa,cap,rfl⟩:=hs1.form;clear hs1 hb1)
   go_ret3
   exact⟨by rw[HU.o];rfl,cq.o⟩
  ·have FW:1≤l.length:=List.length_pos_iff.2 h0;obtain⟨m,hm⟩: ∃m,l.length=m+1:=⟨l.length-1,Y⟩;obtain⟨x,hx⟩: ∃x,l[m]? =some x:=⟨_,qN (show m<l.length by omega)⟩
   have HU:qy (Oa p.data.toList=(jL (l.take m),x,true)):=Hd (by
    rw[Oa,hN];simp only;rw[qB h0,hm,Nat.add_sub_cancel,xz,hx];rfl)
   have Yi:qy (∀h:m<l.length,l[m]'h=x):=Hd fun h=>by rw[qN h]at hx;injection hx
   have HJ:=Hd (KC l m h8 ha);have HTL:qy ((l.take m).length=m):=Hd (by rw[xF];omega);have HML:qy (m<l.length):=Hd Y;have hb0:((l.length:Int)==0)=false:=by rw[qP];omega
   have hm8:(m:Int)≤8:=Y;have HM:=Hd hm;have Iq:l.length≤8:=h8;clear hn hN hz h0 hx ha hm;go_enter func485,ntmps485
   go_wp2_with(first
    |(go_at_call 124;refine HN.o.mono ?_;rintro e w1 ⟨v,rfl,hs1,hb1⟩;have cq:=Hd hb1;obtain⟨oa,cap,rfl⟩:=hs1.form;have rY:(l.length:Int)≤(cap:Int):=(by have:=hs1.cap.2;simp only[Option.getD_some]at this;omega);have HR:=Hd (show mN w1.heap.size w1 oa l from mN.sa hs1);clear hs1 hb1)
    |(go_at_call 501;refine(sd _ _ _ (l.take m) (by rw[HTL.o];have:=HM.o;omega) (by have:=HTL.o;have:=HM.o;omega) (by have:=HTL.o;have:=HM.o;omega) (fun y hy=>HZ.o y (List.mem_of_mem_take hy)) _ _ HJ.o _ (HR.o.take m)).mono ?_;rintro e w2 ⟨rfl,hb2⟩;obtain⟨a,rfl,oW,hc⟩:=(HR.o.below hb2) m HML.o;have az:=Hd (ai cq.o hb2);clear hb2;have Tj:m=l.length-1:=(by have:=HM.o;omega);rw[Yi.o]at hc;rw[Tj]at hc;unfold gF at hc;clear Tj))
   have hl0:(0:Int)≤(l.length:Int)-1:=Y
   go_quiet (fail)
   go_wp2
   go_ret3
   exact⟨by rw[HU.o];rfl,below_drewN az.o _⟩
theorem An(oa ob:Option qt)(ca cb:Nat)(a b:List (List UInt8))(ha:a.length≤140737488355328)(hb:b.length≤140737488355328)(w:qo)(h1:mN w.heap.size w oa a)(h2:mN w.heap.size w ob b):
 qw qx 487 #[qh oa a.length ca,qh ob b.length cb] w fun e J=>e=qm (qk (a==b))∧qz w.heap.size w J:=by
 by_cases hl:a.length=b.length
 ·have H1:=Hd h1;have H2:=Hd h2;have HL:=Hd hl;have XL:((a.length:Int) !=(b.length:Int))=false:=by rw[bne_eq_false_iff_eq];omega
  clear h1 h2 hl;go_enter func487,ntmps487;go_wp2_with fail
  clear XL
  go_loopw [13] (fun i wr=> ∃k:Nat,k≤a.length∧i=U Z k∧a.take k=b.take k∧qz w.heap.size w wr) (fun i _=>a.length-(intOf i).toNat)
  case atStart=>exact⟨0,Nat.zero_le _,rfl,rfl,Below.refl _ _⟩
  case round=>
   obtain⟨k,hk,rfl,BG,dz⟩:=hrel;have HT:=Hd BG;have HB:=Hd dz;clear BG dz;by_cases aN:k<a.length
   ·obtain⟨x,rfl,_,hx⟩:=(H1.o.below HB.o) k aN;have Yj:k<b.length:=by have:=HL.o;omega
    obtain⟨y,rfl,_,hy⟩:=(H2.o.below HB.o) k Yj;have HTA:qy (a.take (k+1)=a.take k++[a[k]]):=Hd (qL aN);have HTB:qy (b.take (k+1)=b.take k++[b[k]]):=Hd (qL Yj);have hk0:(0:Int)≤(k:Int):=Y;have hk1:(k:Int)<(a.length:Int):=Y;have hk2:(k:Int)<(b.length:Int):=Y;unfold gF at hx hy;by_cases he:a[k]=b[k]
    ·have hq:(a[k]==b[k])=true:=by rw[he];simp
     have HE:=Hd he;clear he;go_wp2
     go_quiet (fail)
     go_wp2
     exact⟨⟨k+1,Y,by go_num,by rw[HTA.o,HTB.o,HT.o,HE.o],below_drewN HB.o _⟩,by simp[intOf];omega⟩
    ·have hq:(a[k]==b[k])=false:=by rw[qP];exact he
     have HE:=Hd he;clear he;go_wp2
     go_quiet (fail)
     go_wp2
     go_ret;refine⟨aH ?_,below_drewN HB.o _⟩
     symm
     rw[qP];rintro rfl;exact HE.o rfl
   ·go_wp2
    go_ret;refine⟨aH ?_,HB.o⟩;have h1:=HT.o;rw[qT Y,qT (by have:=HL.o;omega)]at h1;rw[h1];simp
 ·have XL:((a.length:Int) !=(b.length:Int))=true:=by rw[bne_iff_ne];omega
  have HL:=Hd hl;clear hl h1 h2;go_enter func487,ntmps487;go_wp2
  go_ret;refine⟨aH ?_,Below.refl _ _⟩
  symm
  rw[qP];rintro rfl;exact HL.o rfl
