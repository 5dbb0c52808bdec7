/- Part 13 of the texts that the law's walk needs. -/
import Derived.Test.YtimabpfjjpjfjaaGreatDoorM05
import Derived.Test.YtimabpfjjpjfjaaGreatDoorM12
import Derived.Lib.Join
set_option maxHeartbeats 3200000
set_option maxRecDepth 100000
set_option linter.all false
open Go.Value (int)
open Go.IntKind (i64)
namespace Go.Proofs.YtimabpfjjpjfjaaGreatDoor
open Tryz
namespace PathW
open Go.RowKit
def Sq(c:UInt8):Bool:=(decide (97≤(c.toNat:Int))&&decide ((c.toNat:Int)≤122))||(decide (48≤(c.toNat:Int))&&decide ((c.toNat:Int)≤57))||((c.toNat:Int)==95)
def Ip(x:Int):Bool:=(decide (97≤x)&&decide (x≤122))||(decide (48≤x)&&decide (x≤57))||(x==95)
theorem acf(c:UInt8):Sq c=Ip (c.toNat:Int):=rfl
theorem Yf(x:Int): ∃lo hi:Int,lo≤x∧x≤hi∧((hi<48∧Ip x=false∧(x==95)=false∧(x !=95)=true)∨(48≤lo∧hi≤57∧Ip x=true∧(x==95)=false∧(x !=95)=true)∨(58≤lo∧hi≤94∧Ip x=false∧(x==95)=false∧(x !=95)=true)∨(95≤lo∧hi≤95∧Ip x=true∧(x==95)=true∧(x !=95)=false)∨(96≤lo∧hi≤96∧Ip x=false∧(x==95)=false∧(x !=95)=true)∨(97≤lo∧hi≤122∧Ip x=true∧(x==95)=false∧(x !=95)=true)∨(122<lo∧Ip x=false∧(x==95)=false∧(x !=95)=true)):=by
 refine⟨x,x,Y,Y,?_⟩;have h95:x≠95→(x==95)=false:=fun h=>qP.2 h;have n95:x≠95→(x !=95)=true:=fun h=>bne_iff_ne.2 h;rcases(by omega:x<48∨(48≤x∧x≤57)∨(58≤x∧x≤94)∨x=95∨x=96∨(97≤x∧x≤122)∨122<x)with h|h|h|h|h|h|h
 ·exact .inl ⟨h,by unfold Ip;rw[qD Y,qD (show¬48≤x by omega),h95 Y];rfl,h95 Y,n95 Y⟩
 ·exact .inr (.inl ⟨h.1,h.2,by unfold Ip;rw[qR (show 48≤x by omega),qR (show x≤57 by omega)];simp,h95 Y,n95 Y⟩)
 ·exact .inr (.inr (.inl ⟨h.1,h.2,by unfold Ip;rw[qD Y,qD (show¬x≤57 by omega),h95 Y];simp,h95 Y,n95 Y⟩))
 ·subst h;exact .inr (.inr (.inr (.inl ⟨Y,Y,qa,qa,qa⟩)))
 ·subst h;exact .inr (.inr (.inr (.inr (.inl ⟨Y,Y,qa,qa,qa⟩))))
 ·exact .inr (.inr (.inr (.inr (.inr (.inl ⟨h.1,h.2,by unfold Ip;rw[qR (show 97≤x by omega),qR (show x≤122 by omega)];simp,h95 Y,n95 Y⟩)))))
 ·exact .inr (.inr (.inr (.inr (.inr (.inr ⟨h,by unfold Ip;rw[qD (show¬x≤122 by omega),qD (show¬x≤57 by omega),h95 Y];simp,h95 Y,n95 Y⟩)))))
def cj(l:List UInt8):Bool:=decide (1≤l.length)&&decide (l.length≤8)&&l.all Sq
theorem rZ(s:ByteArray)(k:Nat)(h:k<s.size):(s.data.toList.take (k+1)).all Sq=((s.data.toList.take k).all Sq&&Sq s[k]):=by
 rw[qL (by simpa using h),List.all_append];simp;rfl
theorem Yg(s:ByteArray)(k:Nat)(h:k<s.size)(hk:Sq s[k]=false):s.data.toList.all Sq=false:=by
 rw[List.all_eq_false];refine⟨s[k],?_,by rw[hk];simp⟩;have:s.data.toList[k]'(by simpa using h)=s[k]:=rfl;rw[←this];exact List.getElem_mem _
theorem jK(s:ByteArray)(hs:s.size≤9223372036854775807)(w:World):
 Calls prog 164 #[.string s] w fun e J=>e= .returned (.bool (cj s.data.toList))∧w=J:=by
 have hlen:s.data.toList.length=s.size:=qc;by_cases h:s.size<1∨8<s.size
 ·have HR:Hid (cj s.data.toList=false):=Hd (by
   rw[cj,hlen];rcases h with h|h
   ·rw[qD Y];rfl
   ·rw[qD (show¬s.size≤8 by omega)];simp)
  rcases h with h|h
  all_goals
   go_enter func164,ntmps164;go_wp2
   go_ret;exact⟨aH HR.o.symm,rfl⟩
 ·have h1:1≤s.size:=by omega
  have h2:s.size≤8:=Y
  have HR:Hid (cj s.data.toList=s.data.toList.all Sq):=Hd (by
   rw[cj,hlen,qR h1,qR h2];rfl)
  have d1:decide ((s.size:Int)<1)=false:=qD Y;have d2:decide (8<(s.size:Int))=false:=qD Y;clear h hlen;go_enter func164,ntmps164;go_wp2
  clear d1 d2
  go_loop [15] (fun i=> ∃k:Nat,k≤s.size∧i=int i64 k∧(s.data.toList.take k).all Sq=true) (fun i=>s.size-(intOf i).toNat)
  case atStart=>exact⟨0,Nat.zero_le _,rfl,rfl⟩
  case round=>
   obtain⟨k,hk,rfl,mR⟩:=hrel;have HA:=Hd mR;clear mR;by_cases aN:k<s.size
   ·have HT:=Hd (rZ s k aN);have HNO:=Hd (Yg s k aN);have HC:Hid (Sq s[k]=Ip (s[k].toNat:Int)):=Hd (acf _);obtain⟨lo,hi,Sk,VV,ff⟩:=Yf (s[k].toNat:Int);rcases ff with⟨hx,bI,he,bd⟩|⟨hx,hy,bI,he,bd⟩|⟨hx,hy,bI,he,bd⟩|⟨hx,hy,bI,he,bd⟩|⟨hx,hy,bI,he,bd⟩|⟨hx,hy,bI,he,bd⟩|⟨hx,bI,he,bd⟩
    all_goals
     have HO:=Hd bI;clear bI;go_wp2
     all_goals first
      |(exfalso;rename_i Tg;simp at Tg;omega)
      |(go_ret;exact⟨aH (HR.o.trans (HNO.o (HC.o.trans HO.o))).symm,rfl⟩)
      |exact⟨⟨k+1,Y,by go_num,by rw[HT.o,HA.o,HC.o,HO.o];rfl⟩,by simp[intOf];omega⟩
      |(go_round
        case rel=>exact⟨k+1,Y,by go_num,by rw[HT.o,HA.o,HC.o,HO.o];rfl⟩
        case measure=>simp[intOf];omega)
   ·have HK:Hid (s.data.toList.take k=s.data.toList):=Hd (qT (by simp;omega));go_wp2
    go_ret;exact⟨aH (by rw[HR.o,←HK.o,HA.o]),rfl⟩
end PathW
namespace PathW
def gE:List UInt8→List (List UInt8)
 |[]=>[[]]
 |c::l=>if c=47 then []::gE l else match gE l with
  |s::r=>(c::s)::r
  |[]=>[[c]]
theorem BD(l:List UInt8):gE l≠[]:=by
 cases l with
 |nil=>simp[gE]
 |cons c l=>
  unfold gE;split
  ·simp
  ·split<;>simp
theorem NW(l:List UInt8):1≤(gE l).length:=by
 have:=BD l
 cases h:gE l with
 |nil=>exact qZ h this
 |cons a r=>simp
def el:List UInt8→Nat
 |[]=>0
 |c::l=>if c=47 then 0 else el l+1
theorem Th(l:List UInt8):el l≤l.length:=by
 induction l with
 |nil=>simp[el]
 |cons c l ih=>unfold el;split<;>simp;omega
theorem wL(l:List UInt8):el (47::l)=0:=by rw[el,qH rfl]
theorem wM(c:UInt8)(l:List UInt8)(h:c≠47):el (c::l)=el l+1:=by rw[el,qB h]
theorem wN(l:List UInt8):gE (47::l)=[]::gE l:=by rw[gE,qH rfl]
theorem wO(c:UInt8)(l s:List UInt8)(r:List (List UInt8))(h:c≠47)(e:gE l=s::r):gE (c::l)=(c::s)::r:=by rw[gE,qB h,e]
theorem Kw(l:List UInt8):Lib.indexByte l 47=if el l<l.length then(el l:Int)else-1:=by
 induction l with
 |nil=>simp[el,Lib.indexByte]
 |cons c l ih=>
  by_cases hc:c=47
  ·subst hc;rw[Lib.indexByte,wL];simp
  ·have hb:(c==47)=false:=by simpa using hc
   rw[Lib.indexByte,hb,wM c l hc,ih];by_cases h:el l<l.length
   ·rw[qH h];have h1:((el l:Int)== -1)=false:=by rw[qP];omega
    have h2:el l+1<(c::l).length:=by simpa using h
    rw[qH h2,h1];simp
   ·rw[qB h];have h2: ¬el l+1<(c::l).length:=by simpa using h
    rw[qB h2];simp
theorem Ai(l:List UInt8)(h:el l<l.length): ∃r,l.drop (el l)=47::r∧r=l.drop (el l+1):=by
 induction l with
 |nil=>simp at h
 |cons c l ih=>
  unfold el at h⊢;by_cases hc:c=47
  ·subst hc;exact⟨l,qc,qc⟩
  ·rw[qB hc]at h⊢;obtain⟨r,h1,h2⟩:=ih (by simpa using h);exact⟨r,by simpa using h1,by simpa using h2⟩
theorem wP(l:List UInt8):gE l=l.take (el l)::(if el l<l.length then gE (l.drop (el l+1))else []):=by
 induction l with
 |nil=>simp[gE,el]
 |cons c l ih=>
  by_cases hc:c=47
  ·subst hc;rw[wN,wL,qH qc];simp
  ·rw[wO c l _ _ hc ih,wM c l hc];by_cases h:el l<l.length
   ·rw[qH h,qH (by simpa using h)];simp
   ·rw[qB h,qB (by simpa using h)];simp
def dq(p:List UInt8):Option (List (List UInt8)):=
 if p=[47]then some []
 else match p with
  |c::q=>if c=47∧(gE q).length≤8∧(gE q).all cj=true then some (gE q)else none
  |[]=>none
def cont(acc:List (List UInt8))(p:List UInt8):Option (List (List UInt8)):=
 match p with
 |c::q=>if c=47∧acc.length+(gE q).length≤8∧(gE q).all cj=true then some (acc++gE q)else none
 |[]=>none
theorem FU(p:List UInt8)(h:p≠[47]):cont [] p=dq p:=by
 unfold dq cont;rw[qB h]
 cases p with
 |nil=>rfl
 |cons c q=>simp
theorem BE(acc:List (List UInt8))(c:UInt8)(q:List UInt8)(h:c≠47):cont acc (c::q)=none:=by
 unfold cont;simp[h]
theorem Kx(acc:List (List UInt8))(q:List UInt8)(h:8≤acc.length):cont acc (47::q)=none:=by
 have:=NW q;unfold cont;simp only;rw[qB Y]
theorem Dm(acc:List (List UInt8))(q:List UInt8)(h:cj (q.take (el q))=false):cont acc (47::q)=none:=by
 unfold cont;simp only;rw[qB];rintro⟨_,_,h2⟩;rw[wP q,List.all_cons,h]at h2;simp at h2
theorem Ky(acc:List (List UInt8))(q:List UInt8)(ha:acc.length<8)(h:cj (q.take (el q))=true)(he:q.drop (el q)=[]):cont acc (47::q)=some (acc++[q.take (el q)]):=by
 have hl: ¬el q<q.length:=by
  intro aN;obtain⟨r,h1,_⟩:=Ai q aN;rw[h1]at he;cases he
 have hs:gE q=[q.take (el q)]:=by rw[wP q,qB hl]
 unfold cont;simp only;rw[hs,qH ⟨trivial,by simp;omega,by simp[h]⟩]
theorem Kz(acc:List (List UInt8))(q:List UInt8)(h:cj (q.take (el q))=true)(he:q.drop (el q)≠[]):cont acc (47::q)=cont (acc++[q.take (el q)]) (q.drop (el q)):=by
 have hl:el q<q.length:=by
  refine Nat.lt_of_not_le fun hle=>he (List.drop_eq_nil_of_le hle)
 obtain⟨r,h1,h2⟩:=Ai q hl;have hs:gE q=q.take (el q)::gE r:=by rw[wP q,qH hl,←h2]
 rw[h1];unfold cont;simp only;rw[hs];simp only[xf,List.all_cons,h,Bool.true_and,qY,List.length_nil,qW,List.singleton_append,true_and];have e:acc.length+((gE r).length+1)=acc.length+(0+1)+(gE r).length:=Y;rw[e]
def my(l:List (List UInt8)):List UInt8:=(l.map (47:: ·)).flatten
def jL(l:List (List UInt8)):List UInt8:=if l=[]then [47]else my l
theorem wQ(l:List (List UInt8)):47::Lib.join l [47]=jL l:=by
 cases l with
 |nil=>rfl
 |cons x r=>
  rw[Lib.join_cons,jL,qB qc,my,List.map_cons,List.flatten_cons];rfl
theorem KA(q:List UInt8):my (gE q)=47::q:=by
 induction q with
 |nil=>rfl
 |cons c q ih=>
  by_cases hc:c=47
  ·subst hc;rw[wN];show(47::[])++my (gE q)=_;rw[ih];rfl
  ·cases h:gE q with
   |nil=>exact qZ h (BD q)
   |cons s r=>
    rw[wO c q s r hc h];rw[h]at ih;have ih':(47::s)++my r=47::q:=ih;have:s++my r=q:=by simpa using ih'
    show(47::c::s)++my r=_;rw[←this];rfl
def wR(l:List (List UInt8)):Option (List UInt8):=if l.length≤8∧l.all cj=true then some (jL l)else none
theorem pN(p:List UInt8)(l:List (List UInt8))(h:dq p=some l):jL l=p∧l.length≤8∧l.all cj=true:=by
 unfold dq at h;split at h
 ·rename_i hp;injection h with h;subst h;subst hp;exact⟨rfl,qc,rfl⟩
 ·cases p with
  |nil=>cases h
  |cons c q=>
   simp only at h;split at h
   ·rename_i hc;injection h with h
    subst h;obtain⟨rfl,h1,h2⟩:=hc;exact⟨by rw[jL,qB (BD q),KA],h1,h2⟩
   ·cases h
