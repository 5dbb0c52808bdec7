/- Part 15 of the texts that the law's walk needs. -/
import Derived.Test.YtimabpfjjpjfjaaGreatDoorM10
import Derived.Test.YtimabpfjjpjfjaaGreatDoorM13
import Derived.Lib.AtoiAll
import Derived.Lib.Atoi
import Derived.Lib.ItoaMem
set_option maxHeartbeats 3200000
set_option maxRecDepth 100000
set_option linter.all false
open Go.Value (int)
open Go.IntKind (i64)
namespace Go.Proofs.YtimabpfjjpjfjaaGreatDoor
open Tryz
namespace OpP
open Go.RowKit
structure Mv where
 a:Int
 f:Int
 n:Int
 t:Int
deriving DecidableEq
def zz(x:Mv):List Value:=[int i64 x.a,int i64 x.f,int i64 x.n,int i64 x.t]
theorem Dt(x:Mv):(zz x).length=4:=rfl
structure Rec where
 cl:Int
 sq:Int
 k:Int
 p:ByteArray
 t:ByteArray
 sz:Int
 h:Int
 o:Int
 d:ByteArray
 tk:Int
 i:Int
 m:List Mv
def lU(k:Int):Bool:=k==1||k==2||k==3||k==4||k==5||k==6||k==7||k==8
def pQ(k:Int):Bool:=k==4||k==6
def pT(k:Int):Bool:=k==7||k==14
def pU(k:Int):Bool:=k==9||k==10
def pW(k:Int):Bool:=k==10||k==14
def pX(k:Int):Bool:=k==10||k==13||k==14
def pY(k:Int):Bool:=k==11||k==12
def kK(k:Int):Bool:=k==13
def only(r:Rec):Rec:=⟨r.cl,r.sq,r.k,if lU r.k then r.p else⟨#[]⟩,if pQ r.k then r.t else⟨#[]⟩,if pT r.k then r.sz else 0,if pU r.k then r.h else 0,if pW r.k then r.o else 0,
 if pX r.k then r.d else⟨#[]⟩,if pY r.k then r.tk else 0,if kK r.k then r.i else 0,if kK r.k then r.m else []⟩
def part(x y:Rec):Nat:=
 if x.cl≠y.cl then 0 else if x.sq≠y.sq then 1 else if x.k≠y.k then 2 else if x.p≠y.p then 3 else if x.t≠y.t then 4 else if x.sz≠y.sz then 5 else
 if x.h≠y.h then 6 else if x.o≠y.o then 7 else if x.d≠y.d then 8 else if x.tk≠y.tk then 9 else if x.i≠y.i then 10 else if x.m≠y.m then 11 else 12
def mA(x y:Rec):Bool:=part x y==12
theorem jy(x y:Rec):mA x y=true↔x=y:=by
 obtain⟨c1,s1,k1,p1,t1,z1,h1,o1,d1,q1,i1,m1⟩:=x;obtain⟨c2,s2,k2,p2,t2,z2,h2,o2,d2,q2,i2,m2⟩:=y;constructor
 ·intro h;unfold mA part at h;simp only at h
  have hd: ∀(P:Prop) [Decidable P] (i j:Nat),i≠12→((if P then i else j)==12)=true→ ¬P∧(j==12)=true:=by
   intro P _ i j hi he;by_cases hp:P
   ·rw[qH hp]at he;exact qZ (by simpa using he) hi
   ·rw[qB hp]at he;exact⟨hp,he⟩
  obtain⟨e0,h⟩:=hd _ _ _ qa h;obtain⟨e1,h⟩:=hd _ _ _ qa h;obtain⟨e2,h⟩:=hd _ _ _ qa h;obtain⟨e3,h⟩:=hd _ _ _ qa h;obtain⟨e4,h⟩:=hd _ _ _ qa h;obtain⟨e5,h⟩:=hd _ _ _ qa h;obtain⟨e6,h⟩:=hd _ _ _ qa h;obtain⟨e7,h⟩:=hd _ _ _ qa h;obtain⟨e8,h⟩:=hd _ _ _ qa h;obtain⟨e9,h⟩:=hd _ _ _ qa h;obtain⟨e10,h⟩:=hd _ _ _ qa h;obtain⟨e11,h⟩:=hd _ _ _ qa h;simp only[ne_eq,Decidable.not_not]at e0 e1 e2 e3 e4 e5 e6 e7 e8 e9 e10 e11;subst e0;subst e1;subst e2;subst e3;subst e4;subst e5;subst e6;subst e7;subst e8;subst e9;subst e10;subst e11;rfl
 ·intro h;rw[h];simp[mA,part]
def FX(n:Nat)(x:Mv):Bool:=decide (0≤x.a∧x.a≤16383∧0≤x.f∧x.f≤1024∧1≤x.n∧x.n≤1024∧0≤x.t∧x.t≤(n:Int)-x.n)
def kz(s:ByteArray):Bool:=(PathW.dq s.data.toList).isSome
def ey(r:Rec):Bool:=
 if r.k==4||r.k==6 then kz r.p&&kz r.t
 else if r.k==7 then kz r.p&&decide (0≤r.sz∧r.sz≤8192)
 else if lU r.k then kz r.p
 else if r.k==9 then decide (0≤r.h∧r.h≤16383)
 else if r.k==10 then decide (0≤r.h∧r.h≤16383∧0≤r.o∧r.o≤8192∧1≤r.d.size∧r.d.size≤1024)
 else if r.k==11||r.k==12 then decide (0≤r.tk∧r.tk≤1099511627776)
 else if r.k==13 then decide (1≤r.i∧r.i≤2147483647∧1≤r.m.length∧r.m.length≤16∧r.d.size≤1024)&&r.m.all (FX r.d.size)
 else if r.k==14 then decide (1≤r.d.size∧r.d.size≤1024∧1≤r.sz∧r.sz≤65536∧0≤r.o∧r.o+r.d.size≤r.sz)
 else false
def se(r:Rec):Bool:=decide (0≤r.cl∧r.cl≤7∧1≤r.sq∧r.sq≤2147483647)
def ck(r:Rec):Bool:=se r&&ey r&&mA r (only r)
theorem fk{r:Rec}(h:ey r=true):1≤r.k∧r.k≤14:=by
 unfold ey lU at h;simp only[Bool.or_eq_true,beq_iff_eq]at h
 repeat' (split at h;(first|omega|skip))
 cases h
end OpP
namespace ConP
open OpP
abbrev Bs:=List UInt8
def jz:Bs→List Bs
 |[]=>[[]]
 |c::l=>if c=32 then []::jz l else match jz l with
  |s::r=>(c::s)::r
  |[]=>[[c]]
theorem Oc(l:Bs):jz l≠[]:=by
 cases l with
 |nil=>simp[jz]
 |cons c l=>
  unfold jz;split
  ·simp
  ·split<;>simp
theorem Ao(l:Bs):jz (32::l)=[]::jz l:=by rw[jz,qH rfl]
theorem wV(c:UInt8)(l:Bs)(h:c≠32): ∃s r,jz l=s::r∧jz (c::l)=(c::s)::r:=by
 obtain⟨s,r,e⟩:=List.exists_cons_of_ne_nil (Oc l);exact⟨s,r,e,by rw[jz,qB h,e]⟩
theorem Ir(a l:Bs)(ha:32∉a):jz (a++32::l)=a::jz l:=by
 induction a with
 |nil=>exact Ao l
 |cons c a ih=>
  simp only[qG,not_or]at ha;obtain⟨s,r,h1,h2⟩:=wV c (a++32::l) (fun e=>ha.1 e.symm);rw[xd,h2];rw[ih ha.2]at h1;injection h1 with e1 e2
  rw[←e1,←e2]
theorem Is(a:Bs)(ha:32∉a):jz a=[a]:=by
 induction a with
 |nil=>rfl
 |cons c a ih=>
  simp only[qG,not_or]at ha;obtain⟨s,r,h1,h2⟩:=wV c a (fun e=>ha.1 e.symm);rw[ih ha.2]at h1;injection h1 with e1 e2
  rw[h2,←e1,←e2]
def jj:List Bs→Bs
 |[]=>[]
 |[a]=>a
 |a::b::r=>a++32::jj (b::r)
theorem sd: ∀l:List Bs,Lib.join l [32]=jj l
 |[]=>rfl
 |[a]=>Lib.join_one a _
 |a::b::r=>by
  have ih:=sd (b::r);rw[Lib.join_cons]at ih⊢;rw[jj,←ih];simp[Lib.joinTail]
theorem Du: ∀l:List Bs,l≠[]→(∀a∈l,32∉a)→jz (jj l)=l
 |[],h,_=>qZ rfl h
 |[a],_,h=>Is a (h a qc)
 |a::b::r,_,h=>by
  rw[jj,Ir a _ (h a qc),Du (b::r) qc fun x hx=>h x (by simp[hx])]
def gN(w:Bs):Option Nat:=if w.length≤9∧(w.length≤1∨w.head?≠some 48)then Lib.decNat w else none
open Lib in
theorem lV: ∀(l:Bs) (acc:Nat) (b:UInt8),decFrom acc (l++[b])=(decFrom acc l).bind fun n=>(digitVal b).map fun d=>n*10+d
 |[],acc,b=>by
  simp only[xk,decFrom]
  cases digitVal b<;>rfl
 |c::l,acc,b=>by
  simp only[xd,decFrom]
  cases digitVal c with
  |none=>rfl
  |some d=>exact lV l _ b
open Lib in
theorem FY{b:UInt8}{d:Nat}(h:digitVal b=some d):d<10∧UInt8.ofNat (48+d)=b:=by
 obtain⟨h1,h2,h3⟩:=digitVal_eq h;refine⟨Y,?_⟩;apply UInt8.toNat_inj.1;rw[UInt8.toNat_ofNat'];omega
open Lib in
theorem Dv{d:Nat}(h:d<10):digitVal (UInt8.ofNat (48+d))=some d:=by
 unfold digitVal;rw[UInt8.toNat_ofNat'];rw[qH Y]
 congr 1;omega
open Lib in
theorem wW{u:Nat}(h: ¬u<10):decDigits u=decDigits (u/ 10)++[UInt8.ofNat (48+u%10)]:=by rw[decDigits,dif_neg h]
open Lib in
theorem wX(u:Nat):decFrom 0 (decDigits u)=some u:=by
 induction u using Nat.strongRecOn with
 |_ u ih=>
  by_cases h:u<10
  ·rw[decDigits_one h];simp only[decFrom];rw[Dv h];simp
  ·rw[wW h,lV,ih (u/ 10) Y,Dv Y];simp;omega
open Lib in
theorem Od(u:Nat):decDigits u≠[]:=by
 intro e;have:=decDigits_length u;have:=nDigits_pos u;rw[e]at*;simp at*;omega
open Lib in
theorem Tk(u:Nat):decNat (decDigits u)=some u:=by
 unfold decNat;rw[qB,wX];have:=Od u
 cases h:decDigits u with
 |nil=>exact qZ h this
 |cons a r=>simp
open Lib in
theorem Oe(u:Nat)(h:1≤u):(decDigits u).head?≠some 48:=by
 induction u using Nat.strongRecOn with
 |_ u ih=>
  by_cases h1:u<10
  ·rw[decDigits_one h1];simp only[List.head?_cons,ne_eq,Option.some.injEq];intro e;have:=qX UInt8.toNat e;rw[UInt8.toNat_ofNat']at this;simp at this;omega
  ·rw[wW h1];have:=ih (u/ 10) Y Y;have bd:=Od (u/ 10)
   cases hd:decDigits (u/ 10)with
   |nil=>exact qZ hd bd
   |cons a r=>rw[hd]at this;simpa using this
open Lib in
theorem uz(u:Nat):(decDigits u).length≤1∨(decDigits u).head?≠some 48:=by
 by_cases h:1≤u
 ·exact .inr (Oe u h)
 ·left;have:u=0:=Y;subst this;rw[decDigits_one Y];simp
open Lib in
theorem Of(w:Bs): ∀{u:Nat},w≠[]→(w.length≤1∨w.head?≠some 48)→decFrom 0 w=some u→decDigits u=w:=by
 generalize hn:w.length=n
 induction n using Nat.strongRecOn generalizing w with
 |_ n ih=>
  intro u bd hh hd;rcases List.eq_nil_or_concat w with rfl|⟨l,b,rfl⟩
  ·exact qZ rfl bd
  rw[List.concat_eq_append]at*;rw[lV]at hd
  cases hl:decFrom 0 l with
  |none=>rw[hl]at hd;simp at hd
  |some m=>
   rw[hl]at hd
   cases hb:digitVal b with
   |none=>rw[hb]at hd;simp at hd
   |some d=>
    rw[hb]at hd;simp at hd;obtain⟨hd10,CA⟩:=FY hb;subst hd
    cases l with
    |nil=>
     simp[decFrom]at hl;subst hl
     rw[show 0*10+d=d by omega,decDigits_one hd10,CA];rfl
    |cons c l=>
     have hc:(c::l).length≤1∨(c::l).head?≠some 48:=by
      rcases hh with hh|hh
      ·simp at hn;omega
      ·right;simpa using hh
     have hm:=ih (c::l).length (by simp at hn⊢;omega) (c::l) rfl qc hc hl
     have hm1:1≤m:=by
      rcases Nat.eq_zero_or_pos m with rfl|h
      ·rw[decDigits_one Y]at hm;injection hm with e1 e2
       exfalso
       rcases hh with hh|hh
       ·simp at hn;omega
       ·apply hh;rw[←e1];rfl
      ·exact h
     rw[wW Y,show(m*10+d)/ 10=m by omega,show(m*10+d)%10=d by omega,hm,CA]
open Lib in
theorem oC{u:Nat}(h:u<1000000000):(decDigits u).length≤9:=by
 rw[decDigits_length];rcases Nat.lt_or_ge 9 (nDigits u)with h9|h9
 ·exfalso
  have key: ∀k v:Nat,k<nDigits v→10^k≤v∨k=0:=by
   intro k
   induction k with
   |zero=>intro v _;exact .inr rfl
   |succ k ih=>
    intro v hv;left;by_cases h10:v<10
    ·rw[nDigits_small h10]at hv;omega
    ·rw[nDigits_big h10]at hv;rcases ih (v/ 10) Y with h|h
     ·rw[Nat.pow_succ];omega
     ·subst h;simp;omega
  rcases key 9 u h9 with h1|h1
  ·have:(10:Nat)^9=1000000000:=by decide
   omega
  ·omega
 ·exact h9
open Lib in
theorem Tl{u:Nat}(h:u<1000000000):gN (decDigits u)=some u:=by
 unfold gN;rw[qH ⟨oC h,uz u⟩,Tk]
open Lib in
theorem nt(u:Nat):itoa (u:Int)=decDigits u:=itoa_nonneg u
open Lib in
theorem Ap: ∀(l:Bs) (acc:Nat),acc*10^l.length+10^l.length≤10000000000→parseUint10 acc l=match decFrom acc l with|some n=> .ok n|none=> .syntax
 |[],acc,_=>rfl
 |c::l,acc,h=>by
  have hp:1≤10^l.length:=Nat.one_le_pow _ _ qa;simp only[xf,Nat.pow_succ]at h
  have h1:acc*(10^l.length*10)=(acc*10)*10^l.length:=by
   rw[Nat.mul_comm (10^l.length) 10,Nat.mul_assoc]
  rw[h1]at h;have h2:acc*10≤(acc*10)*10^l.length:=Nat.le_mul_of_pos_right _ Y;simp only[parseUint10,decFrom,digitVal];by_cases hc:48≤c.toNat∧c.toNat≤57
  ·rw[qH hc,qH hc,qB Y,qB Y];apply Ap l
   have h3:(acc*10+(c.toNat-48))*10^l.length≤(acc*10)*10^l.length+9*10^l.length:=by
    rw[←Nat.add_mul];exact Nat.mul_le_mul_right _ Y
   omega
  ·rw[qB hc,qB hc]
open Lib in
theorem Og(w:Bs):(match atoiAll w with| .ok v=>if 0≤v∧w.length≤9∧itoa v=w then some v.toNat else none|_=>none)=gN w:=by
 by_cases h9:w.length≤9
 ·cases w with
  |nil=>rfl
  |cons c r=>
   by_cases hs:c.toNat=43∨c.toNat=45
   ·have hn:gN (c::r)=none:=by
     have hd:digitVal c=none:=by unfold digitVal;rw[qB Y]
     unfold gN;split
     ·simp[decNat,decFrom,hd]
     ·rfl
    rw[hn]
    cases ha:atoiAll (c::r)with
    | «syntax» =>rfl
    |range=>rfl
    |ok v=>
     simp only;by_cases hv:0≤v∧(c::r).length≤9∧itoa v=c::r
     ·exfalso
      obtain⟨u,rfl⟩:=xo hv.1;have h3:=hv.2.2;rw[nt]at h3;have h4:=wX u;rw[h3]at h4;have hd:digitVal c=none:=by unfold digitVal;rw[qB Y]
      simp[decFrom,hd]at h4
     ·rw[qB hv]
   ·have hl:(10:Nat)^(c::r).length≤10^9:=xI qa h9;have h9e:(10:Nat)^9=1000000000:=qa;have hp:=Ap (c::r) 0 Y
    have hm:parseMag (c::r)=match decFrom 0 (c::r)with|some n=> .ok n|none=> .syntax:=by
     unfold parseMag;rw[qB qc,hp]
    have agA: ¬c.toNat=45:=fun e=>hs (.inr e)
    have ha:atoiAll (c::r)=match decFrom 0 (c::r)with|some n=> .ok (n:Int)|none=> .syntax:=by
     unfold atoiAll;simp only;rw[qB hs,hm]
     cases hd:decFrom 0 (c::r)with
     |none=>rfl
     |some n=>
      have aN:=decFrom_lt _ _ _ hd;simp only;rw[qB Y,qB Y,qB agA]
    rw[ha];unfold gN
    cases hd:decFrom 0 (c::r)with
    |none=>
     simp only;split
     ·simp[decNat,hd]
     ·rfl
    |some n=>
     simp only[nt];by_cases hh:(c::r).length≤1∨(c::r).head?≠some 48
     ·rw[qH ⟨Y,h9,Of _ qc hh hd⟩,qH ⟨h9,hh⟩];simp[decNat,hd]
     ·have ux: ¬(0≤(n:Int)∧(c::r).length≤9∧decDigits n=c::r):=by
       rintro⟨_,_,h3⟩;apply hh;rw[←h3];exact uz n
      rw[qB ux,qB (fun h=>hh h.2)]
 ·unfold gN;rw[qB (fun h=>h9 h.1)]
  cases ha:atoiAll w with
  | «syntax» =>rfl
  |range=>rfl
  |ok v=>simp only;rw[qB (fun h=>h9 h.2.1)]
def iR(n:Nat):UInt8:=if n<10 then UInt8.ofNat (48+n)else UInt8.ofNat (87+n)
def ie(c:UInt8):Option Nat:=if 48≤c.toNat∧c.toNat≤57 then some (c.toNat-48)else if 97≤c.toNat∧c.toNat≤102 then some (c.toNat-87)else none
def lq(s:Bs):Bs:=s.flatMap fun b=>[iR (b.toNat/ 16),iR (b.toNat%16)]
def fm(s:Bs):Bs:=if s=[]then [45]else lq s
def jM:Bs→Option Bs
 |[]=>some []
 |[_]=>none
 |a::b::r=>match ie a,ie b,jM r with
  |some x,some y,some l=>some (UInt8.ofNat (16*x+y)::l)
  |_,_,_=>none
def tC(w:Bs):Option Bs:=if w=[45]then some []else if w=[]then none else jM w
theorem FZ: ∀n:Fin 16,ie (iR n.val)=some n.val:=qa
theorem Oh{n:Nat}(h:n<16):ie (iR n)=some n:=FZ ⟨n,h⟩
theorem wY{c:UInt8}{n:Nat}(h:ie c=some n):n<16∧iR n=c:=by
 unfold ie at h;by_cases h1:48≤c.toNat∧c.toNat≤57
 ·rw[qH h1]at h;injection h with h
  refine⟨Y,?_⟩;unfold iR;rw[qH Y];apply UInt8.toNat_inj.1;rw[UInt8.toNat_ofNat'];omega
 ·rw[qB h1]at h;by_cases h2:97≤c.toNat∧c.toNat≤102
  ·rw[qH h2]at h;injection h with h
   refine⟨Y,?_⟩;unfold iR;rw[qB Y];apply UInt8.toNat_inj.1;rw[UInt8.toNat_ofNat'];omega
  ·rw[qB h2]at h;cases h
theorem Ga(s:Bs):jM (lq s)=some s:=by
 induction s with
 |nil=>rfl
 |cons b s ih=>
  have hb:=b.toNat_lt;show jM (iR (b.toNat/ 16)::iR (b.toNat%16)::lq s)=_;rw[jM,Oh Y,Oh Y,ih];simp only[Option.some.injEq,List.cons.injEq,and_true];apply UInt8.toNat_inj.1;rw[UInt8.toNat_ofNat'];omega
theorem Yk(s:Bs):tC (fm s)=some s:=by
 unfold fm;by_cases hs:s=[]
 ·rw[qH hs,hs];rfl
 ·rw[qB hs];obtain⟨b,r,rfl⟩:=List.exists_cons_of_ne_nil hs;unfold tC;rw[qB,qB,Ga]
  ·show iR _::iR _::lq r≠[];simp
  ·show iR _::iR _::lq r≠[45];simp
end ConP
namespace ConP
open OpP
structure MI where
 k:Int
 o:Rec
 p:ByteArray
 h:Int
 f:Int
 s:Int
 d:ByteArray
structure dK where
 k:Int
 c:Int
 n:Int
 f:Int
 a:MI
def ach(k:Int):Rec:=⟨0,0,k,⟨#[]⟩,⟨#[]⟩,0,0,0,⟨#[]⟩,0,0,[]⟩
def jN(k o:Int):MI:=⟨k,ach o,⟨#[]⟩,0,0,0,⟨#[]⟩⟩
def fQ(k c o:Int):dK:=⟨k,0,0,0,jN c o⟩
inductive Pl where
 |cl|nn|fa|oz|z|oh|h|of|ot|op|p|d
deriving DecidableEq
def bs(w:Bs):ByteArray:=⟨w.toArray⟩
theorem lW(w:Bs):(bs w).data.toList=w:=rfl
theorem aci(s:ByteArray):bs s.data.toList=s:=rfl
def BH(s:dK):Pl→Int→dK
 | .cl,v=>{s with c:=v}
 | .nn,v=>{s with n:=v}
 | .fa,v=>{s with f:=v}
 | .oz,v=>{s with a:={s.a with o:={s.a.o with sz:=v}}}
 | .z,v=>{s with a:={s.a with s:=v}}
 | .oh,v=>{s with a:={s.a with o:={s.a.o with h:=v}}}
 | .h,v=>{s with a:={s.a with h:=v}}
 | .of,v=>{s with a:={s.a with f:=v}}
 |_,_=>s
def uZ(s:dK):Pl→ByteArray→dK
 | .ot,v=>{s with a:={s.a with o:={s.a.o with t:=v}}}
 | .op,v=>{s with a:={s.a with o:={s.a.o with p:=v}}}
 | .p,v=>{s with a:={s.a with p:=v}}
 | .d,v=>{s with a:={s.a with d:=v}}
 |_,_=>s
def ef(s:dK):Pl→Int
 | .cl=>s.c
 | .nn=>s.n
 | .fa=>s.f
 | .oz=>s.a.o.sz
 | .z=>s.a.s
 | .oh=>s.a.o.h
 | .h=>s.a.h
 | .of=>s.a.f
 |_=>0
def Tm(s:dK):Pl→ByteArray
 | .ot=>s.a.o.t
 | .op=>s.a.o.p
 | .p=>s.a.p
 |_=>s.a.d
def Dw(w:Bs):Bool:=(PathW.dq w).isSome
def eF(s:dK)(pl:Pl)(w:Bs):Option dK:=match pl with
 | .ot| .op| .p=>if Dw w then some (uZ s pl (bs w))else none
 | .d=>(tC w).map fun x=>uZ s .d (bs x)
 |_=>(gN w).map fun(n:Nat)=>BH s pl (n:Int)
def Oi(s:dK)(pl:Pl):Bs:=match pl with
 | .ot| .op| .p=>(Tm s pl).data.toList
 | .d=>fm (Tm s .d).data.toList
 |_=>Lib.itoa (ef s pl)
theorem Oj{s t:dK}{pl:Pl}{w:Bs}(h:eF s pl w=some t):(∃v,t=BH s pl v)∨ ∃v,t=uZ s pl v:=by
 cases pl
 all_goals first
  |(simp only[eF]at h
    cases hn:gN w with
    |none=>rw[hn]at h;cases h
    |some n=>
     rw[hn]at h;simp only[Option.map_some,Option.some.injEq]at h
     exact .inl ⟨_,h.symm⟩)
  |(simp only[eF]at h
    split at h
    ·injection h with h
     exact .inr ⟨_,h.symm⟩
    ·cases h)
  |(simp only[eF]at h
    cases hn:tC w with
    |none=>rw[hn]at h;cases h
    |some n=>
     rw[hn]at h;simp only[Option.map_some,Option.some.injEq]at h;exact .inr ⟨_,h.symm⟩)
theorem KF{s t:dK}{pl:Pl}{w:Bs}(h:eF s pl w=some t):t.k=s.k∧t.a.k=s.a.k∧t.a.o.k=s.a.o.k:=by
 rcases Oj h with⟨v,rfl⟩|⟨v,rfl⟩
 all_goals (cases pl<;>exact⟨rfl,rfl,rfl⟩)
def bh(s:dK):List Pl→List Bs→Option dK
 |[],[]=>some s
 |p::ps,w::ws=>(eF s p w).bind fun s'=>bh s' ps ws
 |_,_=>none
theorem pZ: ∀{ps:List Pl} {ws:List Bs} {s t:dK},bh s ps ws=some t→ps.length=ws.length
 |[],[],_,_,_=>rfl
 |[],_::_,_,_,h=>by simp[bh]at h
 |_::_,[],_,_,h=>by simp[bh]at h
 |p::ps,w::ws,s,t,h=>by
  rw[bh]at h
  cases hp:eF s p w with
  |none=>rw[hp]at h;cases h
  |some s'=>
   rw[hp]at h;simp only[Option.bind_some]at h;simp[pZ h]
theorem uA: ∀(ps:List Pl) (ws:List Bs) (s:dK) (p:Pl) (w:Bs),ps.length=ws.length→bh s (ps++[p]) (ws++[w])=(bh s ps ws).bind fun t=>eF t p w
 |[],[],s,p,w,_=>by
  simp only[xk,bh,Option.bind_some]
  cases eF s p w<;>simp
 |[],_::_,_,_,_,h=>by simp at h
 |_::_,[],_,_,_,h=>by simp at h
 |q::ps,v::ws,s,p,w,h=>by
  simp only[xd,bh]
  cases eF s q v with
  |none=>rfl
  |some s'=>exact uA ps ws s' p w (by simpa using h)
theorem uB: ∀(ps qs:List Pl) (ws vs:List Bs) (s:dK),ps.length=ws.length→bh s ps ws=none→bh s (ps++qs) (ws++vs)=none
 |[],_,[],_,_,_,h=>by cases h
 |[],_,_::_,_,_,h,_=>by simp at h
 |_::_,_,[],_,_,h,_=>by simp at h
 |q::ps,qs,v::ws,vs,s,hl,h=>by
  simp only[xd,bh]at h⊢
  cases hq:eF s q v with
  |none=>rfl
  |some s'=>
   rw[hq]at h;exact uB ps qs ws vs s' (by simpa using hl) h
theorem sf: ∀{ps:List Pl} {ws:List Bs} {s t:dK},bh s ps ws=some t→t.k=s.k∧t.a.k=s.a.k∧t.a.o.k=s.a.o.k
 |[],[],_,_,h=>by injection h with h;rw[h];exact⟨rfl,rfl,rfl⟩
 |[],_::_,_,_,h=>by simp[bh]at h
 |_::_,[],_,_,h=>by simp[bh]at h
 |p::ps,w::ws,s,t,h=>by
  rw[bh]at h
  cases hp:eF s p w with
  |none=>rw[hp]at h;cases h
  |some s'=>
   rw[hp]at h;obtain⟨h1,h2,h3⟩:=sf (s:=s') h;obtain⟨g1,g2,g3⟩:=KF hp;exact⟨h1.trans g1,h2.trans g2,h3.trans g3⟩
def place(o:Bool)(f:UInt8):Pl:=
 if f=99 then .cl else if f=102 then .fa else if f=110 then .nn else if f=111 then .of else if f=115 then(if o then .oz else .z)else if f=104 then(if o then .oh else .h)
 else if f=116 then .ot else if f=112 then(if o then .op else .p)else .d
structure Fm where
 w:Bs
 k:Int
 c:Int
 o:Int
 fs:Bs
def Fm.ps(x:Fm):List Pl:=x.fs.map (place (x.c==1))
def mB(x:Fm)(l:List Bs):Option (List Bs):=
 if x.k=1 then(match l with|a::b::c::r=>if a=[99]∧c=x.w then some (b::r)else none|_=>none)
 else match l with|a::r=>if a=x.w then some r else none|[]=>none
def Fm.all(x:Fm):List Pl:=if x.k=1 then .cl::x.ps else x.ps
def bY(x:Fm)(l:List Bs):Option dK:=(mB x l).bind (bh (fQ x.k x.c x.o) x.all)
def calls:List Fm:=[
 ⟨[109,107,100,105,114],1,1,1,[112]⟩,⟨[114,109,100,105,114],1,1,2,[112]⟩,⟨[99,114,101,97,116,101],1,1,3,[112]⟩,⟨[108,105,110,107],1,1,4,[112,116]⟩,
 ⟨[117,110,108,105,110,107],1,1,5,[112]⟩,⟨[114,101,110,97,109,101],1,1,6,[112,116]⟩,⟨[116,114,117,110,99,97,116,101],1,1,7,[112,115]⟩,⟨[111,112,101,110],1,1,8,[112]⟩,
 ⟨[99,108,111,115,101],1,1,9,[104]⟩,⟨[114,101,110,101,119],1,1,11,[]⟩,⟨[101,120,112,105,114,101],1,1,12,[]⟩,
 ⟨[115,116,97,116],1,2,0,[112]⟩,⟨[108,105,115,116],1,3,0,[112]⟩,⟨[114,101,97,100],1,4,0,[104,111,115]⟩,⟨[119,114,105,116,101],1,5,0,[104,111,100]⟩,
 ⟨[115,121,110,99],1,6,0,[104]⟩,⟨[105,109,97,103,101],1,7,0,[]⟩,⟨[109,111,118,101],1,8,0,[115]⟩,⟨[116,114,105,109],1,9,0,[]⟩]
def rest:List Fm:=[⟨[103],2,0,0,[99,102]⟩,⟨[104],3,0,0,[110]⟩,⟨[100],4,0,0,[110]⟩,⟨[116],5,0,0,[110]⟩,⟨[120],6,0,0,[99]⟩,⟨[117],7,0,0,[110]⟩,⟨[111],8,0,0,[]⟩,⟨[109],10,0,0,[102]⟩]
def jk:List Fm:=calls++rest
theorem Aq:jk.length=27:=rfl
def cI(l:List Bs):Option dK:=jk.findSome? (bY · l)
def Fm.key(x:Fm):Int×Int×Int:=(x.k,x.c,x.o)
def dK.key(s:dK):Int×Int×Int:=(s.k,s.a.k,s.a.o.k)
def Ol(x:Fm)(s:dK):List Bs:=if x.k=1 then [99]::Lib.itoa s.c::x.w::x.ps.map (Oi s)else x.w::x.ps.map (Oi s)
def Yl(o:Bool)(f:UInt8):Pl:=
 if f=112 then(if o then .op else .p)else if f=113 then .ot else if f=100 then .d else if f=110 then(if o then .oz else .z)else if f=104 then(if o then .oh else .h)else .of
structure Fr where
 w:Bs
 c:Int
 o:Int
 fs:Bs
def Fr.ps(x:Fr):List Pl:=x.fs.map (Yl (x.o !=0))
def wZ:List Fr:=[
 ⟨[109,107,100,105,114],1,1,[112]⟩,⟨[114,109,100,105,114],1,2,[112]⟩,⟨[99,114,101,97,116,101],1,3,[112]⟩,⟨[108,105,110,107],1,4,[112,113]⟩,
 ⟨[117,110,108,105,110,107],1,5,[112]⟩,⟨[114,101,110,97,109,101],1,6,[112,113]⟩,⟨[116,114,117,110,99,97,116,101],1,7,[112,110]⟩,⟨[111,112,101,110],1,8,[112]⟩,
 ⟨[99,108,111,115,101],1,9,[104]⟩,⟨[114,101,110,101,119],1,11,[]⟩,⟨[101,120,112,105,114,101],1,12,[]⟩,
 ⟨[115,116,97,116],2,0,[112]⟩,⟨[108,105,115,116],3,0,[112]⟩,⟨[114,101,97,100],4,0,[104,111,110]⟩,⟨[119,114,105,116,101],5,0,[104,111,100]⟩,
 ⟨[115,121,110,99],6,0,[104]⟩,⟨[105,109,97,103,101],7,0,[]⟩,⟨[109,111,118,101],8,0,[110]⟩,⟨[116,114,105,109],9,0,[]⟩]
def BI(k:Int)(x:Fr)(ws:List Bs):Option dK:=bh ⟨1,k,0,0,jN x.c x.o⟩ x.ps ws
def Gb(k:Int)(c:Bs)(ws:List Bs):Option dK:=wZ.findSome? fun x=>if x.w=c then BI k x ws else none
def acj(a:Bs)(n:Int):Option dK:=
 if a=[104]then some ⟨3,0,n,0,jN 0 0⟩else if a=[100]then some ⟨4,0,n,0,jN 0 0⟩else if a=[116]then some ⟨5,0,n,0,jN 0 0⟩else if a=[120]then some ⟨6,n,0,0,jN 0 0⟩
 else if a=[117]then some ⟨7,0,n,0,jN 0 0⟩else if a=[109]then some ⟨10,0,0,n,jN 0 0⟩else none
def tD(l:List Bs):Option dK:=match l with
 |[a]=>if a=[111]then some (fQ 8 0 0)else none
 |[a,b]=>(gN b).bind fun(n:Nat)=>acj a (n:Int)
 |a::b::c::r=>
  if a=[99]then(gN b).bind fun(n:Nat)=>Gb (n:Int) c r
  else if r=[]∧a=[103]then(gN b).bind fun(n:Nat)=>(gN c).map fun(m:Nat)=>⟨2,(n:Int),0,(m:Int),jN 0 0⟩else none
 |[]=>none
theorem Dx:calls.map (fun x=>((x.w,x.c,x.o),x.ps))=wZ.map fun x=>((x.w,x.c,x.o),x.ps):=qa
theorem tE: ∀x∈calls,x.k=1:=qa
theorem Ar(k:Int)(c:Bs)(ws:List Bs): ∀(L:List Fm) (R:List Fr),L.map (fun x=>((x.w,x.c,x.o),x.ps))=R.map (fun x=>((x.w,x.c,x.o),x.ps))→
 L.findSome? (fun x=>if x.w=c then bh ⟨1,k,0,0,jN x.c x.o⟩ x.ps ws else none)=R.findSome? fun x=>if x.w=c then BI k x ws else none
 |[],[],_=>rfl
 |[],_::_,h=>by simp at h
 |_::_,[],h=>by simp at h
 |x::L,y::R,h=>by
  rw[List.map_cons,List.map_cons]at h;injection h with h1 h2
  simp only[Prod.mk.injEq]at h1;obtain⟨⟨e1,e2,e3⟩,e4⟩:=h1;rw[List.findSome?_cons,List.findSome?_cons,Ar k c ws L R h2];unfold BI;rw[e1,e2,e3,e4]
theorem find_congr{L:List Fm}{α:Type}{f g:Fm→Option α}(h: ∀x∈L,f x=g x):L.findSome? f=L.findSome? g:=by
 induction L with
 |nil=>rfl
 |cons x L ih=>
  rw[List.findSome?_cons,List.findSome?_cons,h x qc,ih fun y hy=>h y (by simp[hy])]
theorem Dy(b c:Bs)(r:List Bs):calls.findSome? (bY · ([99]::b::c::r))=(gN b).bind fun(n:Nat)=>Gb (n:Int) c r:=by
 have e: ∀x∈calls,bY x ([99]::b::c::r)=(gN b).bind fun(n:Nat)=>if x.w=c then bh ⟨1,(n:Int),0,0,jN x.c x.o⟩ x.ps r else none:=by
  intro x hx;have hk:=tE x hx;unfold bY mB Fm.all;rw[qH hk,qH hk];simp only[true_and];by_cases hw:c=x.w
  ·rw[qH hw];show bh _ _ _=_;rw[bh];simp only[eF]
   cases gN b with
   |none=>rfl
   |some n=>
    simp only[Option.map_some,Option.bind_some];rw[qH hw.symm,hk];rfl
  ·rw[qB hw]
   cases gN b with
   |none=>rfl
   |some n=>
    simp only[Option.bind_some,Option.bind_none];rw[qB (fun h=>hw h.symm)]
 rw[find_congr e]
 cases gN b with
 |none=>
  simp only[Option.bind_none]
  rw[List.findSome?_eq_none_iff];intro _ _;rfl
 |some n=>exact Ar n c r calls wZ Dx
theorem sg{l:List Bs}(h: ∀b c r,l≠[99]::b::c::r):calls.findSome? (bY · l)=none:=by
 rw[List.findSome?_eq_none_iff];intro x hx;have hk:=tE x hx;unfold bY mB;rw[qH hk]
 match l,h with
 |[],_=>rfl
 |[_],_=>rfl
 |[_,_],_=>rfl
 |a::b::c::r,h=>
  simp only;rw[qB]
  ·rfl
  ·rintro⟨rfl,_⟩;exact h b c r rfl
theorem KG(x:Fm)(hk:x.k≠1)(a:Bs)(r:List Bs):bY x (a::r)=if a=x.w then bh (fQ x.k x.c x.o) x.ps r else none:=by
 unfold bY mB Fm.all;rw[qB hk,qB hk];simp only;by_cases h:a=x.w
 ·rw[qH h,qH h];rfl
 ·rw[qB h,qB h];rfl
theorem xM: ∀x∈rest,x.k≠1:=qa
theorem Om:rest.findSome? (bY · [])=none:=by
 rw[List.findSome?_eq_none_iff];intro x hx;unfold bY mB;rw[qB (xM x hx)];rfl
def G(a:Bs)(r:List Bs)(x:Fm):Option dK:=if a=x.w then bh (fQ x.k x.c x.o) x.ps r else none
theorem vk(a:Bs)(r:List Bs):rest.findSome? (bY · (a::r))=rest.findSome? (G a r):=find_congr fun x hx=>KG x (xM x hx) a r
theorem KH(l:List Bs):cI l=tD l:=by
 unfold cI jk;rw[List.findSome?_append]
 match l with
 |[]=>
  rw[sg qc,Om];rfl
 |[a]=>
  rw[sg qc,vk];simp only[Option.none_or,rest,List.findSome?_cons,List.findSome?_nil,G,tD];by_cases h:a=[111]
  ·subst h;rfl
  ·rw[qB h]
   have hn: ∀(y:Bs) (s:dK) (p:Pl) (q:List Pl),(if a=y then bh s (p::q) []else none)=none:=by
    intro y s p q;split<;>rfl
   simp only[Fm.ps,List.map_cons,hn]
   rw[qB h]
 |[a,b]=>
  rw[sg qc,vk];simp only[Option.none_or,rest,List.findSome?_cons,List.findSome?_nil,G,tD]
  have hn0: ∀(y:Bs) (s:dK),(if a=y then bh s [] [b]else none)=none:=by
   intro y s;split<;>rfl
  have hn2: ∀(y:Bs) (s:dK) (p q:Pl),(if a=y then bh s [p,q] [b]else none)=none:=by
   intro y s p q;split
   ·rw[bh];cases eF s p b<;>rfl
   ·rfl
  have hn1: ∀(y:Bs) (s:dK) (p:Pl),(if a=y then bh s [p] [b]else none)=if a=y then eF s p b else none:=by
   intro y s p;split
   ·rw[bh];cases eF s p b<;>rfl
   ·rfl
  simp only[Fm.ps,List.map_cons,List.map_nil,hn0,hn1,hn2]
  cases hb:gN b with
  |none=>
   have hp: ∀s f,eF s (place false f) b=none∨f=100∨f=116∨f=112∨ ¬f∈[99,102,110,111,115,104]:=by
    intro s f;by_cases hf:f∈[99,102,110,111,115,104]
    ·left;simp only[qG,qQ,xt]at hf;rcases hf with rfl|rfl|rfl|rfl|rfl|rfl<;>simp[place,eF,hb]
    ·exact .inr (.inr (.inr (.inr hf)))
   simp[place,eF,hb]
  |some n=>
   simp only[Option.bind_some];unfold acj;by_cases h1:a=[104]
   ·subst h1;simp[place,eF,hb];rfl
   ·by_cases h2:a=[100]
    ·subst h2;simp[place,eF,hb];rfl
    ·by_cases h3:a=[116]
     ·subst h3;simp[place,eF,hb];rfl
     ·by_cases h4:a=[120]
      ·subst h4;simp[place,eF,hb];rfl
      ·by_cases h5:a=[117]
       ·subst h5;simp[place,eF,hb];rfl
       ·by_cases h6:a=[109]
        ·subst h6;simp[place,eF,hb];rfl
        ·simp[h1,h2,h3,h4,h5,h6]
 |a::b::c::r=>
  by_cases ha:a=[99]
  ·subst ha;rw[Dy,tD,qH rfl]
   have hr:rest.findSome? (bY · ([99]::b::c::r))=none:=by
    rw[vk,List.findSome?_eq_none_iff];intro x hx;unfold G;rw[qB];revert x;decide
   rw[hr,Option.or_none]
  ·rw[sg (by intro b' c' r' e;injection e with e;exact ha e),vk];simp only[Option.none_or,rest,List.findSome?_cons,List.findSome?_nil,G,tD];rw[qB ha]
   have hn0: ∀(y:Bs) (s:dK),(if a=y then bh s [] (b::c::r)else none)=none:=by
    intro y s;split<;>rfl
   have hn1: ∀(y:Bs) (s:dK) (p:Pl),(if a=y then bh s [p] (b::c::r)else none)=none:=by
    intro y s p;split
    ·rw[bh];cases eF s p b<;>rfl
    ·rfl
   simp only[Fm.ps,List.map_cons,List.map_nil,hn0,hn1];by_cases hg:a=[103]
   ·subst hg
    cases r with
    |nil=>
     rw[qH rfl,qH ⟨rfl,rfl⟩];simp only[bh,place,eF]
     cases hb:gN b with
     |none=>rfl
     |some n=>
      cases hc:gN c with
      |none=>simp
      |some m=>simp;rfl
    |cons d r=>
     rw[qH rfl,qB qc]
     have hz: ∀(u:Option dK) (q:Pl),(u.bind fun s'=>(eF s' q c).bind fun _=>(none:Option dK))=none:=by
      intro u q
      cases u with
      |none=>rfl
      |some v=>simp only[Option.bind_some];cases eF v q c<;>rfl
     simp only[bh,hz]
   ·rw[qB hg,qB (fun h=>hg h.2)]
def As(l:List Bs):Bs:=l.flatMap (32:: ·)
theorem Au: ∀(a:Bs) (l:List Bs),jj (a::l)=a++As l
 |a,[]=>by simp[jj,As]
 |a,b::l=>by
  rw[jj,Au b l];simp[As]
def fits(a:MI)(f:Fr):Bool:=f.c==a.k&&(f.o==a.o.k||f.c !=1)
def Wl(s:dK):Bs:=match wZ.find? (fits s.a)with|some f=>f.w++As (f.ps.map (Oi s))|none=>[]
def On(s:dK):Bs:=
 if s.k=1 then 99::32::(Lib.itoa s.c++32::Wl s)else if s.k=2 then 103::32::(Lib.itoa s.c++32::Lib.itoa s.f)else if s.k=3 then 104::32::Lib.itoa s.n
 else if s.k=4 then 100::32::Lib.itoa s.n else if s.k=5 then 116::32::Lib.itoa s.n else if s.k=6 then 120::32::Lib.itoa s.c else if s.k=7 then 117::32::Lib.itoa s.n
 else if s.k=8 then [111]else if s.k=10 then 109::32::Lib.itoa s.f else []
theorem Oo: ∀x∈calls,∀s:dK,x.key=s.key→Wl s=x.w++As (x.ps.map (Oi s)):=by
 intro x hx s hk;obtain⟨k,c,n,f,⟨ak,⟨a1,a2,ok,a4,a5,a6,a7,a8,a9,a10,a11,a12⟩,p,h,g,z,d⟩⟩:=s;simp only[Fm.key,dK.key,Prod.mk.injEq]at hk;obtain⟨rfl,rfl,rfl⟩:=hk;unfold calls at hx;simp only[qG,qQ,xt]at hx;rcases hx with rfl|rfl|rfl|rfl|rfl|rfl|rfl|rfl|rfl|rfl|rfl|rfl|rfl|rfl|rfl|rfl|rfl|rfl|rfl<;>rfl
theorem lX: ∀x∈jk,∀s:dK,x.key=s.key→jj (Ol x s)=On s:=by
 intro x hx s hk;rcases xa.1 hx with hx|hx
 ·have h1:=tE x hx;have hc:=Oo x hx s hk;simp only[Fm.key,dK.key,Prod.mk.injEq]at hk;unfold Ol On;rw[qH h1,qH (by rw[←hk.1,h1]),hc,Au];simp[As]
 ·simp only[Fm.key,dK.key,Prod.mk.injEq]at hk;unfold rest at hx;simp only[qG,qQ,xt]at hx;rcases hx with rfl|rfl|rfl|rfl|rfl|rfl|rfl|rfl
  all_goals
   obtain⟨h1,_,_⟩:=hk;unfold On;rw[←h1];simp[Ol,Fm.ps,place,Oi,ef,jj]
def tick(n:Int):dK:=⟨5,0,n,0,jN 0 0⟩
open Lib in
theorem Oq(u:Nat):32∉decDigits u:=by
 intro h;have hs:=wX u
 have: ∀(l:Bs) (acc n:Nat),decFrom acc l=some n→32∉l:=by
  intro l
  induction l with
  |nil=>intro _ _ _ hm;simp at hm
  |cons c l ih=>
   intro acc n hd hm;simp only[decFrom]at hd
   cases hc:digitVal c with
   |none=>rw[hc]at hd;cases hd
   |some d=>
    rw[hc]at hd;rcases qG.1 hm with rfl|hm
    ·have:=(digitVal_eq hc).1;simp at this
    ·exact ih _ _ hd hm
 exact this _ _ _ hs h
def bad(d:Bs):List Bs:=[116::32::32::d,32::116::32::d,(116::32::d)++[32],116::32::48::d,116::32::43::d,116::32::45::d,84::32::d,116::d,(116::32::d)++[32,49],[116],[116,32],
 [116,32,49,50,51,52,53,54,55,56,57,48]]
end ConP
namespace ConP
open Go.RowKit
def Dz:ByteArray:=⟨#[47,97]⟩
def DA(k kind:Int)(p:ByteArray)(h:Int):dK:=⟨1,k,0,0,⟨1,⟨0,0,kind,p,⟨#[]⟩,0,h,0,⟨#[]⟩,0,0,[]⟩,⟨#[]⟩,0,0,0,⟨#[]⟩⟩⟩
def kL(k c h f s:Int)(d:ByteArray):dK:=⟨1,k,0,0,⟨c,ach 0,⟨#[]⟩,h,f,s,d⟩⟩
theorem KI:cI (jz [99,32,48,32,99,114,101,97,116,101,32,47,97])=some (DA 0 3 Dz 0):=qd
theorem Ot:cI (jz [99,32,48,32,111,112,101,110,32,47,97])=some (DA 0 8 Dz 0):=qd
theorem Ou:cI (jz [99,32,49,32,111,112,101,110,32,47,97])=some (DA 1 8 Dz 0):=qd
theorem Ov:cI (jz [99,32,49,32,114,101,110,101,119])=some (DA 1 11 ⟨#[]⟩ 0):=qd
theorem KJ:cI (jz [99,32,49,32,117,110,108,105,110,107,32,47,97])=some (DA 1 5 Dz 0):=qd
theorem KK:cI (jz [99,32,49,32,101,120,112,105,114,101])=some (DA 1 12 ⟨#[]⟩ 0):=qd
theorem Ow:cI (jz [99,32,49,32,99,108,111,115,101,32,50])=some (DA 1 9 ⟨#[]⟩ 2):=qd
theorem Tn:cI (jz [99,32,48,32,115,121,110,99,32,49])=some (kL 0 6 1 0 0 ⟨#[]⟩):=qd
theorem Ox:cI (jz [99,32,48,32,114,101,97,100,32,49,32,48,32,56,49,57,50])=some (kL 0 4 1 0 8192 ⟨#[]⟩):=qd
theorem Oy:cI (jz [99,32,49,32,114,101,97,100,32,50,32,48,32,56,49,57,50])=some (kL 1 4 2 0 8192 ⟨#[]⟩):=qd
theorem Oz:cI (jz [99,32,49,32,114,101,97,100,32,50,32,48,32,57])=some (kL 1 4 2 0 9 ⟨#[]⟩):=qd
theorem OA:cI (jz [120,32,48])=some ⟨6,0,0,0,jN 0 0⟩:=qd
theorem To:cI (jz [116,32,53,48,48])=some ⟨5,0,500,0,jN 0 0⟩:=qd
theorem Av: ∀n:Fin 16,iR n.val≠32:=qa
theorem OB(s:Bs):(32:UInt8)∉fm s:=fun h=>by
 unfold fm at h;split at h
 ·simp at h
 ·unfold lq at h;obtain⟨b,_,hb⟩:=List.mem_flatMap.1 h;have l1:b.toNat/ 16<16:=by have:=b.toNat_lt;omega
  have l2:b.toNat%16<16:=Y;simp only[qG,qQ,xt]at hb;rcases hb with hb|hb
  ·exact Av ⟨_,l1⟩ hb.symm
  ·exact Av ⟨_,l2⟩ hb.symm
theorem OC(u:Nat)(hu:u<1000000000)(d:ByteArray):
 cI (jz ([99,32,48,32,119,114,105,116,101,32,49,32]++Lib.decDigits u++[32]++fm d.data.toList))=some (kL 0 5 1 (u:Nat) 0 d):=by
 have h1:jz ([99,32,48,32,119,114,105,116,101,32,49,32]++Lib.decDigits u++[32]++fm d.data.toList)=[[99],[48],[119,114,105,116,101],[49],Lib.decDigits u,fm d.data.toList]:=by
  have e:[99,32,48,32,119,114,105,116,101,32,49,32]++Lib.decDigits u++[32]++fm d.data.toList=jj [[99],[48],[119,114,105,116,101],[49],Lib.decDigits u,fm d.data.toList]:=by
   simp[jj]
  rw[e];refine Du _ qc ?_;intro a ha;simp only[qG,qQ,xt]at ha;rcases ha with rfl|rfl|rfl|rfl|rfl|rfl
  ·decide
  ·decide
  ·decide
  ·decide
  ·exact Oq u
  ·exact OB _
 rw[h1,KH];have n0:gN [48]=some 0:=qa;have n1:gN [49]=some 1:=qa;have n2:=Tl hu;have n3:=Yk d.data.toList;unfold tD;simp only[if_true,n0,Option.bind_some]
 have hr:BI ((0:Nat):Int) ⟨[119,114,105,116,101],5,0,[104,111,100]⟩ [[49],Lib.decDigits u,fm d.data.toList]=some (kL 0 5 1 (u:Nat) 0 d):=by
  show bh ⟨1,((0:Nat):Int),0,0,jN 5 0⟩ [.h,.of,.d] [[49],Lib.decDigits u,fm d.data.toList]=_;simp only[bh,eF,n1,n2,n3,Option.map_some,Option.bind_some,BH,uZ,aci];rfl
 unfold Gb wZ;rw[show((0:Nat):Int)=0 from rfl]at hr⊢;simp[List.findSome?,hr]
