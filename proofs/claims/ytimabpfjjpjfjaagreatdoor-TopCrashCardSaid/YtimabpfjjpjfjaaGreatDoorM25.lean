/- Part 25 of the texts that the law's walk needs. -/
import Derived.Test.YtimabpfjjpjfjaaGreatDoorM16
import Derived.Test.YtimabpfjjpjfjaaGreatDoorM18
import Derived.Lib.SmallJoins
import Derived.Lib.AtoiErrMem
set_option maxHeartbeats 3200000
set_option maxRecDepth 100000
set_option linter.all false
open Go renaming World→qo,Calls→qw,Value→qp
open Go.RowKit renaming Below→qz,Hid→qy
open Go.Value renaming int→U,string→qg,tuple→qj,pointer→qi,slice→qh
open Go.IntKind renaming i64→Z
open Go.Ending renaming returned→qm
open Go.Obj renaming cells→qn
namespace Go.Proofs.YtimabpfjjpjfjaaGreatDoor
open Tryz
open Tryz renaming prog→qx
namespace ConW
open Go.RowKit ConP
structure CV(w:qo):Prop where
 syn: ∃te pe,w.cell? ⟨3,0,none⟩=some (.iface te pe)
 rng: ∃te pe,w.cell? ⟨4,0,none⟩=some (.iface te pe)
 pow:Lib.TabIs qx w "internal/strconv.uint64pow10" .u64 Lib.pow10Tab
theorem Gw:prog.globalNamed "internal/strconv.uint64pow10" =some 1:=qd
theorem CV.ag{w J:qo}(h:CV w)(k:qz w.heap.size w J):CV J:=by
 obtain⟨⟨t1,p1,h1⟩,⟨t2,p2,h2⟩,h3⟩:=h;exact⟨⟨t1,p1,(k.cell (xv _ _ h1)).trans h1⟩,⟨t2,p2,(k.cell (xv _ _ h2)).trans h2⟩,Go.Joins.tab_stays Gw h3 k (Nat.le_refl _)⟩
theorem Gx(w:qo)(os:Array Obj):qz w.heap.size w (Sort.grow w os):=
 ⟨rfl,rfl,rfl,by simp[Sort.grow],fun k hk=>by show(w.heap++os)[k]? =_;rw[Array.getElem?_append_left hk]⟩
theorem sD(n:Int)(h0: -9223372036854775808≤n)(h1:n≤9223372036854775807)(w:qo)(h:CV w):qw qx 27 #[U Z n] w fun e J=>e=qm (qg (bs (Lib.itoa n)))∧qz w.heap.size w J:=
 (Tryz.strconv_Itoa n h0 h1 w h.pow).mono fun _ _ ⟨he,k,os,hw⟩=>⟨he,by rw[hw];exact(below_drewN (Below.refl _ _) k).trans ((Gx (w.drewN k) os).mono (Nat.le_refl _))⟩
def Qi(s:ByteArray)(w:qo)(e:Ending)(J:qo):Prop:=
 (∃v er,e=qm (qj #[U Z v,er])∧ -9223372036854775808≤v∧v≤9223372036854775807∧((er= .nilIface∧Lib.atoiAll s.data.toList= .ok v)∨((∃t p,er= .iface t p)∧ ∀u,Lib.atoiAll s.data.toList≠ .ok u)))∧qz w.heap.size w J
theorem Gy{l:Bs}{v:Int}(h:Lib.atoiAll l= .ok v): -9223372036854775808≤v∧v≤9223372036854775807:=by
 cases l with
 |nil=>cases h
 |cons c r=>
  unfold Lib.atoiAll at h;simp only at h;split at h
  ·cases h
  ·cases h
  ·rename_i u hu;split at h
   ·cases h
   ·split at h
    ·cases h
    ·injection h with h
     subst h;split<;>omega
theorem Qj(s:ByteArray)(hs:s.size≤1000000)(w:qo)(h:CV w):qw qx 79 #[qg s] w (Qi s w):=by
 cases ha:Lib.atoiAll s.data.toList with
 |ok v=>
  obtain⟨r1,r2⟩:=Gy ha;refine(Tryz.strconv_Atoi_ok s Y v ha w).mono ?_;rintro e J⟨rfl,hw⟩;refine⟨⟨v,_,rfl,r1,r2,.inl ⟨rfl,ha⟩⟩,?_⟩;rcases hw with rfl|⟨t,rfl⟩
  ·exact Below.refl _ _
  ·exact Lib.bytesWorld_below _ _ _
 | «syntax» =>
  obtain⟨te,pe,hv⟩:=h.syn;refine(Tryz.strconv_Atoi_syntax s Y ha _ w hv (.inr ⟨te,pe,rfl⟩)).mono ?_;rintro e J⟨N,rfl,_,_,hb⟩
  exact⟨⟨0,_,rfl,Y,Y,.inr ⟨⟨_,_,rfl⟩,fun u e=>by rw[ha]at e;cases e⟩⟩,hb⟩
 |range=>
  obtain⟨te,pe,hv⟩:=h.rng;refine(Tryz.strconv_Atoi_range s Y ha _ w hv (.inr ⟨te,pe,rfl⟩)).mono ?_;rintro e J⟨N,rfl,_,_,hb⟩;refine⟨⟨_,_,rfl,?_,?_,.inr ⟨⟨_,_,rfl⟩,fun u e=>by rw[ha]at e;cases e⟩⟩,hb⟩
  ·unfold Lib.atoiSat;split<;>omega
  ·unfold Lib.atoiSat;split<;>omega
def aG(s:dK)(m:qp)(z:Int)(c:qp):Array qp:=#[U Z s.k,U Z s.c,U Z s.n,U Z s.f,U Z s.a.k,
 U Z s.a.o.cl,U Z s.a.o.sq,U Z s.a.o.k,qg s.a.o.p,qg s.a.o.t,U Z s.a.o.sz,U Z s.a.o.h,U Z s.a.o.o,qg s.a.o.d,U Z s.a.o.tk,U Z s.a.o.i,m,
 qg s.a.p,U Z s.a.h,U Z s.a.f,U Z s.a.s,qg s.a.d,U Z z,c]
def dX(w:qo)(b:Nat)(s:dK)(m:qp)(z:Int)(c:qp):Prop:=w.heap[b]? =some (qn (aG s m z c) 65 (0,0))
theorem stepSize:(prog.info? 65).map (·.size)=some 24:=qd
theorem dX.ag{w J:qo}{b:Nat}{s:dK}{m c:qp}{z:Int}(h:dX w b s m z c)(k:qz w.heap.size w J):dX J b s m z c:=(k.block b (qK h)).trans h
theorem dX.cell{w:qo}{b:Nat}{s:dK}{m c:qp}{z:Int}(h:dX w b s m z c)(i:Nat)(v:qp)(hv:(aG s m z c)[i]? =some v):w.cell? ⟨b,i,none⟩=some v:=by
 rw[qI h];exact hv
theorem dX.free{w:qo}{b:Nat}{s:dK}{m c:qp}{z:Int}(h:dX w b s m z c)(i:Nat):w.frozen? ⟨b,i,none⟩=false:=xx h i
def tV:Pl→Nat
 | .cl=>1| .nn=>2| .fa=>3| .oz=>10| .z=>20| .oh=>11| .h=>18| .of=>19| .ot=>9| .op=>8| .p=>17| .d=>21
def Qk:Pl→Bool
 | .ot| .op| .p| .d=>false
 |_=>true
def isT:Pl→Bool
 | .ot| .op| .p=>true
 |_=>false
theorem dX.BH{w:qo}{b:Nat}{s:dK}{m c:qp}{z:Int}(h:dX w b s m z c){p:Pl}(hp:Qk p=true)(v:Int):dX (w.setCell ⟨b,tV p,none⟩ (U Z v)) b (BH s p v) m z c:=by
 unfold dX;rw[heap_setCell_same w b _ _ _ _ h];cases p<;>first|rfl|cases hp
theorem dX.uZ{w:qo}{b:Nat}{s:dK}{m c:qp}{z:Int}(h:dX w b s m z c){p:Pl}(hp:Qk p=false)(v:ByteArray):dX (w.setCell ⟨b,tV p,none⟩ (qg v)) b (uZ s p v) m z c:=by
 unfold dX;rw[heap_setCell_same w b _ _ _ _ h];cases p<;>first|rfl|cases hp
theorem dX.num{w:qo}{b:Nat}{s:dK}{m c:qp}{z:Int}(h:dX w b s m z c){p:Pl}(hp:Qk p=true):w.cell? ⟨b,tV p,none⟩=some (U Z (ef s p)):=by
 refine h.cell _ _ ?_;cases p<;>first|rfl|cases hp
theorem dX.txt{w:qo}{b:Nat}{s:dK}{m c:qp}{z:Int}(h:dX w b s m z c){p:Pl}(hp:Qk p=false):w.cell? ⟨b,tV p,none⟩=some (qg (Tm s p)):=by
 refine h.cell _ _ ?_;cases p<;>first|rfl|cases hp
def Ql(b:Nat)(p:Pl):qp:=if Qk p then qi (some ⟨b,tV p,none⟩)else qi none
def Uy(b:Nat)(p:Pl):qp:=if isT p then qi (some ⟨b,tV p,none⟩)else qi none
theorem uN{f:UInt8}{k:Nat}(hk:k<256)(h:f≠UInt8.ofNat k):((f.toNat:Int)==(k:Int))=false:=by
 rw[qP];intro e;apply h;apply UInt8.toNat_inj.1;rw[UInt8.toNat_ofNat'];omega
theorem rj(f:UInt8)(b:Nat)(s:dK)(m c:qp)(z:Int)(w:qo)(h:dX w b s m z c):
 qw qx 78 #[qi (some ⟨b,0,none⟩),.int .u8 (f.toNat:Int)] w fun e J=>e=qm (Ql b (place (s.a.k==1) f))∧w=J:=by
 have c4:w.cell? ⟨b,4,none⟩=some (U Z s.a.k):=h.cell 4 _ rfl;clear h;obtain⟨k,hk⟩: ∃k,k=(s.a.k==1):=⟨_,rfl⟩;rw[←hk]
 have ff:f=99∨f=102∨f=110∨f=111∨f=115∨f=104∨(f≠99∧f≠102∧f≠110∧f≠111∧f≠115∧f≠104):=by
  by_cases h1:f=99
  ·exact .inl h1
  by_cases h2:f=102
  ·exact .inr (.inl h2)
  by_cases h3:f=110
  ·exact .inr (.inr (.inl h3))
  by_cases h4:f=111
  ·exact .inr (.inr (.inr (.inl h4)))
  by_cases h5:f=115
  ·exact .inr (.inr (.inr (.inr (.inl h5))))
  by_cases h6:f=104
  ·exact .inr (.inr (.inr (.inr (.inr (.inl h6)))))
  exact .inr (.inr (.inr (.inr (.inr (.inr ⟨h1,h2,h3,h4,h5,h6⟩)))))
 have hk2:=hk.symm;clear hk;rcases ff with rfl|rfl|rfl|rfl|rfl|rfl|⟨h1,h2,h3,h4,h5,h6⟩
 ·go_enter func78,ntmps78;go_wp2_with fail
  go_ret;exact⟨by cases k<;>rfl,rfl⟩
 ·go_enter func78,ntmps78;go_wp2_with fail
  go_ret;exact⟨by cases k<;>rfl,rfl⟩
 ·go_enter func78,ntmps78;go_wp2_with fail
  go_ret;exact⟨by cases k<;>rfl,rfl⟩
 ·go_enter func78,ntmps78;go_wp2_with fail
  go_ret;exact⟨by cases k<;>rfl,rfl⟩
 ·cases k
  all_goals
   go_enter func78,ntmps78;go_wp2_with fail
   go_ret;exact⟨rfl,rfl⟩
 ·cases k
  all_goals
   go_enter func78,ntmps78;go_wp2_with fail
   go_ret;exact⟨rfl,rfl⟩
 ·have HP:qy (Ql b (place k f)=qi none):=Hd (by
   unfold place;rw[qB h1,qB h2,qB h3,qB h4,qB h5,qB h6];split
   ·rfl
   ·split
    ·cases k<;>rfl
    ·rfl)
  have q1:((f.toNat:Int)==99)=false:=uN (k:=99) qa h1;have q2:((f.toNat:Int)==102)=false:=uN (k:=102) qa h2;have q3:((f.toNat:Int)==110)=false:=uN (k:=110) qa h3;have q4:((f.toNat:Int)==111)=false:=uN (k:=111) qa h4;have q5:((f.toNat:Int)==115)=false:=uN (k:=115) qa h5;have q6:((f.toNat:Int)==104)=false:=uN (k:=104) qa h6;clear h1 h2 h3 h4 h5 h6;go_enter func78,ntmps78;go_wp2_with fail
  go_ret;exact⟨qX Ending.returned HP.o.symm,rfl⟩
theorem kY(f:UInt8)(b:Nat)(s:dK)(m c:qp)(z:Int)(hf:Qk (place (s.a.k==1) f)=false)(w:qo)(h:dX w b s m z c):
 qw qx 80 #[qi (some ⟨b,0,none⟩),.int .u8 (f.toNat:Int)] w fun e J=>e=qm (Uy b (place (s.a.k==1) f))∧w=J:=by
 have c4:w.cell? ⟨b,4,none⟩=some (U Z s.a.k):=h.cell 4 _ rfl;clear h;obtain⟨k,hk⟩: ∃k,k=(s.a.k==1):=⟨_,rfl⟩;rw[←hk]at hf⊢;have hk2:=hk.symm;clear hk;by_cases h1:f=116
 ·subst h1;clear hf;go_enter func80,ntmps80;go_wp2_with fail
  go_ret;exact⟨by cases k<;>rfl,rfl⟩
 ·by_cases h2:f=112
  ·subst h2;clear hf h1;cases k
   all_goals
    go_enter func80,ntmps80;go_wp2_with fail
    go_ret;exact⟨rfl,rfl⟩
  ·have HP:qy (Uy b (place k f)=qi none):=Hd (by
    have e:place k f= .d∨Qk (place k f)=true:=by
     unfold place;rw[qB h1,qB h2]
     repeat' split
     all_goals first|exact .inl rfl|exact .inr rfl
    rcases e with e|e
    ·rw[e];rfl
    ·rw[hf]at e;cases e)
   have q1:((f.toNat:Int)==116)=false:=uN (k:=116) qa h1;have q2:((f.toNat:Int)==112)=false:=uN (k:=112) qa h2;clear h1 h2 hf;go_enter func80,ntmps80;go_wp2_with fail
   go_ret;exact⟨qX Ending.returned HP.o.symm,rfl⟩
def Far(b:Nat):Prop:=b≠3∧b≠4∧b≠1∧b≠0
theorem CV.only{w J:qo}{b:Nat}(h:CV w)(k:ax b w J)(hb:Far b):CV J:=by
 obtain⟨⟨t1,p1,h1⟩,⟨t2,p2,h2⟩,h3⟩:=h
 have step: ∀(g:Nat) (v:qp),b≠g→w.cell? ⟨g,0,none⟩=some v→J.cell? ⟨g,0,none⟩=some v:=by
  intro g v hg hc;have aN:=xv _ _ hc;have e:=k.block g aN (fun e=>hg (by injection e with e;exact e.symm));unfold World.cell? at hc⊢;simp only at hc⊢;rw[e];exact hc
 refine⟨⟨t1,p1,step _ _ hb.1 h1⟩,⟨t2,p2,step _ _ hb.2.1 h2⟩,?_⟩
 have aN:1<w.heap.size:=by
  unfold Lib.TabIs World.var? at h3;rw[Gw]at h3;simp only[Option.bind_some]at h3;rcases Nat.lt_or_ge 1 w.heap.size with h|h
  ·exact h
  ·rw[Array.getElem?_eq_none h]at h3;cases h3
 have e:=k.block _ aN (fun e=>hb.2.2.1 (by injection e with e;exact e.symm));unfold Lib.TabIs World.var? at h3⊢;rw[Gw]at h3⊢;simp only[Option.bind_some]at h3⊢;rw[e];exact h3
structure sE(s:dK)(p:Pl)(x:ByteArray)(b:Nat)(m:qp)(z:Int)(c:qp)(w:qo)(e:Ending)(J:qo):Prop where
 ret:e=qm (.bool (eF s p x.data.toList).isSome)
 box: ∀t,eF s p x.data.toList=some t→dX J b t m z c
 only:ax b w J
theorem Uz{s:dK}{p:Pl}(hp:Qk p=true)(x:Bs):eF s p x=(gN x).map fun(n:Nat)=>BH s p (n:Int):=by cases p<;>first|rfl|cases hp
theorem UA{s:dK}{p:Pl}(hp:isT p=true)(x:Bs):eF s p x=if Dw x then some (uZ s p (bs x))else none:=by cases p<;>first|rfl|cases hp
theorem Qm(f:UInt8)(x:ByteArray)(hx:x.size≤1000000)(b:Nat)(s:dK)(m c:qp)(z:Int)(p:Pl)(vc:place (s.a.k==1) f=p)(hn:Qk p=true)(mJ:Far b)(w:qo)(h:dX w b s m z c)(hv:CV w):
 qw qx 51 #[qi (some ⟨b,0,none⟩),.int .u8 (f.toNat:Int),qg x] w (sE s p x b m z c w):=by
 have hc:=rj f b s m c z w h;rw[vc,show Ql b p=qi (some ⟨b,tV p,none⟩)from qH hn]at hc;have HC:=Hd hc;have H:=Hd h;have HV:=Hd hv;have HN:=Hd hn;have je:=Og x.data.toList;have kG:=Hd (Uz (s:=s) hn x.data.toList);have hlen:=PathW.dH x;clear hc h hv hn vc;obtain⟨o,ho⟩: ∃o,o=tV p:=⟨_,rfl⟩;rw[←ho]at HC;have HO:=Hd ho;clear ho;go_enter func51,ntmps51;go_wp2_with fail
 refine HC.o.mono ?_;rintro e w1⟨rfl,rfl⟩;go_wp2_with fail
 refine(Qj x hx w HV.o).mono ?_;rintro e w2⟨⟨v,er,rfl,hv1,hv2,gU⟩,hb2⟩;have cX:=Hd (H.o.ag hb2);have vi:=cX.o.num HN.o;have Si:=cX.o.free o;rw[←HO.o]at vi;have eP:qy (dX (w2.setCell ⟨b,o,none⟩ (U Z v)) b (BH s p v) m z c):=Hd (by rw[HO.o];exact cX.o.BH HN.o v);have mx:qy (ax b w (w2.setCell ⟨b,o,none⟩ (U Z v))):=Hd ((ax.af hb2).setCell o _);have Qn:=Hd (HV.o.ag hb2);clear hb2;have WL:qy (CV (w2.setCell ⟨b,o,none⟩ (U Z v))):=Hd (Qn.o.only ((ax.refl b w2).setCell o _) mJ);clear Qn cX;rcases gU with⟨rfl,ha⟩|⟨⟨t,q,rfl⟩,ha⟩
 ·rw[ha]at je;simp only at je;clear ha;by_cases h0:0≤v
  ·by_cases h9:x.data.toList.length≤9
   ·have h9':(x.size:Int)≤9:=by omega
    have nh:=Hd je;have H0:=Hd h0;have H9:=Hd h9;have HV1:=Hd (And.intro hv1 hv2);by_cases hi:Lib.itoa v=x.data.toList
    ·have hq:((bs (Lib.itoa v)).toList==x.toList)=true:=by rw[xq,xq,lW,hi];simp
     have IT:qy (gN x.data.toList=some v.toNat):=Hd (by rw[←nh.o,qH ⟨H0.o,H9.o,hi⟩]);have hit: ∀W:qo,CV W→qw qx 27 #[U Z v] W fun e J=>e=qm (qg (bs (Lib.itoa v)))∧qz W.heap.size W J:=fun W hW=>sD v HV1.o.1 HV1.o.2 W hW;have YF:=Hd hit;clear hit je hi h9 hlen;generalize bs (Lib.itoa v)=y at*;generalize hw3:w2.setCell ⟨b,o,none⟩ (U Z v)=w3 at*;have HW3:=Hd hw3;clear hw3;go_wp2_with fail
     rw[HW3.o];refine(YF.o _ WL.o).mono ?_;rintro e w4⟨rfl,hb4⟩;have gH:=Hd (mx.o.step hb4);have cA:=Hd (eP.o.ag hb4);clear hb4;go_wp2_with fail
     go_ret
     exact⟨by rw[kG.o,IT.o];rfl,fun t ht=>by
      rw[kG.o,IT.o]at ht;injection ht with ht
      rw[←ht];show dX w4 b (BH s p (v.toNat:Int)) m z c;rw[Int.toNat_of_nonneg H0.o];exact cA.o,gH.o⟩
    ·have hq:((bs (Lib.itoa v)).toList==x.toList)=false:=by rw[xq,xq,lW,qP];exact hi
     have IT:qy (gN x.data.toList=none):=Hd (by rw[←nh.o,qB (fun h=>hi h.2.2)]);have hit: ∀W:qo,CV W→qw qx 27 #[U Z v] W fun e J=>e=qm (qg (bs (Lib.itoa v)))∧qz W.heap.size W J:=fun W hW=>sD v HV1.o.1 HV1.o.2 W hW;have YF:=Hd hit;clear hit je hi h9 hlen;generalize bs (Lib.itoa v)=y at*;generalize hw3:w2.setCell ⟨b,o,none⟩ (U Z v)=w3 at*;have HW3:=Hd hw3;clear hw3;go_wp2_with fail
     rw[HW3.o];refine(YF.o _ WL.o).mono ?_;rintro e w4⟨rfl,hb4⟩;have gH:=Hd (mx.o.step hb4);clear hb4;go_wp2_with fail
     go_ret;exact⟨by rw[kG.o,IT.o];rfl,fun t ht=>(by rw[kG.o,IT.o]at ht;cases ht),gH.o⟩
   ·have h9':decide ((x.size:Int)≤9)=false:=qD Y;have IT:qy (gN x.data.toList=none):=Hd (by rw[←je,qB (fun h=>h9 h.2.1)]);clear je h9 hlen;go_wp2_with fail
    go_ret;exact⟨by rw[kG.o,IT.o];rfl,fun t ht=>(by rw[kG.o,IT.o]at ht;cases ht),mx.o⟩
  ·have h0':decide (0≤v)=false:=qD h0;have IT:qy (gN x.data.toList=none):=Hd (by rw[←je,qB (fun h=>h0 h.1)]);clear je h0 hlen;go_wp2_with fail
   go_ret;exact⟨by rw[kG.o,IT.o];rfl,fun t ht=>(by rw[kG.o,IT.o]at ht;cases ht),mx.o⟩
 ·have IT:qy (gN x.data.toList=none):=Hd (by
   rw[←je]
   cases hx:Lib.atoiAll x.data.toList with
   |ok u=>exact qZ hx (ha u)
   | «syntax» =>rfl
   |range=>rfl)
  clear je ha hlen;go_wp2_with fail
  go_ret;exact⟨by rw[kG.o,IT.o];rfl,fun t ht=>(by rw[kG.o,IT.o]at ht;cases ht),mx.o⟩
theorem Qo(f:UInt8)(x:ByteArray)(hx:x.size≤1000000)(b:Nat)(s:dK)(m c:qp)(z:Int)(p:Pl)(vc:place (s.a.k==1) f=p)(hn:isT p=true)(w:qo)(h:dX w b s m z c):
 qw qx 51 #[qi (some ⟨b,0,none⟩),.int .u8 (f.toNat:Int),qg x] w (sE s p x b m z c w):=by
 have Iq:Qk p=false:=by cases p<;>first|rfl|cases hn
 have hc:=rj f b s m c z w h;have ht:=kY f b s m c z (by rw[vc];exact Iq) w h;rw[vc,show Ql b p=qi none from qB (by rw[Iq];decide)]at hc;rw[vc,show Uy b p=qi (some ⟨b,tV p,none⟩)from qH hn]at ht;have HC:=Hd hc;have HT:=Hd ht;have vi:=h.txt Iq;have Si:=h.free (tV p);have kG:=Hd (UA (s:=s) hn x.data.toList);have eP:qy (dX (w.setCell ⟨b,tV p,none⟩ (qg x)) b (uZ s p x) m z c):=Hd (h.uZ Iq x);have mx:qy (ax b w (w.setCell ⟨b,tV p,none⟩ (qg x))):=Hd ((ax.refl b w).setCell _ _);clear hc ht h vc hn Iq;generalize tV p=o at*;obtain⟨y,hy⟩: ∃y,y=Tm s p:=⟨_,rfl⟩;rw[←hy]at vi;clear hy
 go_enter func51,ntmps51;go_wp2_with fail
 refine HC.o.mono ?_;rintro e w1⟨rfl,rfl⟩;go_wp2_with fail
 refine HT.o.mono ?_;rintro e w1⟨rfl,rfl⟩;go_wp2_with fail
 refine(PathW.cG x Y _).mono ?_;rintro e w2⟨rfl,hb2⟩;have gH:=Hd (mx.o.step hb2);have cA:=Hd (eP.o.ag hb2);clear hb2;go_wp2_with fail
 go_ret;have hp:Dw x.data.toList=(PathW.dq x.data.toList).isSome:=rfl;refine⟨?_,fun t ht=>?_,gH.o⟩
 ·rw[kG.o,←hp];cases Dw x.data.toList<;>rfl
 ·rw[kG.o]at ht
  cases hq:Dw x.data.toList with
  |false=>rw[hq]at ht;cases ht
  |true=>
   rw[hq]at ht;injection ht with ht
   rw[←ht];exact cA.o
theorem Qp(f:UInt8)(x:ByteArray)(hx:x.size≤1000000)(b:Nat)(s:dK)(m c:qp)(z:Int)(vc:place (s.a.k==1) f= .d)(w:qo)(h:dX w b s m z c):
 qw qx 51 #[qi (some ⟨b,0,none⟩),.int .u8 (f.toNat:Int),qg x] w (sE s .d x b m z c w):=by
 have hc:=rj f b s m c z w h;have ht:=kY f b s m c z (by rw[vc];rfl) w h;rw[vc,show Ql b .d=qi none from rfl]at hc;rw[vc,show Uy b .d=qi none from rfl]at ht;have HC:=Hd hc;have HT:=Hd ht;have H:=Hd h;obtain⟨y,hy⟩: ∃y,y=(tC x.data.toList).getD []:=⟨_,rfl⟩;have HY:=Hd hy;have hu:=KU x hx;unfold Pj at hu;rw[←hy]at hu;have HU:=Hd hu;clear hc ht h vc hy hu;generalize hyb:bs y=yb at*;have HYB:=Hd hyb;clear hyb;go_enter func51,ntmps51;go_wp2_with fail
 refine HC.o.mono ?_;rintro e w1⟨rfl,rfl⟩;go_wp2_with fail
 refine HT.o.mono ?_;rintro e w1⟨rfl,rfl⟩;go_wp2_with fail
 refine(HU.o _).mono ?_;rintro e w2⟨rfl,hb2⟩;have cX:=Hd (H.o.ag hb2);have vi:w2.cell? ⟨b,21,none⟩=some (qg s.a.d):=cX.o.txt (p:= .d) rfl;have Si:=cX.o.free 21;have eP:qy (dX (w2.setCell ⟨b,21,none⟩ (qg yb)) b (uZ s .d yb) m z c):=Hd (cX.o.uZ (p:= .d) rfl yb);have mx:qy (ax b w (w2.setCell ⟨b,21,none⟩ (qg yb))):=Hd ((ax.af hb2).setCell _ _);clear hb2;go_wp2_with fail
 go_ret;refine⟨?_,fun t ht=>?_,mx.o⟩
 ·unfold eF;cases tC x.data.toList<;>rfl
 ·unfold eF at ht;have e:=HY.o
  cases hq:tC x.data.toList with
  |none=>rw[hq]at ht;cases ht
  |some q=>
   rw[hq]at ht e;injection ht with ht
   rw[←ht];have:bs q=yb:=by rw[←HYB.o,e];rfl
   show dX _ b (uZ s .d (bs q)) m z c;rw[this];exact eP.o
theorem wc(f:UInt8)(x:ByteArray)(hx:x.size≤1000000)(b:Nat)(s:dK)(m c:qp)(z:Int)(mJ:Far b)(w:qo)(h:dX w b s m z c)(hv:CV w):
 qw qx 51 #[qi (some ⟨b,0,none⟩),.int .u8 (f.toNat:Int),qg x] w (sE s (place (s.a.k==1) f) x b m z c w):=by
 generalize hp:place (s.a.k==1) f=p
 cases hn:Qk p with
 |true=>exact Qm f x hx b s m c z p hp hn mJ w h hv
 |false=>
  cases ht:isT p with
  |true=>exact Qo f x hx b s m c z p hp ht w h
  |false=>
   have e:p= .d:=by
    cases p<;>first|rfl|(exfalso;revert hn;decide)|(exfalso;revert ht;decide)
   subst e;exact Qp f x hx b s m c z hp w h
structure sF(B b:Nat)(l:List UInt8)(w:qo):Prop where
 base:B≤b
 ex: ∃p v,(p=qi none∨p=qi (some ⟨b,0,none⟩))∧w.heap[b]? =some (qn #[p,v] 140 (0,0))∧w.ownsRow B 5 1 v l.length (Lib.byteCells l)∧v.ownBlock≠some b
theorem IU:(prog.info? 5).map (fun i=>(i.zero,i.size,i.bytes))=some (some (.int .u8 0),1,1):=qd
theorem vP:(prog.info? 140).map (fun i=>i.size)=some 2:=qd
theorem Zi:liesAt qx prog.depth 140 (2/ prog.cellsOf 140) 0 140 1=true:=qd
theorem pI(b:Nat)(w:qo)(h0:w.cell? ⟨b,0,none⟩=some (qi (some ⟨b,0,none⟩))):
 qw qx 76 #[qi (some ⟨b,0,none⟩)] w fun e J=>e=qm (qj #[])∧w=J:=by
 obtain⟨j,hj,_⟩:=xG.1 vP;go_enter func76,ntmps76;go_wp2
 rw[Lib.run_neq_ptr_same w _ underlying137 hj];go_wp2
 go_end0
 exact⟨rfl,rfl⟩
theorem mT(b:Nat)(w:qo)(h0:w.cell? ⟨b,0,none⟩=some (qi none))(SC:w.shape? b=some (140,2))(SD:w.frozen? ⟨b,0,none⟩=false):
 qw qx 76 #[qi (some ⟨b,0,none⟩)] w fun e J=>e=qm (qj #[])∧w.setCell ⟨b,0,none⟩ (qi (some ⟨b,0,none⟩))=J:=by
 obtain⟨j,hj,Wa⟩:=xG.1 vP;go_enter func76,ntmps76;go_wp2
 rw[Lib.run_to_unsafe w ⟨b,0,none⟩ underlying137 underlying226 hj (by rw[Wa];decide) SC (Nat.zero_lt_succ 1)];simp only[Result.andThen];rw[Oper.upon_value];go_wp2
 rw[run_callFunc_extern func120 qd qd qd (e:=Extern.AbiNoEscape.same) qd];rw[Lib.run_noEscape];simp only[Result.andThen];rw[Oper.upon_value];go_wp2
 rw[Lib.run_from_unsafe w ⟨b,0,none⟩ underlying226 underlying137 hj SC Zi];simp only[Result.andThen];rw[Oper.upon_value];go_wp2
 go_end0
 exact⟨rfl,rfl⟩
theorem oc(B b:Nat)(l:List UInt8)(w:qo)(h:sF B b l w):
 qw qx 76 #[qi (some ⟨b,0,none⟩)] w fun e J=>e=qm (qj #[])∧
  (∃v,J.heap[b]? =some (qn #[qi (some ⟨b,0,none⟩),v] 140 (0,0))∧J.ownsRow B 5 1 v l.length (Lib.byteCells l)∧v.ownBlock≠some b)∧Fr B b w J:=by
 obtain⟨hB,p,v,hp,eo,aT,bd⟩:=h;have c0:w.cell? ⟨b,0,none⟩=some p:=by rw[qI eo];rfl
 rcases hp with rfl|rfl
 ·have SC:w.shape? b=some (140,2):=by simp[World.shape?,eo]
  refine(mT b w c0 SC (xx eo 0)).mono ?_;rintro e J⟨rfl,rfl⟩;refine⟨rfl,⟨v,?_,?_,bd⟩,(Fr.refl B b w).setCell 0 hB _⟩
  ·rw[heap_setCell_same w b 0 _ _ _ eo];rfl
  ·exact ownsRow_setCell_other aT (a:=⟨b,0,none⟩) bd _
 ·refine(pI b w c0).mono ?_;rintro e J⟨rfl,rfl⟩;exact⟨rfl,⟨v,eo,aT,bd⟩,Fr.refl B b _⟩
theorem lM(l:List UInt8)(s:ByteArray):Lib.byteCells l++Lib.strCells s=Lib.byteCells (l++s.data.toList):=by
 simp[Lib.byteCells,Lib.strCells]
theorem rJ(W:qo)(q:Option Addr):(Builtin.unsafeString_ #[178,3] 9 #[qi q,U Z 0]).run qx W= .ok (qg .empty) W:=
 Lib.run_unsafeString_none W _ _ _ q
theorem mV(B b g cap:Nat)(p:qp)(l:List UInt8)(cur:Array qp)(w:qo)(h0:l≠[])(eo:w.heap[b]? =some (qn #[p,qh (some ⟨g,0,none⟩) l.length cap] 140 (0,0)))
 (Wb:B≤g) (hg:w.heap[g]? =some (qn cur 5 (0,0))) (XC:l.length≤cap) (Bq:cap≤maxLen) (ff:cur.size=cap) (aT:w.ownsRow B 5 1 (qh (some ⟨g,0,none⟩) l.length cap) l.length (Lib.byteCells l)):
 qw qx 47 #[qi (some ⟨b,0,none⟩)] w fun e J=>e=qm (qg ⟨l.toArray⟩)∧Fr B b w J:=by
 have hl0:l.length≠0:=by simpa using h0
 have c1:w.drew.cell? ⟨b,1,none⟩=some (qh (some ⟨g,0,none⟩) l.length cap):=by
  have:w.drew.heap[b]? =some (qn #[p,qh (some ⟨g,0,none⟩) l.length cap] 140 (0,0)):=eo;rw[qI this];rfl
 have hSD:(Builtin.unsafeSliceData_ #[138] 178 #[qh (some ⟨g,0,none⟩) l.length cap]).run qx w.drew= .ok (qi (some ⟨g,0,none⟩)) w.drew:=
  Lib.run_unsafeSliceData_row _ _ _ _ _ _ Y
 have hUS:(Builtin.unsafeString_ #[178,3] 9 #[qi (some ⟨g,0,none⟩),U Z l.length]).run qx w.drew= .ok (qg ⟨l.toArray⟩) (w.drew.freeze ⟨g,0,none⟩ l.length):=by
  refine Lib.run_unsafeString_row w.drew 178 3 9 5 underlying178 qd g cur.size (by have hg':w.drew.heap[g]? =some (qn cur 5 (0,0)):=hg;simp[World.shape?,hg']) l h0 Y (by unfold maxLen at Bq;omega) ?_;intro j x hx;exact aT.cells (g:=g) rfl j (.int .u8 x.toNat) (by simp[Lib.byteCells,hx])
 have HG:=Hd hg;clear eo hg aT;go_enter func47,ntmps47;go_wp2
 go_region
 all_goals (go_wp2;go_ret;exact⟨rfl,((Fr.refl B b w).drew).freeze (w:=w.drew) HG.o Wb⟩)
theorem AS(B b:Nat)(l:List UInt8)(c:UInt8)(w:qo)(h:sF B b l w)(hlen:l.length+1≤1000000000)(hBw:B≤w.heap.size):
 qw qx 46 #[qi (some ⟨b,0,none⟩),.int .u8 (c.toNat:Int)] w fun e J=>e=qm .nilIface∧sF B b (l++[c]) J∧Fr B b w J:=by
 have hB:=h.base;obtain⟨i0,hi,hz0,hz1,hz2⟩:=info_parts IU;have H:=Hd h;clear h;go_enter func46,ntmps46;go_wp2_with fail
 refine(oc B b l _ H.o).mono ?_;rintro e w1⟨rfl,⟨v,eo,aT,bd⟩,hb1⟩
 obtain⟨ao,cap,rfl⟩: ∃ao cap,v=qh ao l.length cap:=by
  rcases aT.2 with⟨hv,h0⟩|⟨g,cap,cur,hv,_⟩
  ·exact⟨none,0,by rw[hv,h0]⟩
  ·exact⟨_,_,hv⟩
 have c1:w1.cell? ⟨b,1,none⟩=some (qh ao l.length cap):=by rw[qI eo];rfl
 have HBK:=Hd eo;have ei:=Hd aT;have lS:=Hd bd;have cq:=Hd hb1;have lH:qy (B≤w1.heap.size):=Hd (qM hBw hb1.size);have dO:qy (b<w1.heap.size):=Hd (qK eo);have HBC:qy (Lib.byteCells (l++[c])=Lib.byteCells l++[.int .u8 (c.toNat:Int)]):=Hd (by rw[Lib.byteCells_append];rfl);clear eo aT bd hb1
 go_wp2_with(at_builtin;refine bB rfl _ _ 138 rfl B 5 i0 (.int .u8 0) 1 1 underlying138 hi hz0 hz1 hz2 rfl qa _ _ _ (by rfl) ei.o 1 1 (by rfl) rfl (by simp;rfl) (by unfold maxLen;omega) Y lH.o ?_;intro oa2 dd w2 rW yd mU;have hb2:w2.heap[b]? =some (qn #[qi (some ⟨b,0,none⟩),qh ao l.length cap] 140 (0,0)):=(by rw[mU.block b dO.o (fun e=>lS.o e.symm)];exact HBK.o);have d1:w2.cell? ⟨b,1,none⟩=some (qh ao l.length cap):=(by rw[qI hb2];rfl);have f1:w2.frozen? ⟨b,1,none⟩=false:=xx hb2 1;have BF:qy ((Value.slice oa2 (l.length+1) dd).ownBlock≠some b):=Hd (Lib.ownBlock_ne rW hb2 qa);have kN:=Hd rW;have az:=Hd hb2;have HG2:=Hd mU;clear rW yd mU hb2)
 go_ret;refine⟨rfl,⟨hB,_,qh oa2 (l.length+1) dd,.inr rfl,?_,?_,BF.o⟩,?_⟩
 ·rw[heap_setCell_same w2 b 1 _ _ _ az.o];rfl
 ·have h3:=ownsRow_setCell_other kN.o (a:=⟨b,1,none⟩) BF.o (qh oa2 (l.length+1) dd);rw[HBC.o,qY];exact h3
 ·exact(cq.o.grown HG2.o ei.o lH.o).setCell 1 hB _
theorem Eo(w:qo)(B:Nat):w.ownsRow B 5 1 (qh none 0 0) 0 []:=⟨rfl,.inl ⟨rfl,rfl⟩⟩
theorem Lt{l:Bs}{k:Nat}{c:UInt8}(h:l[k]? =some c):lq (l.take (k+1))=lq (l.take k)++[iR (c.toNat/ 16)]++[iR (c.toNat%16)]:=by
 rw[xA,h];unfold lq;rw[xy];simp
theorem Ep(l:Bs):(lq l).length=2*l.length:=by
 unfold lq
 induction l with
 |nil=>rfl
 |cons c l ih=>rw[qU,qY,ih];simp;omega
theorem Qq(s:ByteArray)(k:Nat)(h:k<s.size)(c:UInt8)(hc:s[k]'h=c)(w:qo):(Instr.index 9 (qg s) (U Z (k:Int))).run qx w= .ok (.int .u8 (c.toNat:Int)) w:=by
 rw[run_index_string w 9 s .i64 _ underlying9,dif_pos ⟨Y,Y⟩];subst hc;rfl
theorem IW(n:Nat)(h:n<16)(w:qo):(Instr.index 9 (qg ⟨#[48,49,50,51,52,53,54,55,56,57,97,98,99,100,101,102]⟩) (.int .u8 (n:Int))).run qx w= .ok (.int .u8 ((iR n).toNat:Int)) w:=by
 have e:me[n]'h=iR n:=IE ⟨n,h⟩;have hz:n<me.size:=h;show(Instr.index 9 (qg me) (.int .u8 (n:Int))).run qx w=_;rw[run_index_string w 9 me .u8 _ underlying9,dif_pos ⟨Y,Y⟩,←e];rfl
theorem UB: ∀c:Fin 256,bits .and .u8 (c.val:Int) 15=((c.val%16:Nat):Int):=by decide+kernel
theorem Zj(c:UInt8):bits .and .u8 (c.toNat:Int) 15=((c.toNat%16:Nat):Int):=UB ⟨c.toNat,c.toNat_lt⟩
theorem uO(B b:Nat)(l:List UInt8)(w:qo)(h0:l≠[])(h:sF B b l w):
 qw qx 47 #[qi (some ⟨b,0,none⟩)] w fun e J=>e=qm (qg ⟨l.toArray⟩)∧Fr B b w J:=by
 obtain⟨hB,p,v,hp,eo,aT,bd⟩:=h;rcases aT.2 with⟨_,h1⟩|⟨g,cap,cur,rfl,Wb,hg,XC,Bq,ff,_⟩
 ·exact qZ (xe h1) h0
 ·exact mV B b g cap p l cur w h0 eo Wb hg XC Bq (by rw[ff,Nat.mul_one]) aT
theorem UC(s:ByteArray)(hs:s.size≤1000000)(w:qo):
 qw qx 28 #[qg s] w fun e J=>e=qm (qg (bs (fm s.data.toList)))∧qz w.heap.size w J:=by
 have hlen:=PathW.dH s;by_cases h0:s.data.toList=[]
 ·have h1:(s.toList==[])=true:=by rw[xq,h0];rfl
  have HS:qy (fm s.data.toList=[45]):=Hd (by rw[h0];rfl);clear h0 hlen;go_enter func28,ntmps28;go_wp2_with fail
  go_ret;exact⟨by rw[HS.o];rfl,Below.refl _ _⟩
 ·have h1:(s.toList==[])=false:=by rw[xq,qP];exact h0
  have HS:qy (fm s.data.toList=lq s.data.toList):=Hd (qB h0);have lS:qy (s.data.toList≠[]):=Hd h0;have ea:=Hd hlen;have GET:=Hd (PathW.getD_at s);have hb0:=aa w (qn #[qi none,qh none 0 0] 140);have bu:=Hd hb0;have HA:qy (sF w.heap.size w.heap.size [] (w.alloc (qn #[qi none,qh none 0 0] 140))):=Hd ⟨Nat.le_refl _,_,_,.inl rfl,qA w _,Eo _ _,by simp[Value.ownBlock]⟩;clear h0 hlen hb0;go_enter func28,ntmps28;go_wp2_with fail
  generalize w.alloc (qn #[qi none,qh none 0 0] 140)=w1 at*;obtain⟨B,hB⟩: ∃B,B=w.heap.size:=⟨_,rfl⟩;rw[←hB]at HA;have lH:qy (B≤w1.heap.size):=Hd (by rw[hB];exact bu.o.size);have agX:qy (B=w.heap.size):=Hd hB;rw[←hB];clear hB
  go_loopw [9] (fun c wr=> ∃k:Nat,k≤s.size∧c=U Z (k:Int)∧sF B B (lq (s.data.toList.take k)) wr∧Fr B B w1 wr) (fun c _=>((s.size:Int)-intOf c).toNat)
  case atStart=>exact⟨0,Y,rfl,by simpa [lq]using HA.o,Fr.refl _ _ _⟩
  case round=>
   obtain⟨k,hk,rfl,Ta,Si⟩:=hrel;have FR:=Hd Ta;have HFR:=Hd Si;clear Ta Si;by_cases aN:k<s.size
   ·have hk1:(k:Int)<(s.size:Int):=by omega
    obtain⟨c,hc⟩: ∃c,c=s[k]'aN:=⟨_,rfl⟩;have eC:=Qq s k aN c hc.symm wr;obtain⟨hi,VV⟩: ∃hi:Nat,hi=c.toNat/ 16:=⟨_,rfl⟩;obtain⟨lo,Sk⟩: ∃lo:Nat,lo=c.toNat%16:=⟨_,rfl⟩;have h16:c.toNat<256:=c.toNat_lt;have e1:((c.toNat:Int)/ 16)=(hi:Int):=by rw[VV];rfl
    have e3:=IW hi Y wr
    have HNX:qy (lq (s.data.toList.take (k+1))=lq (s.data.toList.take k)++[iR hi]++[iR lo]):=Hd (by
     rw[VV,Sk];apply Lt;rw[hc,←GET.o k aN];rw[xz,qN (by rw[ea.o];exact aN)];rfl)
    have HLO:qy (lo<16∧lo=c.toNat%16):=Hd Y;have HLB:qy ((lq (s.data.toList.take k)).length≤2*s.size):=Hd (by rw[Ep,xF,ea.o];omega);have HC:=Hd hc;clear VV Sk hc;go_wp2_with fail
    refine(AS B B (lq (s.data.toList.take k)) (iR hi) wr FR.o (by have:=HLB.o;omega) (qM lH.o HFR.o.size)).mono ?_;rintro e w2⟨rfl,adk,adl⟩;have Zk:=Hd adk;have adm:qy (Fr B B w1 w2):=Hd (HFR.o.trans adl);clear adk adl eC e1 e3;have eC:=Qq s k aN c HC.o.symm w2;have e2:bits .and .u8 (c.toNat:Int) 15=(lo:Int):=(by rw[HLO.o.2];exact Zj c);have e3:=IW lo HLO.o.1 w2;go_wp2_with fail
    refine(AS B B _ (iR lo) w2 Zk.o (by rw[qY];have:=HLB.o;simp;omega) (qM lH.o adm.o.size)).mono ?_;rintro e w3⟨rfl,Qr,Qs⟩;have Zl:=Hd Qr;have agZ:qy (Fr B B w1 w3):=Hd (adm.o.trans Qs);clear Qr Qs eC e2 e3;go_wp2_with fail
    exact⟨⟨k+1,Y,qc,by rw[HNX.o];exact Zl.o,agZ.o⟩,by simp[intOf];omega⟩
   ·obtain rfl:k=s.size:=by omega
    have HTA:qy (s.data.toList.take s.size=s.data.toList):=Hd (qT (by rw[ea.o];exact Nat.le_refl _));have Fq:qy (sF B B (lq s.data.toList) wr):=Hd (by have h:=FR.o;rw[HTA.o]at h;exact h)
    have HNB:qy (lq s.data.toList≠[]):=Hd (by
     intro e;have:=qX List.length e;rw[Ep]at this;rw[List.length_nil]at this;exact lS.o (xe Y))
    clear aN hk;go_wp2_with fail
    refine(uO B B _ wr HNB.o Fq.o).mono ?_;rintro e w4⟨rfl,adn⟩;have aha:qy (Fr B B w1 w4):=Hd (HFR.o.trans adn);clear adn;go_wp2_with fail
    go_ret;exact⟨by rw[HS.o];rfl,by have h:=bu.o;rw[←agX.o]at h⊢;exact h.trans aha.o.below⟩
