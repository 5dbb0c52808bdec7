/- Part 19 of the texts that the law's walk needs. -/
import Derived.Test.YtimabpfjjpjfjaaGreatDoorM01
import Derived.Test.YtimabpfjjpjfjaaGreatDoorM03
import Derived.Test.YtimabpfjjpjfjaaGreatDoorM10
import Derived.Test.YtimabpfjjpjfjaaGreatDoorM13
set_option maxHeartbeats 3200000
set_option maxRecDepth 100000
set_option linter.all false
open Go renaming World→qo,Calls→qw
open Go.Ending renaming returned→qm
open Go.Value renaming pointer→qi,int→U,string→qg
open Go.RowKit renaming Hid→qy
open Go.IntKind renaming i64→Z
namespace Go.Proofs.YtimabpfjjpjfjaaGreatDoor
open Tryz
namespace DirW
open Go.RowKit DirP
open PathW (cj)
structure uH(L:List En):Prop where
 dU:bg L
 fits: ∀a∈L,cj a.s.data.toList=true∧1≤a.d∧a.d≤2147483647∧1≤a.i∧a.i≤2147483647
 Ah: ∀d,cT L d≤64
theorem KW:uH []:=⟨List.Pairwise.nil,qc,fun d=>by simp[cT]⟩
structure uI(w:qo)(nb b c:Nat)(L:List En):Prop where
 head:w.heap[nb]? =some (.cells #[.map (some b),.map (some c)] 258 (0,0))
 map: ∃n,abK w b n (lk L)
 zD: ∃n g,SP w c n g∧ ∀d,(g d).getD 0=cT L d
 cV:uH L
 bc:b≠c
theorem uI.lt{w:qo}{nb b c:Nat}{L:List En}(h:uI w nb b c L):nb<w.heap.size∧b<w.heap.size∧c<w.heap.size:=by
 obtain⟨n,hm⟩:=h.map;obtain⟨n',g,hc,_⟩:=h.zD;exact⟨qK h.head,an.lt hm,an.lt hc⟩
theorem uI.ne{w:qo}{nb b c:Nat}{L:List En}(h:uI w nb b c L):nb≠b∧nb≠c:=by
 obtain⟨n,es,cl,hm,_⟩:=h.map;obtain⟨n',g,⟨es',cl',hc,_⟩,_⟩:=h.zD;refine⟨?_,?_⟩
 ·rintro rfl;rw[h.head]at hm;cases hm
 ·rintro rfl;rw[h.head]at hc;cases hc
theorem uI.grow{w J:qo}{nb b c:Nat}{L:List En}(h:uI w nb b c L)(k:Below w.heap.size w J):uI J nb b c L:=
 ⟨(k.block nb h.lt.1).trans h.head,by obtain⟨n,hm⟩:=h.map;exact⟨n,an.ag hm k⟩,by obtain⟨n,g,hm,hg⟩:=h.zD;exact⟨n,g,an.ag hm k,hg⟩,h.cV,h.bc⟩
theorem uI.only{w J:qo}{nb b c x:Nat}{L:List En}(h:uI w nb b c L)(k:ax x w J)(h1:nb≠x)(h2:b≠x)(h3:c≠x):uI J nb b c L:=
 ⟨ax.heap k h.head h1,by obtain⟨n,hm⟩:=h.map;exact⟨n,an.only hm k h2⟩,by obtain⟨n,g,hm,hg⟩:=h.zD;exact⟨n,g,an.only hm k h3,hg⟩,h.cV,h.bc⟩
theorem uI.m0{w:qo}{nb b c:Nat}{L:List En}(h:uI w nb b c L):w.cell? ⟨nb,0,none⟩=some (.map (some b))∧w.cell? ⟨nb,1,none⟩=some (.map (some c)):=
 ⟨(aJ h.head 0),(aJ h.head 1)⟩
structure bU(b c:Nat)(w J:qo):Prop where
 os:J.os=w.os
 tape:J.tape=w.tape
 output:J.output=w.output
 size:w.heap.size≤J.heap.size
 block: ∀k,k<w.heap.size→k≠b→k≠c→J.heap[k]? =w.heap[k]?
theorem bU.refl(b c:Nat)(w:qo):bU b c w w:=⟨rfl,rfl,rfl,Nat.le_refl _,fun _ _ _ _=>rfl⟩
theorem bU.left{b c:Nat}{w J:qo}(h:ax b w J):bU b c w J:=⟨h.os,h.tape,h.output,h.size,fun k hk h1 _=>h.block k hk (fun e=>h1 (by injection e))⟩
theorem bU.right{b c:Nat}{w J:qo}(h:ax c w J):bU b c w J:=⟨h.os,h.tape,h.output,h.size,fun k hk _ h1=>h.block k hk (fun e=>h1 (by injection e))⟩
theorem bU.trans{b c:Nat}{w x y:qo}(h:bU b c w x)(k:bU b c x y):bU b c w y:=
 ⟨k.os.trans h.os,k.tape.trans h.tape,k.output.trans h.output,qM h.size k.size,fun i hi h1 h2=>(k.block i (xH hi h.size) h1 h2).trans (h.block i hi h1 h2)⟩
theorem bU.heap{b c x:Nat}{w J:qo}{o:Obj}(h:bU b c w J)(hx:w.heap[x]? =some o)(h1:x≠b)(h2:x≠c):J.heap[x]? =some o:=(h.block x (qK hx) h1 h2).trans hx
theorem bU.below{b c B:Nat}{w J:qo}(h:bU b c w J)(hb:B≤b)(hc:B≤c)(hw:B≤w.heap.size):Below B w J:=
 ⟨h.os,h.tape,h.output,h.size,fun k hk=>h.block k (xH hk hw) Y Y⟩
theorem lO(w:qo):qw prog 115 #[] w fun e J=>e=qm (qi (some ⟨w.heap.size+2,0,none⟩))∧uI J (w.heap.size+2) w.heap.size (w.heap.size+1) []∧Below w.heap.size w J:=by
 have Ij:= @run_makeMap prog;have H0:qy (abK (w.alloc (.map #[] 0)) w.heap.size 0 (fun _=>none)):=Hd (an.made w)
 have H1:qy (SP ((w.alloc (.map #[] 0)).alloc (.map #[] 0)) (w.heap.size+1) 0 (fun _=>none)):=Hd (by
  have:=an.made (mk:=kg) (ok:=Bt) (mv:=kg) (w.alloc (.map #[] 0));rw[show(w.alloc (.map #[] 0)).heap.size=w.heap.size+1 by simp]at this;exact this)
 go_enter func115,ntmps115;go_wp2
 go_ret;refine⟨rfl,⟨?_,⟨0,an.congr (an.ag (an.ag H0.o (aa _ _)) (aa _ _)) (by funext x;simp[lk,Sl.look])⟩,⟨0,_,an.ag H1.o (aa _ _),fun d=>rfl⟩,KW,Y⟩,ai (ai (aa w _) (aa _ _)) (aa _ _)⟩;have:=qA ((w.alloc (.map #[] 0)).alloc (.map #[] 0)) (.cells #[.map (some w.heap.size),.map (some (w.heap.size+1))] 258);rw[show((w.alloc (.map #[] 0)).alloc (.map #[] 0)).heap.size=w.heap.size+2 by simp]at this;exact this
def yg(L:List En)(d:Int)(s:ByteArray):Int:=(lk L (d,s)).getD 0
def Gl(L:List En)(d:Int)(s:ByteArray):Bool:=(lk L (d,s)).isSome
theorem gQ(nb b c:Nat)(L:List En)(d:Int)(s:ByteArray)(bI:Ke (d,s))(w:qo)(h:uI w nb b c L):
 qw prog 323 #[qi (some ⟨nb,0,none⟩),U Z d,qg s] w fun e J=>e=qm (.tuple #[U Z (yg L d s),.bool (Gl L d s)])∧w=J:=by
 obtain⟨N,hm⟩:=h.map;have HM:=Hd hm;have HK:=Hd bI;obtain⟨h0,_⟩:=h.m0;clear h hm bI
 cases hl:lk L (d,s)with
 |none=>
  have HG:=Hd hl;have HE:qy (yg L d s=0∧Gl L d s=false):=Hd (by unfold yg Gl;rw[hl];exact⟨rfl,rfl⟩);clear hl;go_enter func323,ntmps323;go_wp2_with(at_lookup;go_loud (refine bE _ rfl _ _ 256 3 true rfl SO underlying256 _ (dR _) b N _ HM.o (by rfl) (d,s) HK.o (by rfl) HG.o ?_;unfold kg;simp only[if_true]))
  go_ret2
  exact⟨by rw[HE.o.1,HE.o.2];rfl,rfl⟩
 |some i=>
  have HG:=Hd hl;have HE:qy (yg L d s=i∧Gl L d s=true):=Hd (by unfold yg Gl;rw[hl];exact⟨rfl,rfl⟩);clear hl;go_enter func323,ntmps323;go_wp2_with(at_lookup;go_loud (refine bD _ rfl _ _ 256 3 true rfl SO underlying256 _ (dR _) b N _ HM.o (by rfl) (d,s) HK.o (by rfl) i HG.o (U Z i) rfl ?_;simp only[if_true]))
  go_ret2
  exact⟨by rw[HE.o.1,HE.o.2];rfl,rfl⟩
theorem Gm{g:Int→Option Int}{L:List En}(h: ∀d,(g d).getD 0=cT L d)(d:Int):((g d).map kg).getD (kg 0)=U Z (cT L d:Nat):=by
 rw[←h d];cases g d<;>rfl
theorem jB(nb b c:Nat)(L:List En)(d:Int)(bI:Bt d)(w:qo)(h:uI w nb b c L):
 qw prog 445 #[qi (some ⟨nb,0,none⟩),U Z d] w fun e J=>e=qm (U Z (cT L d:Nat))∧w=J:=by
 obtain⟨N,g,hm,hg⟩:=h.zD;have HM:=Hd hm;have HK:=Hd bI;have HC:=Hd (Gm hg d);obtain⟨_,h1⟩:=h.m0;clear h hm bI hg;go_enter func445,ntmps445;go_wp2_with(at_lookup;go_loud (refine cP _ rfl _ _ 241 3 false rfl FI underlying241 _ (dR _) c N _ HM.o (by rfl) d HK.o (by rfl) ?_;simp only[xK,if_false];rw[HC.o]))
 go_ret;exact⟨rfl,rfl⟩
def Ec(L:List En)(d:Int)(s:ByteArray):Int:=if(lk L (d,s)).isSome then 0 else 60
theorem uH.filter{L:List En}(h:uH L)(p:En→Bool):uH (L.filter p) where
 dU:=Sl.eD h.dU p
 fits a ha:=h.fits a (List.mem_filter.1 ha).1
 Ah d:=by
  refine qM ?_ (h.Ah d);unfold cT;exact(List.filter_sublist).countP_le
theorem Po{g:Int→Option Int}{L L':List En}{d:Int}{v:Int}(h: ∀d,(g d).getD 0=cT L d)(hv:v=cT L' d)(ho: ∀x,x≠d→cT L' x=cT L x): ∀x,((fun z=>if z=d then some v else g z) x).getD 0=cT L' x:=by
 intro x;show(if x=d then some v else g x).getD 0=_;by_cases e:x=d
 ·subst e;rw[qH rfl];exact hv
 ·rw[qB e,h,ho x e]
theorem Pp(nb b c:Nat)(L:List En)(d:Int)(s:ByteArray)(bI:Ke (d,s))(w:qo)(h:uI w nb b c L):
 qw prog 453 #[qi (some ⟨nb,0,none⟩),U Z d,qg s] w fun e J=>e=qm (U Z (Ec L d s))∧uI J nb b c (del L (d,s))∧bU b c w J∧J.heap.size=w.heap.size:=by
 have HH:=Hd h;obtain⟨N,hm⟩:=h.map;obtain⟨N2,g,hc,hg⟩:=h.zD;have HM:=Hd hm;have HC:=Hd hc;have HG:=Hd hg;have HK:=Hd bI;have KX:qy (Bt d):=Hd bI.1;obtain⟨h0,h1⟩:=h.m0;have bd:=Hd h.ne;have YH:=Hd h.bc;clear h hm bI hc hg
 cases hl:lk L (d,s)with
 |none=>
  have HE:qy (yg L d s=0∧Gl L d s=false):=Hd (by unfold yg Gl;rw[hl];exact⟨rfl,rfl⟩);have yY:qy (Ec L d s=60):=Hd (by unfold Ec;rw[hl];rfl);have HD:=Hd (Nb hl);clear hl;go_enter func453,ntmps453;go_wp2_with(go_at_call 323;refine(gQ _ _ _ _ _ _ HK.o _ HH.o).mono ?_;rintro e w2 ⟨rfl,rfl⟩;rw[HE.o.1,HE.o.2])
  go_ret
  exact⟨aO yY.o.symm,by rw[HD.o];exact HH.o,bU.refl _ _ _,rfl⟩
 |some i=>
  have HE:qy (yg L d s=i∧Gl L d s=true):=Hd (by unfold yg Gl;rw[hl];exact⟨rfl,rfl⟩);have yY:qy (Ec L d s=0):=Hd (by unfold Ec;rw[hl];rfl);have hcd:=SA HH.o.cV.dU hl;have vi:1≤cT L d:=by have:=hcd d;rw[qH rfl]at this;omega
  have acF:=HH.o.cV.Ah d;have Ed:qy (cT (del L (d,s)) d=cT L d-1∧ ∀x,x≠d→cT (del L (d,s)) x=cT L x):=Hd ⟨by have:=hcd d;rw[qH rfl]at this;omega,fun x hx=>by have:=hcd x;rw[qB (Ne.symm hx)]at this;omega⟩;have HCO:=Hd (Gm HG.o d);have hw1:IntKind.i64.wrap (((cT L d:Nat):Int)-1)=((cT L d:Nat):Int)-1:=qO _ Y;have HCL:=Hd vi;clear hl hcd vi acF;go_enter func453,ntmps453
  go_wp2_with(first
   |(go_at_call 323;refine(gQ _ _ _ _ _ _ HK.o _ HH.o).mono ?_;rintro e w2 ⟨rfl,rfl⟩;rw[HE.o.1,HE.o.2])
   |(at_delete;go_loud (refine eS _ rfl _ _ 256 3 rfl SO underlying256 b N _ HM.o (by rfl) (d,s) HK.o (by rfl) ?_;intro w5 hm5 ho5 hs5;have ou:=Hd hm5;have eV:=Hd ho5;have br:=Hd hs5;have dP:qy (SP w5 c N2 g):=Hd (an.only HC.o ho5 (fun e=>YH.o e.symm));have vn:=ax.heap ho5 HH.o.head bd.o.1;clear h0 h1;obtain⟨h0,_⟩:=aC vn 0 qc;obtain⟨h1,_⟩:=aC vn 1 qc;simp only[gA,gZ,gS]at h0 h1;have ki:=Hd vn;clear hm5 ho5 hs5 vn))
   |(at_lookup;go_loud (refine cP _ rfl _ _ 241 3 false rfl FI underlying241 _ (dR _) c N2 _ dP.o (by rfl) d KX.o (by rfl) ?_;simp only[xK,if_false];rw[HCO.o]))
   |(at_mapUpdate;go_loud (refine bl _ rfl _ _ _ 241 3 rfl FI underlying241 c N2 _ dP.o (by rfl) d (((cT L d:Nat):Int)-1) KX.o (by rfl) (by rfl) ?_;intro w6 hm6 ho6 hs6;have Wi:=Hd hm6;have iD:=Hd ho6;have dT:=Hd hs6;clear hm6 ho6 hs6)))
  go_ret;refine⟨aO yY.o.symm,⟨?_,⟨N,an.congr (an.only ou.o iD.o YH.o) (Xz HH.o.cV.dU (d,s)).symm⟩,⟨N2+1,_,Wi.o,Po HG.o (by have:=HCL.o;rw[Ed.o.1];omega) Ed.o.2⟩,HH.o.cV.filter _,YH.o⟩,(bU.left eV.o).trans (bU.right iD.o),dT.o.trans br.o⟩;exact ax.heap iD.o ki.o bd.o.2
def YI(d i:Int):Bool:=decide ((1≤d∧d≤2147483647)∧1≤i∧i≤2147483647)
def va(L:List En)(d:Int)(s:ByteArray)(i:Int):Int:=if cj s.data.toList=true then if YI d i=true then if(lk L (d,s)).isSome then 61 else if 64≤cT L d then 67 else 0 else 1 else 11
def tQ(L:List En)(d:Int)(s:ByteArray)(i:Int):List En:=if va L d s i=0 then ins L ⟨d,s,i⟩else L
theorem uH.ins{L:List En}(h:uH L){d i:Int}{s:ByteArray}(hn:cj s.data.toList=true)(hr:YI d i=true)(hl:lk L (d,s)=none)(hc:cT L d<64):uH (ins L ⟨d,s,i⟩) where
 dU:=Sl.kW Na h.dU ((Bo L _).1 hl)
 fits a ha:=by
  have hb:=xr hr;rcases(Sl.rE (key:=En.key) (kl:=kl) L _ a).1 ha with rfl|ha
  ·exact⟨hn,hb.1.1,hb.1.2,hb.2.1,hb.2.2⟩
  ·exact h.fits a ha
 Ah x:=by
  rw[Bp];have:=h.Ah x;by_cases e:d=x
  ·subst e;simp;omega
  ·simp[e];exact this
theorem TW(nb b c:Nat)(L:List En)(d:Int)(s:ByteArray)(i:Int)(hs:s.size≤9223372036854775807)(bI:Ke (d,s))(w:qo)(h:uI w nb b c L):
 qw prog 383 #[qi (some ⟨nb,0,none⟩),U Z d,qg s,U Z i] w fun e J=>e=qm (U Z (va L d s i))∧uI J nb b c (tQ L d s i)∧bU b c w J∧J.heap.size=w.heap.size:=by
 have HH:=Hd h;obtain⟨N,hm⟩:=h.map;obtain⟨N2,g,hc,hg⟩:=h.zD;have HM:=Hd hm;have HC:=Hd hc;have HG:=Hd hg;have HK:=Hd bI;have KX:qy (Bt d):=Hd bI.1;obtain⟨h0,h1⟩:=h.m0;have bd:=Hd h.ne;have YH:=Hd h.bc;have HCO:=Hd (Gm hg d);have HS:=Hd hs;clear h hm bI hc hg hs
 cases hn:cj s.data.toList with
 |false=>
  have HN:=Hd hn;have yY:qy (va L d s i=11):=Hd (by unfold va;rw[hn];rfl);clear hn;go_enter func383,ntmps383
  go_wp2_with(first
   |(go_at_call 323;refine(gQ _ _ _ _ _ _ HK.o _ HH.o).mono ?_;rintro e w2 ⟨rfl,rfl⟩)
   |(go_at_call 164;refine(PathW.jK _ HS.o _).mono ?_;rintro e w2 ⟨rfl,rfl⟩;rw[HN.o]))
  go_ret
  exact⟨aO yY.o.symm,by unfold tQ;rw[yY.o];exact HH.o,bU.refl _ _ _,rfl⟩
 |true=>
  have HN:=Hd hn;by_cases hr:YI d i=true
  ·obtain⟨⟨r1,r2⟩,r3,r4⟩:=xr hr;have HR:=Hd hr
   cases hl:lk L (d,s)with
   |some j=>
    have HE:qy (yg L d s=j∧Gl L d s=true):=Hd (by unfold yg Gl;rw[hl];exact⟨rfl,rfl⟩);have yY:qy (va L d s i=61):=Hd (by unfold va;rw[qH hn,qH hr,hl];rfl);clear hn hl hr;go_enter func383,ntmps383
    go_wp2_with(first
     |(go_at_call 323;refine(gQ _ _ _ _ _ _ HK.o _ HH.o).mono ?_;rintro e w2 ⟨rfl,rfl⟩;rw[HE.o.1,HE.o.2])
     |(go_at_call 164;refine(PathW.jK _ HS.o _).mono ?_;rintro e w2 ⟨rfl,rfl⟩;rw[HN.o]))
    go_ret
    exact⟨aO yY.o.symm,by unfold tQ;rw[yY.o];exact HH.o,bU.refl _ _ _,rfl⟩
   |none=>
    have HE:qy (yg L d s=0∧Gl L d s=false):=Hd (by unfold yg Gl;rw[hl];exact⟨rfl,rfl⟩);have HLK:=Hd hl;by_cases sv:64≤cT L d
    ·have yY:qy (va L d s i=67):=Hd (by unfold va;rw[qH hn,qH hr,hl,qB qc,qH sv]);have uJ:(64:Int)≤(cT L d:Nat):=Y;clear hn hl hr sv;go_enter func383,ntmps383
     go_wp2_with(first
      |(go_at_call 323;refine(gQ _ _ _ _ _ _ HK.o _ HH.o).mono ?_;rintro e w2 ⟨rfl,rfl⟩;rw[HE.o.1,HE.o.2])
      |(go_at_call 164;refine(PathW.jK _ HS.o _).mono ?_;rintro e w2 ⟨rfl,rfl⟩;rw[HN.o])
      |(at_lookup;go_loud (refine cP _ rfl _ _ 241 3 false rfl FI underlying241 _ (dR _) c N2 _ HC.o (by rfl) d KX.o (by rfl) ?_;simp only[xK,if_false];rw[HCO.o])))
     go_ret;exact⟨aO yY.o.symm,by unfold tQ;rw[yY.o];exact HH.o,bU.refl _ _ _,rfl⟩
    ·have yY:qy (va L d s i=0):=Hd (by unfold va;rw[qH hn,qH hr,hl,qB qc,qB sv]);have HGI:=Hd (HH.o.cV.ins hn hr hl Y);have Ee:qy (tQ L d s i=ins L ⟨d,s,i⟩):=Hd (by unfold tQ;rw[qH yY.o]);have uJ:((cT L d:Nat):Int)<64:=Y;have HCI:qy (cT (ins L ⟨d,s,i⟩) d=cT L d+1∧ ∀x,x≠d→cT (ins L ⟨d,s,i⟩) x=cT L x):=Hd ⟨by rw[Bp];simp,fun x hx=>by rw[Bp];simp[Ne.symm hx]⟩;clear hn hl hr sv;go_enter func383,ntmps383
     go_wp2_with(first
      |(go_at_call 323;refine(gQ _ _ _ _ _ _ HK.o _ HH.o).mono ?_;rintro e w2 ⟨rfl,rfl⟩;rw[HE.o.1,HE.o.2])
      |(go_at_call 164;refine(PathW.jK _ HS.o _).mono ?_;rintro e w2 ⟨rfl,rfl⟩;rw[HN.o])
      |(at_lookup;(have hz:=dP.o);go_loud (refine cP _ rfl _ _ 241 3 false rfl FI underlying241 _ (dR _) c N2 _ hz (by rfl) d KX.o (by rfl) ?_;clear hz;simp only[xK,if_false];rw[HCO.o]))
      |(at_lookup;go_loud (refine cP _ rfl _ _ 241 3 false rfl FI underlying241 _ (dR _) c N2 _ HC.o (by rfl) d KX.o (by rfl) ?_;simp only[xK,if_false];rw[HCO.o]))
      |(at_mapUpdate;(have hz:=dP.o);go_loud (refine bl _ rfl _ _ _ 241 3 rfl FI underlying241 c N2 _ hz (by rfl) d (((cT L d:Nat):Int)+1) KX.o (by rfl) (by rfl) ?_;clear hz;intro w6 hm6 ho6 hs6;have Wi:=Hd hm6;have iD:=Hd ho6;have dT:=Hd hs6;clear hm6 ho6 hs6))
      |(at_mapUpdate;go_loud (refine bl _ rfl _ _ _ 256 3 rfl SO underlying256 b N _ HM.o (by rfl) (d,s) i HK.o (by rfl) (by rfl) ?_;intro w5 hm5 ho5 hs5;have ou:=Hd hm5;have eV:=Hd ho5;have br:=Hd hs5;have dP:qy (SP w5 c N2 g):=Hd (an.only HC.o ho5 (fun e=>YH.o e.symm));have vn:=ax.heap ho5 HH.o.head bd.o.1;clear h0 h1;obtain⟨h0,_⟩:=aC vn 0 qc;obtain⟨h1,_⟩:=aC vn 1 qc;simp only[gA,gZ,gS]at h0 h1;have ki:=Hd vn;clear hm5 ho5 hs5 vn)))
     go_ret;refine⟨aO yY.o.symm,?_,(bU.left eV.o).trans (bU.right iD.o),dT.o.trans br.o⟩;rw[Ee.o];exact⟨ax.heap iD.o ki.o bd.o.2,⟨N+1,an.congr (an.only ou.o iD.o YH.o) (Xy HH.o.cV.dU (a:=⟨d,s,i⟩) HLK.o).symm⟩,⟨N2+1,_,Wi.o,Po HG.o (by rw[HCI.o.1];simp) HCI.o.2⟩,HGI.o,YH.o⟩
  ·have yY:qy (va L d s i=1):=Hd (by unfold va;rw[qH hn,qB hr])
   have ff:(d<1)∨(1≤d∧2147483647<d)∨((1≤d∧d≤2147483647)∧i<1)∨((1≤d∧d≤2147483647)∧1≤i∧2147483647<i):=by
    have hm': ¬((1≤d∧d≤2147483647)∧1≤i∧i≤2147483647):=fun h=>hr (qR h);omega
   clear hn hr;rcases ff with q1|⟨q1,q2⟩|⟨⟨q1,q2⟩,q3⟩|⟨⟨q1,q2⟩,q3,q4⟩
   all_goals
    go_enter func383,ntmps383
    go_wp2_with(first
     |(go_at_call 323;refine(gQ _ _ _ _ _ _ HK.o _ HH.o).mono ?_;rintro e w2 ⟨rfl,rfl⟩)
     |(go_at_call 164;refine(PathW.jK _ HS.o _).mono ?_;rintro e w2 ⟨rfl,rfl⟩;rw[HN.o]))
    go_ret;exact⟨aO yY.o.symm,by unfold tQ;rw[yY.o];exact HH.o,bU.refl _ _ _,rfl⟩
