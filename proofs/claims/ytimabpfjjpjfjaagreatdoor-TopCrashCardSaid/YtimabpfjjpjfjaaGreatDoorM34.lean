/- Part 34 of the texts that the law's walk needs. -/
import Derived.Test.YtimabpfjjpjfjaaGreatDoorM10
import Derived.Test.YtimabpfjjpjfjaaGreatDoorM33
set_option maxHeartbeats 3200000
set_option maxRecDepth 100000
set_option linter.all false
open Go renaming World→qo
open Go.Value renaming int→U,pointer→qi,slice→qh
open Go.IntKind renaming i64→Z
open Go.Ending renaming returned→qm
open Go.RowKit renaming Below→qz,Hid→qy
open Go.Obj renaming cells→qn
namespace Go.Proofs.YtimabpfjjpjfjaaGreatDoor
open Tryz
namespace bq
open Go.RowKit cN
theorem WW{B:Nat}{oa:Option Addr}{l:List Ha}{w:qo}(h:uX fH 3 B oa l w){i:Nat}{x:Ha}(hx:l[i]? =some x):
 ∃a,oa=some a∧a.block<B∧w.cell? (a.add (i*3))=some (U Z x.c)∧w.cell? ⟨(a.add (i*3)).block,(a.add (i*3)).off+1,none⟩=some (U Z x.n)∧w.cell? ⟨(a.add (i*3)).block,(a.add (i*3)).off+2,none⟩=some (U Z x.i):=by
 obtain⟨a,h1,h2,h3⟩:=h i x hx;exact⟨a,h1,h2,h3 0 _ rfl,h3 1 _ rfl,h3 2 _ rfl⟩
theorem jx{α:Type}{l:List α}{k:Nat}{x:α}(h:l[k]? =some x):l.take (k+1)=l.take k++[x]:=by
 rw[xA,h];rfl
theorem GL{L:List Ha}{k:Nat}{x:Ha}(h:L[k]? =some x)(c:Int):count (L.take (k+1)) c=count (L.take k) c+if x.c=c then 1 else 0:=by
 rw[jx h];unfold count;rw[List.countP_append];by_cases e:x.c=c<;>simp[e]
theorem count_le(L:List Ha)(c:Int):count L c≤L.length:=List.countP_le_length
theorem jB(hb b:Nat)(L:List Ha)(ls:List Int)(c:Int)(w:qo)(h:lT w hb b L ls):
 Calls prog 429 #[qi (some ⟨hb,0,none⟩),U Z c] w fun e J=>e=qm (U Z (count L c:Nat))∧qz w.heap.size w J:=by
 have HH:=Hd h;have hlen:=h.cV.len;clear h;go_enter func429,ntmps429;go_wp2_with(go_at_call 272;refine(vt _ _ _ _ _ HH.o).mono ?_;rintro e w1 ⟨v,rfl,hr,hb1⟩;obtain⟨oa,cap,rfl,hc,hc2,iL⟩:=hr.form;have HP:=Hd (hr.sU GI Y);have cq:=Hd hb1;clear hr hb1 iL)
 go_loopw [5,11] (fun n i wr=> ∃k:Nat,k≤L.length∧i=U Z (k:Int)∧n=U Z (count (L.take k) c:Nat)∧qz w1.heap.size w1 wr) (fun _ i _=>((L.length:Int)-intOf i).toNat)
 case atStart=>exact⟨0,Y,rfl,rfl,Below.refl _ _⟩
 case round=>
  obtain⟨k,hk,rfl,rfl,dz⟩:=hrel;have HB:=Hd dz;clear dz;by_cases aN:k<L.length
  ·obtain⟨x,hx⟩: ∃x,L[k]? =some x:=⟨_,qN aN⟩;obtain⟨a,rfl,oW,c0,c1,c2⟩:=WW (HP.o.below HB.o) hx;have HC:=Hd (GL hx c);have vi:=count_le (L.take k) c;have acF:(L.take k).length≤k:=List.length_take_le _ _;generalize count (L.take k) c=m at HC vi⊢;clear hx;by_cases he:x.c=c
   ·have hd:(x.c==c)=true:=by rw[beq_iff_eq];exact he
    have HM:qy (count (L.take (k+1)) c=m+1):=Hd (by rw[HC.o,qH he]);clear he;go_wp2_with fail
    exact⟨⟨k+1,Y,qc,by rw[HM.o];simp,ai HB.o (aa wr _)⟩,by simp[intOf];omega⟩
   ·have hd:(x.c==c)=false:=by simpa using he
    have HM:qy (count (L.take (k+1)) c=m):=Hd (by rw[HC.o,qB he];rfl);clear he;go_wp2_with fail
    exact⟨⟨k+1,Y,qc,by rw[HM.o],ai HB.o (aa wr _)⟩,by simp[intOf];omega⟩
  ·obtain rfl:k=L.length:=by omega
   rw[List.take_length];go_wp2_with fail
   go_ret;exact⟨rfl,ai cq.o HB.o⟩
def BZ(c n i:Int):Bool:=decide ((0≤c∧c<8)∧0≤n∧n<16384∧1≤i∧i≤2147483647)
def cU(L:List Ha)(c n i:Int):Int:=if BZ c n i then if(cN.look L (c,n)).isSome then 61 else if 16≤count L c then 3 else 0 else 1
def di(L:List Ha)(c n i:Int):List Ha:=if cU L c n i=0 then ins L ⟨c,n,i⟩else L
theorem LM(L:List Ha)(a:Ha)(c:Int):count (ins L a) c=count L c+if a.c=c then 1 else 0:=by
 have h:count (low L a.key++high L a.key) c=count L c:=by rw[jF]
 rw[←h];unfold ins count;simp only[List.countP_append,List.countP_cons,qC];omega
theorem pn.ins{L:List Ha}{ls:List Int}(h:pn L ls){c n i:Int}(hm:BZ c n i=true)(hn:cN.look L (c,n)=none)(hc:count L c<16):pn (ins L ⟨c,n,i⟩) ls where
 dU:=kW h.dU hn
 fits a ha:=by
  have hb:=xr hm;rcases(rE _ _ _).1 ha with rfl|ha
  ·simp only;omega
  ·exact h.fits a ha
 Ah d:=by
  rw[LM];have:=h.Ah d;by_cases e:c=d
  ·subst e;simp;omega
  ·simp[e];exact this
 l8:=h.l8
 lb:=h.lb
theorem rP(hb b:Nat)(L:List Ha)(ls:List Int)(c n i:Int)(bI:lQ (c,n))(w:qo)(h:lT w hb b L ls):
 Calls prog 384 #[qi (some ⟨hb,0,none⟩),U Z c,U Z n,U Z i] w fun e J=>e=qm (U Z (cU L c n i))∧lT J hb b (di L c n i) ls∧ax b w J:=by
 have HH:=Hd h;by_cases hm:BZ c n i=true
 ·obtain⟨q0,q1,q2,q3,q4⟩:=xr hm;have HC:qy (Sm c=true):=Hd (qR q0);have UP:=Hd hm;obtain⟨N,hmp⟩:=h.map;have HM:=Hd hmp;have HK:=Hd bI;have h0:=h.m0;clear h hmp bI hm
  cases hl:cN.look L (c,n)with
  |some j=>
   have HG:=Hd hl;have HE:qy (cU L c n i=61):=Hd (by unfold cU;rw[qH UP.o,hl];rfl);clear hl;go_enter func384,ntmps384
   go_wp2_with(first
    |(go_at_call 340;refine(gy _ _ HC.o _).mono ?_;rintro e w2 ⟨rfl,rfl⟩)
    |(at_lookup;go_loud (refine bD _ rfl _ _ 215 3 true rfl wh underlying215 _ (dR _) b N _ HM.o (by rfl) (c,n) HK.o (by rfl) j HG.o (U Z j) rfl ?_;simp only[if_true])))
   go_ret
   exact⟨aO HE.o.symm,by unfold di;rw[HE.o];exact HH.o,ax.refl _ _⟩
  |none=>
   have HG:=Hd hl;by_cases sv:16≤count L c
   ·have HE:qy (cU L c n i=3):=Hd (by unfold cU;rw[qH UP.o,hl,qH sv];rfl);have uJ:(16:Int)≤(count L c:Nat):=Y;clear hl sv;go_enter func384,ntmps384
    go_wp2_with(first
     |(go_at_call 340;refine(gy _ _ HC.o _).mono ?_;rintro e w2 ⟨rfl,rfl⟩)
     |(at_lookup;go_loud (refine bE _ rfl _ _ 215 3 true rfl wh underlying215 _ (dR _) b N _ HM.o (by rfl) (c,n) HK.o (by rfl) HG.o ?_;unfold kg;simp only[if_true]))
     |(go_at_call 429;refine(jB _ _ _ _ _ _ HH.o).mono ?_;rintro e w3 ⟨rfl,hb3⟩;have cu:=Hd hb3;clear hb3))
    go_ret;exact⟨aO HE.o.symm,by unfold di;rw[HE.o];exact HH.o.grow cu.o,ax.af cu.o⟩
   ·have HE:qy (cU L c n i=0):=Hd (by unfold cU;rw[qH UP.o,hl,qB sv];rfl);have uJ:((count L c:Nat):Int)<16:=Y;have HCT:=Hd sv;clear hl sv;go_enter func384,ntmps384
    go_wp2_with(first
     |(go_at_call 340;refine(gy _ _ HC.o _).mono ?_;rintro e w2 ⟨rfl,rfl⟩)
     |(at_lookup;go_loud (refine bE _ rfl _ _ 215 3 true rfl wh underlying215 _ (dR _) b N _ HM.o (by rfl) (c,n) HK.o (by rfl) HG.o ?_;unfold kg;simp only[if_true]))
     |(go_at_call 429;refine(jB _ _ _ _ _ _ HH.o).mono ?_;rintro e w3 ⟨rfl,hb3⟩;have pD:=Hd (HH.o.grow hb3);have HM3:qy (FJ w3 b N (cN.look L)):=Hd (an.ag HM.o hb3);have h03:=pD.o.m0;have cu:=Hd hb3;clear hb3)
     |(at_mapUpdate;go_loud (refine bl _ rfl _ _ _ 215 3 rfl wh underlying215 b N _ HM3.o (by rfl) (c,n) i HK.o (by rfl) (by rfl) ?_;intro w5 hm5 ho5 hs5;have ou:=Hd hm5;have eV:=Hd ho5;clear hm5 ho5 hs5)))
    go_ret;have hg:=HH.o.cV;refine⟨aO HE.o.symm,?_,(ax.af cu.o).trans eV.o⟩;unfold di;rw[qH HE.o];exact⟨ax.heap eV.o pD.o.head pD.o.ne,⟨N+1,an.congr ou.o (vH hg.dU (a:=⟨c,n,i⟩) HG.o).symm⟩,hg.ins UP.o HG.o (by have:=HCT.o;omega)⟩
 ·have HE:qy (cU L c n i=1):=Hd (by unfold cU;rw[qB hm])
  have ff:(Sm c=false)∨(Sm c=true∧n<0)∨(Sm c=true∧0≤n∧16384≤n)∨(Sm c=true∧0≤n∧n<16384∧i<1)∨(Sm c=true∧0≤n∧n<16384∧1≤i∧2147483647<i):=by
   have hm': ¬((0≤c∧c<8)∧0≤n∧n<16384∧1≤i∧i≤2147483647):=fun h=>hm (qR h)
   cases vi:Sm c with
   |false=>exact .inl rfl
   |true=>have:=xr vi;right;simp only[true_and];omega
  clear hm h;rcases ff with hc|⟨hc,q1⟩|⟨hc,q1,q2⟩|⟨hc,q1,q2,q3⟩|⟨hc,q1,q2,q3,q4⟩
  all_goals
   have HC:=Hd hc;clear hc;go_enter func384,ntmps384;go_wp2_with(go_at_call 340;refine(gy _ _ HC.o _).mono ?_;rintro e w2 ⟨rfl,rfl⟩)
   go_ret;exact⟨aO HE.o.symm,by unfold di;rw[HE.o];exact HH.o,ax.refl _ _⟩
def jo(ls:List Int)(t:Int)(a:Ha):Bool:=decide (ls.getD a.c.toNat 0<t)
def yC(L:List Ha)(D:List Ha)(z:Int×Int):Option Int:=if z∈D.map Ha.key then none else cN.look L z
theorem QH(L:List Ha):yC L []=cN.look L:=by funext z;simp[yC]
theorem LN(L D:List Ha)(x:Ha):(fun z=>if z=x.key then none else yC L D z)=yC L (D++[x]):=by
 funext z;unfold yC;by_cases h:z=x.key
 ·rw[qH h,qH (by simp[h])]
 ·rw[qB h];have:z∈(D++[x]).map Ha.key↔z∈D.map Ha.key:=by simp[h]
  by_cases h2:z∈D.map Ha.key
  ·rw[qH h2,qH (this.2 h2)]
  ·rw[qB h2,qB (fun h3=>h2 (this.1 h3))]
theorem QI{L:List Ha}(hL:bg L)(p:Ha→Bool):yC L (L.filter p)=cN.look (L.filter fun a=> !p a):=by
 funext z;rw[um hL];unfold yC
 cases hl:cN.look L z with
 |none=>simp
 |some i=>
  have hm:=(dc hL z i).1 hl;by_cases hp:p ⟨z.1,z.2,i⟩=true
  ·have hin:z∈(L.filter p).map Ha.key:=List.mem_map.2 ⟨_,List.mem_filter.2 ⟨hm,hp⟩,rfl⟩;rw[qH hin];simp[Option.filter,hp]
  ·rw[qB]
   ·simp[Option.filter,hp]
   ·intro h;obtain⟨a,ha,hk⟩:=List.mem_map.1 h;obtain⟨h1,h2⟩:=List.mem_filter.1 ha;have:a=⟨z.1,z.2,i⟩:=key_inj hL h1 hm (by rw[hk];rfl);rw[this]at h2;exact hp h2
theorem LO{L:List Ha}{k:Nat}{x:Ha}(h:L[k]? =some x)(p:Ha→Bool):(L.take (k+1)).filter p=(L.take k).filter p++if p x=true then [x]else []:=by
 rw[jx h,List.filter_append];by_cases e:p x=true
 ·rw[qH e,List.filter_cons_of_pos e];rfl
 ·rw[qB e,List.filter_cons_of_neg e];rfl
theorem adQ{b:Nat}{a w x:qo}(h:ax b a w)(k:qz a.heap.size w x):ax b a x:=
 ⟨k.os.trans h.os,k.tape.trans h.tape,k.output.trans h.output,qM h.size k.size,fun i hi bd=>(k.block i hi).trans (h.block i hi bd)⟩
theorem GM(hb b:Nat)(L:List Ha)(ls:List Int)(t:Int)(w:qo)(h:lT w hb b L ls):
 Calls prog 416 #[qi (some ⟨hb,0,none⟩),U Z t] w fun e J=> ∃v,e=qm v∧RowK 400 fH 3 w.heap.size J v (L.filter (jo ls t))∧lT J hb b (L.filter fun a=> !jo ls t a) ls∧ax b w J:=by
 obtain⟨i0,hi,hz0,hz1,hz2⟩:=info_parts EE;have HH:=Hd h;obtain⟨alq,alr⟩:=h.lt;have lS:=Hd h.ne;have hlen:=h.cV.len;have Gp:=Hd h.cV.fits;clear h;go_enter func416,ntmps416;go_wp2_with(go_at_call 272;refine(vt _ _ _ _ _ HH.o).mono ?_;rintro e w1 ⟨v,rfl,hr,hb1⟩;have MN:=Hd hr;obtain⟨oa,cap,rfl,hc,hc2,iL⟩:=hr.form;have HP:=Hd (hr.sU GI Y);have cq:=Hd hb1;have HH1:=Hd (HH.o.grow hb1);clear hr hb1 iL)
 obtain⟨N,hm0⟩:=HH1.o.map;have Wq:=Hd hm0;have dZ:=Hd cq.o.size
 have ahF:qy (∀a,oa=some a→a.block≠b):=Hd (fun a e=>by
  have:=World.ownsRow.lt MN.o a.block (by rw[e];rfl);omega)
 clear hm0
 go_loopw [5,11] (fun v i wr=> ∃k:Nat,k≤L.length∧i=U Z (k:Int)∧RowK 400 fH 3 w1.heap.size wr v ((L.take k).filter (jo ls t))∧FJ wr b N (yC L ((L.take k).filter (jo ls t)))∧ax b w1 wr) (fun _ i _=>((L.length:Int)-intOf i).toNat)
 case atStart=>exact⟨0,Y,rfl,RowK.nil _ _,by simpa [QH]using Wq.o,ax.refl _ _⟩
 case round=>
  obtain⟨k,hk,rfl,aW,wU,yy⟩:=hrel;have HO:=Hd yy;have HM:=Hd wU;have hs1:=yy.size;by_cases aN:k<L.length
  ·obtain⟨x,hx⟩: ∃x,L[k]? =some x:=⟨_,qN aN⟩;have HF:=Hd (LO hx (jo ls t))
   have hlj:((L.take k).filter (jo ls t)).length≤128:=by
    have:=List.length_filter_le (jo ls t) (L.take k);have:(L.take k).length≤k:=List.length_take_le _ _;omega
   obtain⟨a,rfl,oW,c0,c1,c2⟩:=WW (HP.o.only HO.o (Nat.le_refl _) ahF.o) hx;have hfx:=Gp.o x (xp hx);obtain⟨c,hc8⟩: ∃c:Nat,x.c=c:=⟨x.c.toNat,Y⟩;have vi:c<8:=Y;have HHR:qy (lT w1 hb b L ls):=HH1;have mz:wr.heap[hb]? =some (qn (nj b ls) 218 (0,0)):=ax.heap HO.o HH1.o.head lS.o;have p0:wr.cell? ⟨hb,0,none⟩=some (.map (some b)):=by rw[qI mz];simp[nj]
   have p1:wr.cell? ⟨hb,1+c,none⟩=some (U Z (ls.getD c 0)):=by
    rw[qI mz,Nat.add_comm];have:c<ls.length:=by rw[HH.o.cV.l8];exact vi
    simp[nj,List.getD,this]
   have CB:jo ls t x=decide (ls.getD c 0<t):=by unfold jo;rw[hc8];rfl
   generalize ls.getD c 0=m at p1 CB;obtain⟨xc,xn,xi⟩:=x;simp only at hc8 hfx;subst hc8;have uJ:(c:Int)<8:=Y;have AL:hb<wr.heap.size:=by have:=dZ.o;omega
   obtain⟨oa2,dd,rfl,CJ,_,_⟩:=aW.form;have HXK:qy (lQ ((c:Int),xn)):=Hd (ov (by simp[IntKind.min,IntKind.max,IntKind.signed,IntKind.bits];omega) (by simp[IntKind.min,IntKind.max,IntKind.signed,IntKind.bits];omega));generalize(L.take k).filter (jo ls t)=Jq at aW HM HF hlj CJ;have ei:qy (wr.ownsRow w1.heap.size 400 3 (qh oa2 Jq.length dd) Jq.length (Jq.flatMap fH)):=Hd aW;have HX:=Hd hx;clear aW wU yy hx mz;by_cases hg:m<t
   ·have nz:qy ((L.take (k+1)).filter (jo ls t)=Jq++[⟨(c:Int),xn,xi⟩]):=Hd (by rw[HF.o,qH (by rw[CB];exact qR hg)]);clear CB hfx;go_wp2_with fail
    go_region
    have rm:qz wr.heap.size wr (wr.alloc (qn #[U Z (c:Int),U Z xn,U Z xi] 400)).drew:=(aa wr _).drew;obtain⟨x0,x1,x2,_,_,_⟩:=pG (w1:=(wr.alloc (qn #[U Z (c:Int),U Z xn,U Z xi] 400)).drew) (qA wr _);have fu:=Hd (show(wr.alloc (qn #[U Z (c:Int),U Z xn,U Z xi] 400)).drew.heap[wr.heap.size]? =_ from qA wr _);generalize(wr.alloc (qn #[U Z (c:Int),U Z xn,U Z xi] 400)).drew=w2 at*;have UQ:qy (FJ w2 b N (yC L Jq)):=Hd (an.ag HM.o rm);have q0:=ah rm p0;have IM:=Hd rm;have Jd:qy (w2.ownsRow w1.heap.size 400 3 (qh oa2 Jq.length dd) Jq.length (Jq.flatMap fH)):=Hd (RowK.grow (l:=Jq) (enc:=fH) ei.o rm)
    have kN:=Hd (HO.o.step rm);have hwr:wr.heap.size<w2.heap.size:=xv _ _ x0;clear rm p0 p1;go_wp2_with fail
    refine wp_region_still_tail 9 qd qd ?_;change wpStill _ _ (World.drew _) (fun a'=>wpList _ _ _ _ a' (World.drew _)) _ _
    simp only[List.take_succ_cons,List.take_zero,List.drop_succ_cons,List.drop_zero];repeat still_step
    refine wpStill_nil ?_;refine eS _ rfl _ _ 215 3 rfl wh underlying215 b N _ (an.drew UQ.o) (by rfl) ((c:Int),xn) HXK.o (by rfl) ?_;intro w5 hm5 ho5 hs5;simp only[Act.put];have ahI:wr.heap.size≠b:=by have:=dZ.o;omega
    have ou:qy (FJ w5 b N (yC L (Jq++[⟨(c:Int),xn,xi⟩]))):=Hd (an.congr hm5 (LN L Jq ⟨(c:Int),xn,xi⟩));have ho5':ax b w2 w5:=(ax.refl b w2).drew.trans ho5;obtain⟨y0,y1,y2,_,_,_⟩:=pG (w1:=w5) (ax.heap ho5' fu.o ahI)
    have adS:qy (w5.ownsRow w1.heap.size 400 3 (qh oa2 Jq.length dd) Jq.length (Jq.flatMap fH)):=Hd (ho5'.iB Jd.o (fun e=>by
     have:=World.ownsRow.lt Jd.o b e;have:=dZ.o;omega))
    have eV:=Hd (kN.o.trans ho5');have hz5:w1.heap.size≤w5.heap.size:=eV.o.size;clear hm5 ho5 ho5' hs5 x0 x1 x2;go_wp2_with(at_builtin;go_loud (refine bw rfl _ _ 305 rfl w1.heap.size 400 i0 (.agg #[U Z 0,U Z 0,U Z 0]) 3 24 underlying305 hi hz0 hz1 hz2 rfl qa _ _ _ (by rfl) adS.o _ 1 1 (by rfl) rfl (GJ ⟨(c:Int),xn,xi⟩) (by unfold maxLen;omega) Y hz5 qc ?_;intro oa6 agm w6 fE nf _;have dT:=Hd fE;have jd:=Hd nf;clear fE nf))
    have hbm:b<w1.heap.size:=by have:=dZ.o;omega
    exact⟨⟨k+1,Y,qc,by rw[nz.o];exact RowK.snoc (enc:=fH) (l:=Jq) (⟨(c:Int),xn,xi⟩:Ha) rfl rfl dT.o,by rw[nz.o];exact an.of_block ou.o (jd.o.block b hbm),adQ eV.o jd.o⟩,by simp[intOf];omega⟩
   ·have nz:qy ((L.take (k+1)).filter (jo ls t)=Jq):=Hd (by rw[HF.o,qB (by rw[CB];simpa using hg)];simp);clear CB hfx;go_wp2_with fail
    go_region
    have rm:qz wr.heap.size wr (wr.alloc (qn #[U Z (c:Int),U Z xn,U Z xi] 400)).drew:=(aa wr _).drew;obtain⟨x0,x1,x2,_,_,_⟩:=pG (w1:=(wr.alloc (qn #[U Z (c:Int),U Z xn,U Z xi] 400)).drew) (qA wr _);have fu:=Hd (show(wr.alloc (qn #[U Z (c:Int),U Z xn,U Z xi] 400)).drew.heap[wr.heap.size]? =_ from qA wr _);generalize(wr.alloc (qn #[U Z (c:Int),U Z xn,U Z xi] 400)).drew=w2 at*;have UQ:qy (FJ w2 b N (yC L Jq)):=Hd (an.ag HM.o rm);have q0:=ah rm p0;have IM:=Hd rm;have Jd:qy (w2.ownsRow w1.heap.size 400 3 (qh oa2 Jq.length dd) Jq.length (Jq.flatMap fH)):=Hd (RowK.grow (l:=Jq) (enc:=fH) ei.o rm)
    have kN:=Hd (HO.o.step rm);have hwr:wr.heap.size<w2.heap.size:=xv _ _ x0;clear rm p0 p1;go_wp2_with fail
    exact⟨⟨k+1,Y,qc,by rw[nz.o];exact Jd.o,by rw[nz.o];exact UQ.o,kN.o⟩,by simp[intOf];omega⟩
  ·obtain rfl:k=L.length:=by omega
   rw[List.take_length]at aW HM;have uS:=Hd aW;clear aW wU yy;go_wp2_with fail
   go_ret;have hg:=HH.o.cV;refine⟨_,rfl,uS.o.mono dZ.o,⟨?_,⟨N,an.congr HM.o (QI hg.dU _)⟩,hg.filter _⟩,(ax.af cq.o).trans HO.o⟩;exact ax.heap HO.o HH1.o.head lS.o
