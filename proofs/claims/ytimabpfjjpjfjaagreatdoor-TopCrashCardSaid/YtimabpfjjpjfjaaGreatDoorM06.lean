/- Part 6 of the texts that the law's walk needs. -/
import Derived.Test.YtimabpfjjpjfjaaGreatDoorM01
import Derived.Test.YtimabpfjjpjfjaaGreatDoorM05
set_option maxHeartbeats 3200000
set_option maxRecDepth 100000
set_option linter.all false
open Go renaming Value→qp,World→qo,Addr→qt,Calls→qw
open Go.Value renaming int→U,slice→qh,agg→ql,tuple→qj
open Go.IntKind renaming i64→Z
open Go.RowKit renaming Below→qz,Hid→qy
open Go.Obj renaming cells→qn
open Go.Ending renaming returned→qm
namespace Go.Proofs.YtimabpfjjpjfjaaGreatDoor
open Tryz
open Tryz renaming prog→qx
namespace ExtW
open Go.RowKit
def cellsOf(l:List Pt):List qp:=l.flatMap fun x=>[U Z x.o,U Z x.n,U Z x.a,U Z x.f]
theorem gw: ∀l:List Pt,(cellsOf l).length=l.length*4
 |[]=>rfl
 |x::l=>by
  have:=gw l;unfold cellsOf at this⊢;rw[qU,qY,this,xf];simp;omega
theorem ix(l l':List Pt):cellsOf (l++l')=cellsOf l++cellsOf l':=by unfold cellsOf;simp
theorem cells_one(x:Pt):cellsOf [x]=[U Z x.o,U Z x.n,U Z x.a,U Z x.f]:=rfl
theorem CQ{l:List Pt}{i:Nat}{x:Pt}(h:l[i]? =some x):(cellsOf l)[i*4]? =some (U Z x.o)∧(cellsOf l)[i*4+1]? =some (U Z x.n)∧(cellsOf l)[i*4+2]? =some (U Z x.a)∧(cellsOf l)[i*4+3]? =some (U Z x.f):=by
 obtain⟨hi,rfl⟩:=xb.1 h
 have e:l=l.take i++[l[i]]++l.drop (i+1):=by
  rw[List.take_append_getElem];exact(List.take_append_drop (i+1) l).symm
 have hlen:(cellsOf (l.take i)).length=i*4:=by
  rw[gw,xF,Nat.min_eq_left Y]
 have key: ∀j,j<4→(cellsOf l)[i*4+j]? =([U Z l[i].o,U Z l[i].n,U Z l[i].a,U Z l[i].f]:List qp)[j]? :=by
  intro j hj
  have e2:cellsOf l=cellsOf (l.take i)++([U Z l[i].o,U Z l[i].n,U Z l[i].a,U Z l[i].f]++cellsOf (l.drop (i+1))):=by
   conv=>lhs;rw[e]
   rw[ix,ix,cells_one,qW]
  rw[e2,List.getElem?_append_right Y,hlen,Nat.add_sub_cancel_left,xD (by simpa using hj)]
 exact⟨key 0 Y,key 1 Y,key 2 Y,key 3 Y⟩
def Row(B:Nat)(w:qo)(v:qp)(l:List Pt):Prop:=w.ownsRow B 384 4 v l.length (cellsOf l)
theorem Row.nil(B:Nat)(w:qo):Row B w (qh none 0 0) []:=World.ownsRow_nil _ _ _ _
theorem Row.form{B:Nat}{w:qo}{v:qp}{l:List Pt}(h:Row B w v l): ∃oa cap,v=qh oa l.length cap∧l.length≤cap∧cap≤maxLen∧(oa=none→l.length=0∧cap=0):=by
 rcases h.2 with⟨rfl,h0⟩|⟨g,cap,cur,rfl,_,_,h1,h2,_⟩
 ·exact⟨none,0,by rw[h0],Y,qc,fun _=>⟨h0,rfl⟩⟩
 ·exact⟨_,_,rfl,h1,h2,fun e=>by cases e⟩
theorem Row.grow{B:Nat}{w J:qo}{v:qp}{l:List Pt}(h:Row B w v l)(hb:qz w.heap.size w J):Row B J v l:=
 World.ownsRow.kept h (row:=none) ⟨hb.os,hb.tape,hb.output,hb.size,fun k hk _=>hb.block k hk⟩ (by
  cases hv:v.ownBlock with
  |none=>exact .inl rfl
  |some k=>exact .inr qc)
theorem Row.mono{B C:Nat}{w:qo}{v:qp}{l:List Pt}(h:Row B w v l)(hb:C≤B):Row C w v l:=by
 refine⟨h.1,?_⟩;rcases h.2 with h2|⟨g,cap,cur,h1,h2,h3⟩
 ·exact .inl h2
 ·exact .inr ⟨g,cap,cur,h1,qM hb h2,h3⟩
theorem FK(g i:Nat):(⟨g,0,none⟩:qt).add i=⟨g,i,none⟩:=by
 unfold Addr.add;split
 ·rename_i h;rw[h]
 ·simp
theorem nc{B:Nat}{w:qo}{oa:Option qt}{n cap:Nat}{l:List Pt}(h:Row B w (qh oa n cap) l){i:Nat}{x:Pt}(hx:l[i]? =some x):
 ∃g cur,oa=some ⟨g,0,none⟩∧B≤g∧g<w.heap.size∧w.heap[g]? =some (qn cur 384 (0,0))∧n=l.length∧cur.size=cap*4∧n≤cap∧cap≤maxLen∧cur.toList.take (n*4)=cellsOf l∧i<l.length∧
  cur[i*4]? =some (U Z x.o)∧cur[i*4+1]? =some (U Z x.n)∧cur[i*4+2]? =some (U Z x.a)∧cur[i*4+3]? =some (U Z x.f):=by
 have hi:i<l.length:=(xb.1 hx).1;rcases h.2 with⟨e,h0⟩|⟨g,cap',cur,e,h1,h2,h3,h4,h5,h6⟩
 ·omega
 ·simp only[Value.slice.injEq]at e;obtain⟨rfl,rfl,rfl⟩:=e;obtain⟨c0,c1,c2,c3⟩:=CQ hx
  have key: ∀(j:Nat) (v:qp),(cellsOf l)[j]? =some v→cur[j]? =some v:=by
   intro j v hv;have hj:j<(cellsOf l).length:=(xb.1 hv).1;rw[gw]at hj;rw[←h6,List.getElem?_take,qH Y]at hv;simpa using hv
  exact⟨g,cur,rfl,h1,qK h2,h2,rfl,h5,h3,h4,h6,hi,key _ _ c0,key _ _ c1,key _ _ c2,key _ _ c3⟩
theorem Row.sU{B:Nat}{w:qo}{oa:Option qt}{n cap:Nat}{l:List Pt}(h:Row B w (qh oa n cap) l):et w.heap.size oa l w:=by
 intro i x hx;obtain⟨g,cur,rfl,_,hg,hb,_,_,_,_,_,_,c0,c1,c2,c3⟩:=nc h hx;refine⟨_,rfl,hg,?_,?_,?_,?_⟩
 all_goals
  rw[FK,qI hb]
  assumption
theorem Row.free{B:Nat}{w:qo}{oa:Option qt}{n cap:Nat}{l:List Pt}(h:Row B w (qh oa n cap) l){i:Nat}{x:Pt}(hx:l[i]? =some x): ∃a,oa=some a∧B≤a.block∧a.block<w.heap.size∧ ∀j,w.frozen? ⟨(a.add (i*4)).block,(a.add (i*4)).off+j,none⟩=false:=by
 obtain⟨g,cur,rfl,h1,hg,hb,_⟩:=nc h hx;refine⟨_,rfl,h1,hg,fun j=>?_⟩;rw[FK];exact xx hb _
theorem Row.put{B:Nat}{w:qo}{a:qt}{n cap:Nat}{l:List Pt}{p:Pt}(h:Row B w (qh (some a) n cap) (l++[p]))(k:Int):
 Row B (w.setCell ⟨(a.add (l.length*4)).block,(a.add (l.length*4)).off+1,none⟩ (U Z k)) (qh (some a) n cap) (l++[⟨p.o,k,p.a,p.f⟩]):=by
 obtain⟨g,cur,e,h1,hg,hb,hn,h5,h3,h4,h6,hi,c0,c1,c2,c3⟩:=nc h (i:=l.length) (x:=p) qc;obtain rfl:a=⟨g,0,none⟩:=by simpa using e
 rw[FK];refine⟨by rw[gw],.inr ⟨g,cap,cur.setIfInBounds (l.length*4+1) (U Z k),by rw[hn];simp,h1,?_,?_,h4,by simpa using h5,?_⟩⟩
 ·simp[World.setCell,Array.getElem?_modify,hb]
 ·simp at hn⊢;omega
 ·rw[Array.toList_setIfInBounds];have hn':n=l.length+1:=by simpa using hn
  rw[hn']at h6;simp only[qY,xf,List.length_nil];rw[List.take_set,h6,ix,ix,cells_one,cells_one];have hlen:(cellsOf l).length=l.length*4:=gw l;rw[List.set_append_right _ _ Y,hlen];simp
theorem Row.snoc{B:Nat}{w:qo}{oa:Option qt}{cap:Nat}{l:List Pt}(x:Pt)
 (h:w.ownsRow B 384 4 (qh oa (l.length+1) cap) (l.length+1) (cellsOf l++(#[U Z x.o,U Z x.n,U Z x.a,U Z x.f]:Array qp).toList)):Row B w (qh oa (l.length+1) cap) (l++[x]):=by
 unfold Row;rw[qY,ix,cells_one];exact h
theorem bW(l:List Pt): ∀u∈cellsOf l,u.oneCell'=true:=by
 intro u hu;unfold cellsOf at hu;obtain⟨x,_,hx⟩:=List.mem_flatMap.1 hu;simp only[qG,qQ,xt]at hx;rcases hx with rfl|rfl|rfl|rfl<;>rfl
theorem lg:(prog.info? 384).map (fun i=>(i.zero,i.size,i.bytes))=some (some (ql #[U Z 0,U Z 0,U Z 0,U Z 0]),4,32):=qd
theorem CR{B:Nat}{oa:Option qt}{l:List Pt}{w:qo}(h:et B oa l w): ∀ad,oa=some ad→ ∀j u,(cellsOf l)[j]? =some u→w.cell? (ad.add j)=some u:=by
 intro ad e j u hu;have hj:j<(cellsOf l).length:=(xb.1 hu).1;rw[gw]at hj;obtain⟨x,hx⟩: ∃x,l[j/ 4]? =some x:=⟨_,qN Y⟩;obtain⟨a,e',_,d0,d1,d2,d3⟩:=h _ _ hx;obtain rfl:ad=a:=by rw[e]at e';simpa using e'
 obtain⟨c0,c1,c2,c3⟩:=CQ hx;have hm:j%4=0∨j%4=1∨j%4=2∨j%4=3:=Y;rcases hm with m|m|m|m
 ·have ej:j=j/ 4*4:=by omega
  rw[ej]at hu⊢;rw[c0]at hu;injection hu with hu;rw[←hu];exact d0
 ·have ej:j=j/ 4*4+(0+1):=by omega
  rw[ej]at hu⊢;rw[show j/ 4*4+(0+1)=j/ 4*4+1 from rfl]at hu;rw[c1]at hu;injection hu with hu;rw[←hu,ow];exact d1
 ·have ej:j=j/ 4*4+(1+1):=by omega
  rw[ej]at hu⊢;rw[show j/ 4*4+(1+1)=j/ 4*4+2 from rfl]at hu;rw[c2]at hu;injection hu with hu;rw[←hu,ow];exact d2
 ·have ej:j=j/ 4*4+(2+1):=by omega
  rw[ej]at hu⊢;rw[show j/ 4*4+(2+1)=j/ 4*4+3 from rfl]at hu;rw[c3]at hu;injection hu with hu;rw[←hu,ow];exact d3
def CT(l:List Pt):List Pt:=if l.length>64 then []else l
def Bu(l:List Pt):Int:=if l.length>64 then 3 else 0
theorem Kg(out:List Pt)(x:Pt):(eY out x).length≤out.length+1:=by
 rcases lK out with rfl|⟨l,p,rfl⟩
 ·simp[eY]
 ·by_cases h:Joins p x
  ·rw[tg _ _ _ h];simp
  ·rw[rF _ _ _ h];simp
theorem CU: ∀(l out:List Pt),(l.foldl eY out).length≤out.length+l.length
 |[],out=>by simp
 |x::l,out=>by
  rw[List.foldl_cons];have:=CU l (eY out x);have:=Kg out x;simp only[xf];omega
theorem rS(l:List Pt):(cE l).length≤l.length:=by
 have:=CU l [];simpa [cE]using this
theorem Kh(l:List Pt)(x:Pt):cE (l++[x])=eY (cE l) x:=by unfold cE;simp
theorem uv: ∀{lo:Int} {l l':List Pt} {hi:Int},aQ lo (l++l') hi→aQ lo l hi
 |_,[],_,_,h=>h.le
 |_,_::_,_,_,h=>⟨h.1,h.2.1,uv h.2.2⟩
theorem FL(oa:Option qt)(cap:Nat)(l:List Pt)(hs:aQ 0 l 8192)(ho: ∀x∈l,One x)(hl:l.length≤100000)(w:qo)(h:et w.heap.size oa l w):
 qw qx 489 #[qh oa l.length cap] w fun e J=> ∃v,e=qm (qj #[v,U Z (Bu (cE l))])∧Row w.heap.size J v (CT (cE l))∧qz w.heap.size w J:=by
 obtain⟨i0,hi,hz0,hz1,hz2⟩:=info_parts lg;have HP:=Hd h;have HS:=Hd hs;have HO:=Hd ho;clear h hs ho;go_enter func489,ntmps489;go_wp2_with fail
 go_loopw [4,10] (fun v i wr=> ∃k:Nat,k≤l.length∧i=U Z (k:Int)∧Row w.heap.size wr v (cE (l.take k))∧qz w.heap.size w wr) (fun _ i _=>((l.length:Int)-intOf i).toNat)
 case atStart=>exact⟨0,Y,rfl,Row.nil _ _,Below.refl _ _⟩
 case round=>
  obtain⟨k,hk,rfl,aW,dz⟩:=hrel;have HB:=Hd dz;clear dz;by_cases aN:k<l.length
  ·obtain⟨x,hx⟩: ∃x,l[k]? =some x:=⟨_,qN aN⟩;obtain⟨a,rfl,oW,c0,c1,c2,c3⟩:=(HP.o.below HB.o) k x hx;have hxo:One x:=HO.o x (xp hx)
   have kh:qy (cE (l.take (k+1))=eY (cE (l.take k)) x):=Hd (by
    rw[xA,hx];exact Kh _ _)
   have ea:qy ((cE (l.take k)).length≤k):=Hd (by have:=rS (l.take k);simp only[xF]at this;omega)
   have HF:qy (∀y∈cE (l.take k),One y):=Hd (by
    have e:=HS.o;rw[←List.take_append_drop k l]at e;exact(tj (uv e) (fun y hy=>HO.o y (List.mem_of_mem_take hy))).2.1)
   generalize cE (l.take k)=Jq at aW kh ea HF;have HX:=Hd hx;clear hx;rcases lK Jq with rfl|⟨o',p,rfl⟩
   ·obtain⟨oa2,dd,rfl,hc2,_,_⟩:=aW.form;have HR:=Hd aW;clear aW;have We:([]:List Pt).length=0:=rfl;rw[We]at HR⊢;clear We;have akk:=kh;go_wp2_with fail
    refine dJ qd qd ?_
    repeat first
     |(refine cM ?_ ?_;(·first|rfl|(go_simp;done));simp only[pS,aS,sZ,sS])
     |(refine du (v:=?_) ?_ ?_ ?_
       rotate_left
       ·first|rfl|(go_simp;done)
       ·intro wq hq;go_simp
        with_reducible rfl
       simp only[pS,aS,sZ,sS])
    refine dv ?_;intro w2 hb2;have hb3:=Hd hb2;have q0:=ah hb2 (aV wr #[U Z x.o,U Z x.n,U Z x.a,U Z x.f] 384 0 _ rfl);have q1:=ah hb2 (aV wr #[U Z x.o,U Z x.n,U Z x.a,U Z x.f] 384 1 _ rfl);have q2:=ah hb2 (aV wr #[U Z x.o,U Z x.n,U Z x.a,U Z x.f] 384 2 _ rfl);have q3:=ah hb2 (aV wr #[U Z x.o,U Z x.n,U Z x.a,U Z x.f] 384 3 _ rfl);have ei:qy (w2.ownsRow w.heap.size 384 4 (qh oa2 0 dd) 0 []):=Hd ((HR.o.grow (aa wr _)).grow hb3.o);have az:qy (qz w.heap.size w w2):=Hd (ai (ai HB.o (aa wr _)) hb3.o);clear hb2
    go_wp2_with(at_builtin;go_loud (refine bB rfl _ _ 93 rfl w.heap.size 384 i0 (ql #[U Z 0,U Z 0,U Z 0,U Z 0]) 4 32 underlying93 hi hz0 hz1 hz2 rfl qa _ _ _ (by rfl) ei.o 1 1 (by rfl) rfl (bW [x]) (by unfold maxLen;omega) Y az.o.size ?_;intro oa5 kF w5 bT bK _;have br:=Hd bT;have gx:=Hd (az.o.trans bK);clear bT bK))
    exact⟨⟨k+1,Y,qc,by rw[kh.o];exact Row.snoc (l:=[]) x br.o,gx.o⟩,by simp[intOf];omega⟩
   ·obtain⟨oa2,dd,rfl,hc2,_,_⟩:=aW.form;obtain⟨a2,e2,hba,akl,Si⟩:=Row.free aW (i:=o'.length) (x:=p) qc;subst e2;obtain⟨a3,e3,_,d0,d1,d2,d3⟩:=Row.sU aW o'.length p qc;obtain rfl:a2=a3:=by simpa using e3
    clear e3 Si;have HR:=Hd aW;have oN:=Hd hba;clear aW hba;have hpo:One p:=HF.o p qc;have JQ:=hpo.small;have HPO:=Hd hpo;have Cz:=hxo.small;have hw2:IntKind.i64.wrap (p.n+x.n)=p.n+x.n:=qO _ Y;obtain⟨m,hm⟩: ∃m,o'.length=m:=⟨_,rfl⟩;obtain⟨n,hn⟩: ∃n,(o'++[p]).length=n:=⟨_,rfl⟩;have hnm:n=m+1:=by rw[←hn,←hm];simp
    have hlen:=ea.o;have HM:=Hd hm;rw[hn]at HR hc2 hlen⊢;rw[hm]at d0 d1 d2 d3;have hz:decide (0<n)=true:=qR Y;have hw:IntKind.i64.wrap ((n:Int)-1)=(m:Int):=by rw[qO _ Y];omega
    have hm0:(0:Int)≤(m:Int):=Y;have hm1:(m:Int)<(n:Int):=Y;have hm2:m<n:=Y;have SI:n≤100000:=Y;have HN:=Hd hn;clear hm hn hpo hxo JQ Cz hnm hlen;by_cases hj:Joins p x
    ·have HJ:qy (decide (Joins p x)=true):=Hd (qR hj);have aF:qy (cE (l.take (k+1))=o'++[⟨p.o,p.n+x.n,p.a,p.f⟩]):=Hd (by rw[kh.o];exact tg _ _ _ hj);clear hj;go_wp2_with fail
     refine dJ qd qd ?_
     repeat first
      |(refine cM ?_ ?_;(·first|rfl|(go_simp;done));simp only[pS,aS,sZ,sS])
      |(refine du (v:=?_) ?_ ?_ ?_
        rotate_left
        ·first|rfl|(go_simp;done)
        ·intro wq hq;have g0:=ah hq (aV wr #[U Z x.o,U Z x.n,U Z x.a,U Z x.f] 384 0 _ rfl);have g1:=ah hq (aV wr #[U Z x.o,U Z x.n,U Z x.a,U Z x.f] 384 1 _ rfl);have g2:=ah hq (aV wr #[U Z x.o,U Z x.n,U Z x.a,U Z x.f] 384 2 _ rfl);have g3:=ah hq (aV wr #[U Z x.o,U Z x.n,U Z x.a,U Z x.f] 384 3 _ rfl);have e0:=ah hq (aA d0);have e1:=ah hq (aA d1);have e2:=ah hq (aA d2);have e3:=ah hq (aA d3);go_simp
         with_reducible rfl
        simp only[pS,aS,sZ,sS])
      |(refine dF (v:=?_) (f:=?_) (args:=?_) ?_ ?_ ?_ ?_
        rotate_left 3
        ·first|rfl|(go_simp;done)
        ·intro wq;go_simp;constructor
         ·rfl
         ·rfl
        ·intro wq hq
         first
          |(refine(rI p x _ HJ.o HPO.o _).mono ?_
            rintro e w1⟨rfl,hb1⟩;constructor
            ·rfl
            ·exact ai hq hb1)
        simp only[pS,aS,sZ,sS])
     refine dv ?_;intro w2 hb2;have hb3:=Hd hb2;have q1:=ah hb2 (aV wr #[U Z x.o,U Z x.n,U Z x.a,U Z x.f] 384 1 _ rfl);have r1:=ah hb2 (aA (o:=qn #[U Z x.o,U Z x.n,U Z x.a,U Z x.f] 384) d1);have eB:qy (Row w.heap.size w2 (qh (some a2) n dd) (o'++[p])):=Hd ((HR.o.grow (aa wr _)).grow hb3.o);have az:qy (qz w.heap.size w w2):=Hd (ai (ai HB.o (aa wr _)) hb3.o);obtain⟨a4,e4,_,_,Si⟩:=Row.free eB.o (i:=o'.length) (x:=p) qc;obtain rfl:a2=a4:=by simpa using e4
     have f1:=Si 1;rw[HM.o]at f1;clear hb2 e4 Si;go_wp2_with fail
     go_still_tail 11,qd
     go_wp2_with fail
     have kG:=Row.put eB.o (p.n+x.n);rw[HM.o]at kG;exact⟨⟨k+1,Y,qc,by rw[aF.o];exact kG.grow (Below.refl _ _).drew,(az.o.setCell (p:=⟨_,_,none⟩) (by rw[bA];exact oN.o) _).drew⟩,by simp[intOf];omega⟩
    ·have HJ:qy (decide (Joins p x)=false):=Hd (qD hj);have aF:qy (cE (l.take (k+1))=o'++[p]++[x]):=Hd (by rw[kh.o];exact rF _ _ _ hj);clear hj;go_wp2_with fail
     refine dJ qd qd ?_
     repeat first
      |(refine cM ?_ ?_;(·first|rfl|(go_simp;done));simp only[pS,aS,sZ,sS])
      |(refine du (v:=?_) ?_ ?_ ?_
        rotate_left
        ·first|rfl|(go_simp;done)
        ·intro wq hq;have g0:=ah hq (aV wr #[U Z x.o,U Z x.n,U Z x.a,U Z x.f] 384 0 _ rfl);have g1:=ah hq (aV wr #[U Z x.o,U Z x.n,U Z x.a,U Z x.f] 384 1 _ rfl);have g2:=ah hq (aV wr #[U Z x.o,U Z x.n,U Z x.a,U Z x.f] 384 2 _ rfl);have g3:=ah hq (aV wr #[U Z x.o,U Z x.n,U Z x.a,U Z x.f] 384 3 _ rfl);have e0:=ah hq (aA d0);have e1:=ah hq (aA d1);have e2:=ah hq (aA d2);have e3:=ah hq (aA d3);go_simp
         with_reducible rfl
        simp only[pS,aS,sZ,sS])
      |(refine dF (v:=?_) (f:=?_) (args:=?_) ?_ ?_ ?_ ?_
        rotate_left 3
        ·first|rfl|(go_simp;done)
        ·intro wq;go_simp;constructor
         ·rfl
         ·rfl
        ·intro wq hq
         first
          |(refine(rI p x _ HJ.o HPO.o _).mono ?_
            rintro e w1⟨rfl,hb1⟩;constructor
            ·rfl
            ·exact ai hq hb1)
        simp only[pS,aS,sZ,sS])
     refine dv ?_;intro w2 hb2;have hb3:=Hd hb2;have q0:=ah hb2 (aV wr #[U Z x.o,U Z x.n,U Z x.a,U Z x.f] 384 0 _ rfl);have q1:=ah hb2 (aV wr #[U Z x.o,U Z x.n,U Z x.a,U Z x.f] 384 1 _ rfl);have q2:=ah hb2 (aV wr #[U Z x.o,U Z x.n,U Z x.a,U Z x.f] 384 2 _ rfl);have q3:=ah hb2 (aV wr #[U Z x.o,U Z x.n,U Z x.a,U Z x.f] 384 3 _ rfl);have ei:qy (w2.ownsRow w.heap.size 384 4 (qh (some a2) n dd) n (cellsOf (o'++[p]))):=Hd (by rw[←HN.o]at HR⊢;exact(HR.o.grow (aa wr _)).grow hb3.o);have az:qy (qz w.heap.size w w2):=Hd (ai (ai HB.o (aa wr _)) hb3.o);clear hb2
     go_wp2_with(at_builtin;refine bB rfl _ _ 93 rfl w.heap.size 384 i0 (ql #[U Z 0,U Z 0,U Z 0,U Z 0]) 4 32 underlying93 hi hz0 hz1 hz2 rfl qa _ _ _ (by rfl) ei.o 1 1 (by rfl) rfl (bW [x]) (by unfold maxLen;omega) Y az.o.size ?_;intro oa5 kF w5 bT bK _;have br:=Hd bT;have gx:=Hd (az.o.trans bK);clear bT bK)
     exact⟨⟨k+1,Y,qc,by rw[aF.o];have:=br.o;rw[←HN.o]at this⊢;exact Row.snoc x this,gx.o⟩,by simp[intOf];omega⟩
  ·obtain rfl:k=l.length:=by omega
   rw[List.take_length]at aW;obtain⟨oa2,dd,rfl,_,_,_⟩:=aW.form;have HR:=Hd aW;clear aW;by_cases hm:(cE l).length>64
   ·have HE:qy (Bu (cE l)=3∧CT (cE l)=[]):=Hd ⟨qH hm,qH hm⟩;generalize(cE l).length=n at hm HR⊢;go_wp2_with fail
    go_ret2
    exact⟨qh none 0 0,by rw[HE.o.1];rfl,by rw[HE.o.2];exact Row.nil _ _,HB.o⟩
   ·have HE:qy (Bu (cE l)=0∧CT (cE l)=cE l):=Hd ⟨qB hm,qB hm⟩;obtain⟨n,hn⟩: ∃n,(cE l).length=n:=⟨_,rfl⟩;rw[hn]at hm HR⊢;clear hn;go_wp2_with fail
    go_ret2
    exact⟨qh oa2 n dd,by rw[HE.o.1];rfl,by rw[HE.o.2];exact HR.o,HB.o⟩
theorem Ig: ∀(l l':List Pt) (s:Int),cF (l++l') s=cF l s++cF l' s
 |[],_,_=>rfl
 |x::l,l',s=>by
  have ih:=Ig l l' s;simp only[xd,cF,ih];split<;>rfl
theorem Ih: ∀(l l':List Pt) (s:Int),dN (l++l') s=dN l s++dN l' s
 |[],_,_=>rfl
 |x::l,l',s=>by
  have ih:=Ih l l' s;simp only[xd,dN,ih];split<;>rfl
theorem jx{α:Type}{l:List α}{k:Nat}{x:α}(h:l[k]? =some x):l.take (k+1)=l.take k++[x]:=by
 rw[xA,h];rfl
theorem fW(oa:Option qt)(cap:Nat)(l:List Pt)(b:Bool)(hb:decide (Good l)=b)(hl:l.length≤9223372036854775807)(w:qo)(h:et w.heap.size oa l w):
 qw qx 259 #[qh oa l.length cap] w fun e J=>e=qm (.bool b)∧qz w.heap.size w J:=by
 rw[←hb];exact cG _ oa cap l hl w (Nat.le_refl _) h
theorem et.grow{oa:Option qt}{l:List Pt}{w J:qo}(h:et w.heap.size oa l w)(hb:qz w.heap.size w J):et J.heap.size oa l J:=(h.below hb).mono hb.size
def Ki(l:List Pt)(s:Int):List Pt:=if Good l then cF l s else []
theorem Bv(oa:Option qt)(cap:Nat)(l:List Pt)(s:Int)(hs: -9223372036854775808≤s∧s≤9223372036854775807)(hl:l.length≤9223372036854775807)(w:qo)(h:et w.heap.size oa l w):
 qw qx 488 #[qh oa l.length cap,U Z s] w fun e J=> ∃v,e=qm v∧Row w.heap.size J v (Ki l s)∧qz w.heap.size w J:=by
 obtain⟨i0,hi,hz0,hz1,hz2⟩:=info_parts lg;have HP:=Hd h;clear h;by_cases hg:Good l
 ·have HG:qy (decide (Good l)=true):=Hd (qR hg);have HS:qy (Ki l s=cF l s):=Hd (qH hg);have HO:qy (∀x∈l,One x):=Hd (ga hg.2);have hl64:=hg.1;clear hg hl;go_enter func488,ntmps488;go_wp2_with(go_at_call 259;refine(fW _ _ _ _ HG.o Y _ HP.o).mono ?_;rintro e w1 ⟨rfl,hb1⟩;have XT:=Hd (HP.o.grow hb1);have cq:=Hd hb1;clear hb1)
  go_loopw [5,13] (fun v i wr=> ∃k:Nat,k≤l.length∧i=U Z (k:Int)∧Row w1.heap.size wr v (cF (l.take k) s)∧qz w1.heap.size w1 wr) (fun _ i _=>((l.length:Int)-intOf i).toNat)
  case atStart=>exact⟨0,Y,rfl,Row.nil _ _,Below.refl _ _⟩
  case round=>
   obtain⟨k,hk,rfl,aW,dz⟩:=hrel;have HB:=Hd dz;have bu:qy (qz w.heap.size w wr):=Hd (ai cq.o dz);clear dz;by_cases aN:k<l.length
   ·obtain⟨x,hx⟩: ∃x,l[k]? =some x:=⟨_,qN aN⟩;obtain⟨a,rfl,oW,c0,c1,c2,c3⟩:=(XT.o.below HB.o) k x hx;have Cz:=(HO.o x (xp hx)).small;have kh:qy (cF (l.take (k+1)) s=cF (l.take k) s++cF [x] s):=Hd (by rw[jx hx,Ig]);have ea:(cF (l.take k) s).length≤k:=by have:=nZ (l.take k) s;simp only[xF]at this;omega
    generalize cF (l.take k) s=Jq at aW kh ea;obtain⟨oa2,dd,rfl,hc2,_,_⟩:=aW.form;have HX:=Hd hx;have ei:qy (wr.ownsRow w1.heap.size 384 4 (qh oa2 Jq.length dd) Jq.length (cellsOf Jq)):=Hd aW;clear hx aW;by_cases h1:x.o<s
    ·have hw:IntKind.i64.wrap (s-x.o)=s-x.o:=qO _ Y;by_cases h2:x.n≤s-x.o
     ·have HC:qy (cF [x] s=[x]):=Hd (by rw[cF,qH h1,Int.min_eq_left h2];rfl);go_wp2_with(at_builtin;refine bw rfl _ _ 93 rfl w1.heap.size 384 i0 (ql #[U Z 0,U Z 0,U Z 0,U Z 0]) 4 32 underlying93 hi hz0 hz1 hz2 rfl qa _ _ _ (by rfl) (ei.o.alloc _) _ 1 1 (by rfl) rfl (bW [x]) (by unfold maxLen;omega) Y (by have:=HB.o.size;simp;omega) qc ?_;intro oa5 kF w5 bT bK _;have br:=Hd bT;have gx:=Hd bK;clear bT bK)
      exact⟨⟨k+1,Y,qc,by rw[kh.o,HC.o];exact Row.snoc x br.o,HB.o.trans (((aa wr _).mono HB.o.size).trans gx.o)⟩,by simp[intOf];omega⟩
     ·have h2':s-x.o<x.n:=by omega
      have HC:qy (cF [x] s=[⟨x.o,s-x.o,x.a,x.f⟩]):=Hd (by rw[cF,qH h1,Int.min_eq_right Y];rfl);clear h2;go_wp2_with(at_builtin;refine bw rfl _ _ 93 rfl w1.heap.size 384 i0 (ql #[U Z 0,U Z 0,U Z 0,U Z 0]) 4 32 underlying93 hi hz0 hz1 hz2 rfl qa _ _ _ (by rfl) (ei.o.alloc _) _ 1 1 (by rfl) rfl (bW [⟨x.o,s-x.o,x.a,x.f⟩]) (by unfold maxLen;omega) Y (by have:=HB.o.size;simp;omega) qc ?_;intro oa5 kF w5 bT bK _;have br:=Hd bT;have gx:=Hd bK;clear bT bK)
      exact⟨⟨k+1,Y,qc,by rw[kh.o,HC.o];exact Row.snoc ⟨x.o,s-x.o,x.a,x.f⟩ br.o,HB.o.trans (((aa wr _).mono HB.o.size).trans gx.o)⟩,by simp[intOf];omega⟩
    ·have HC:qy (cF [x] s=[]):=Hd (by rw[cF,qB h1];rfl);go_wp2_with fail
     exact⟨⟨k+1,Y,qc,by rw[kh.o,HC.o,xg];exact ei.o.alloc _,HB.o.trans ((aa wr _).mono HB.o.size)⟩,by simp[intOf];omega⟩
   ·obtain rfl:k=l.length:=by omega
    rw[List.take_length]at aW;obtain⟨oa2,dd,rfl,_,_,_⟩:=aW.form;have HR:=Hd aW;clear aW;go_wp2_with fail
    go_ret;exact⟨_,rfl,by rw[HS.o];exact HR.o.mono cq.o.size,bu.o⟩
 ·have HG:qy (decide (Good l)=false):=Hd (qD hg);have HS:qy (Ki l s=[]):=Hd (qB hg);clear hg;go_enter func488,ntmps488;go_wp2_with(go_at_call 259;refine(fW _ _ _ _ HG.o Y _ HP.o).mono ?_;rintro e w1 ⟨rfl,hb1⟩;have cq:=Hd hb1;clear hb1)
  go_ret;exact⟨_,rfl,by rw[HS.o];exact Row.nil _ _,cq.o⟩
def Nx(w:qo)(b:Nat)(x:Pt):Prop:=w.heap[b]? =some (qn #[U Z x.o,U Z x.n,U Z x.a,U Z x.f] 384 (0,0))
theorem Nx.grow{w J:qo}{b:Nat}{x:Pt}(h:Nx w b x)(hb:qz w.heap.size w J):Nx J b x:=(hb.block b (qK h)).trans h
theorem Nx.made(w:qo)(x:Pt):Nx (w.alloc (qn #[U Z x.o,U Z x.n,U Z x.a,U Z x.f] 384)) w.heap.size x:=qA w _
theorem Nx.cells{w:qo}{b:Nat}{x:Pt}(h:Nx w b x):w.cell? ⟨b,0,none⟩=some (U Z x.o)∧w.cell? ⟨b,1,none⟩=some (U Z x.n)∧w.cell? ⟨b,2,none⟩=some (U Z x.a)∧w.cell? ⟨b,3,none⟩=some (U Z x.f):=
 ⟨(aJ h 0),(aJ h 1),(aJ h 2),(aJ h 3)⟩
def jr(l:List Pt)(x:Pt):Int:=if Good l then if One x then Bu (cE (eI l x))else 1 else 11
def oO(l:List Pt)(x:Pt):List Pt:=if Good l then if One x then CT (cE (eI l x))else []else []
theorem Kj(oa:Option qt)(n cap:Nat)(l:List Pt)(hn:n=l.length)(hs:aQ 0 l 8192)(ho: ∀x∈l,One x)(hl:l.length≤100000)(w:qo)(h:et w.heap.size oa l w):
 qw qx 489 #[qh oa n cap] w fun e J=> ∃v,e=qm (qj #[v,U Z (Bu (cE l))])∧Row w.heap.size J v (CT (cE l))∧qz w.heap.size w J:=by
 subst hn;exact FL oa cap l hs ho hl w h
theorem FM(oa:Option qt)(n cap:Nat)(l m:List Pt)(s:Int)(hm:Ki l s=m)(hn:n=l.length)(hs: -9223372036854775808≤s∧s≤9223372036854775807)(hl:l.length≤9223372036854775807)(w:qo)(h:et w.heap.size oa l w):
 qw qx 488 #[qh oa n cap,U Z s] w fun e J=> ∃oa2 dd,e=qm (qh oa2 m.length dd)∧Row w.heap.size J (qh oa2 m.length dd) m∧m.length≤dd∧dd≤maxLen∧qz w.heap.size w J:=by
 subst hn;subst hm;refine(Bv oa cap l s hs hl w h).mono ?_;rintro e J⟨v,rfl,h1,h2⟩;obtain⟨oa2,dd,rfl,h3,h4,_⟩:=h1.form;exact⟨oa2,dd,rfl,h1,h3,h4,h2⟩
theorem XU{B C:Nat}{w w1:qo}{v u:qp}{l m:List Pt}(h:Row B w v l)(hC:w.heap.size≤C)(k:Row C w1 u m):u.ownBlock≠v.ownBlock∨u.ownBlock=none:=by
 cases hu:u.ownBlock with
 |none=>exact .inr rfl
 |some x=>
  refine .inl fun e=>?_;have h1:=(World.ownsRow.lt k) x hu;have h2:=(World.ownsRow.lt h) x e.symm;omega
theorem Ny{B:Nat}{w:qo}{oa:Option qt}{n cap:Nat}{l:List Pt}{x:Pt}(hn:n=(eI l x).length)
 (h:w.ownsRow B 384 4 (qh oa n cap) n (cellsOf (cF l x.o)++(#[U Z x.o,U Z x.n,U Z x.a,U Z x.f]:Array qp).toList++cellsOf (dN l (x.o+x.n)))):Row B w (qh oa n cap) (eI l x):=by
 unfold Row;rw[←hn];unfold eI;rw[ix,ix,cells_one];exact h
theorem Nz(l:List Pt)(x:Pt):(eI l x).length=(cF l x.o).length+1+(dN l (x.o+x.n)).length:=by unfold eI;simp;omega
theorem od(oa:Option qt)(cap:Nat)(l:List Pt)(x:Pt)(hl:l.length≤9223372036854775807)(w:qo)(h:et w.heap.size oa l w):
 qw qx 459 #[qh oa l.length cap,ql #[U Z x.o,U Z x.n,U Z x.a,U Z x.f]] w fun e J=> ∃v,e=qm (qj #[v,U Z (jr l x)])∧Row w.heap.size J v (oO l x)∧qz w.heap.size w J:=by
 obtain⟨i0,hi,hz0,hz1,hz2⟩:=info_parts lg;have HP:=Hd (h.grow (aa w (qn #[U Z x.o,U Z x.n,U Z x.a,U Z x.f] 384)));have fu:=Hd (Nx.made w x);clear h;by_cases hg:Good l
 ·have HG:qy (decide (Good l)=true):=Hd (qR hg);by_cases ho:One x
  ·have H1:qy (decide (One x)=true):=Hd (qR ho);have HE:qy (jr l x=Bu (cE (eI l x))∧oO l x=CT (cE (eI l x))):=Hd (by unfold jr oO;rw[qH hg,qH hg,qH ho,qH ho];exact⟨rfl,rfl⟩);have HO:qy (∀y∈l,One y):=Hd (ga hg.2);have HSO:=Hd (mQ hg ho);have HOO:=Hd (ti hg ho);have HCL:qy (Ki l x.o=cF l x.o):=Hd (qH hg);have abP:qy ((cF l x.o).length≤64):=Hd (qM (nZ l x.o) hg.1);have HOX:=Hd ho;have hl64:=hg.1;clear hg ho hl;go_enter func459,ntmps459
   go_wp2_with(first
    |(go_at_call 259;refine(fW _ _ _ _ HG.o Y _ HP.o).mono ?_;rintro e w1 ⟨rfl,hb1⟩;have XT:=Hd (HP.o.grow hb1);have uV:=Hd (fu.o.grow hb1);have cq:=Hd (ai (aa w _) hb1);clear hb1;obtain⟨p0,p1,p2,p3⟩:=uV.o.cells)
    |(go_at_call 326;refine(pH x _ H1.o _).mono ?_;rintro e w2 ⟨rfl,hb2⟩;have iC:=Hd (XT.o.grow hb2);have lh:=Hd (uV.o.grow hb2);have az:=Hd (ai cq.o hb2);clear hb2 p0 p1 p2 p3;obtain⟨p0,p1,p2,p3⟩:=lh.o.cells)
    |(go_at_call 488;refine(FM _ _ _ l _ _ HCL.o rfl (by have:=HOX.o.small;omega) Y _ iC.o).mono ?_;rintro e w3 ⟨oa3,FN,rfl,hr3,hc3,hm3,hb3⟩;have uW:=Hd (iC.o.grow hb3);have SS:=Hd (lh.o.grow hb3);have eE:=Hd (hr3.mono az.o.size);have cu:=Hd (ai az.o hb3);clear hb3 hr3 p0 p1 p2 p3;obtain⟨p0,p1,p2,p3⟩:=SS.o.cells))
   obtain⟨na,hna⟩: ∃na,(cF l x.o).length=na:=⟨_,rfl⟩;rw[hna]at hc3 eE abP⊢;have HNA:=Hd hna;have aiS:=abP.o;clear hna p0 p1 p2 p3
   go_loopw [7,25] (fun v i wr=> ∃k:Nat,k≤l.length∧i=U Z (k:Int)∧Row w3.heap.size wr v (dN (l.take k) (x.o+x.n))∧qz w3.heap.size w3 wr) (fun _ i _=>((l.length:Int)-intOf i).toNat)
   case atStart=>exact⟨0,Y,rfl,Row.nil _ _,Below.refl _ _⟩
   case round=>
    obtain⟨k,hk,rfl,aW,dz⟩:=hrel;have HB:=Hd dz;have fu:=Hd (SS.o.grow dz);clear dz;obtain⟨p0,p1,p2,p3⟩:=fu.o.cells;have hzw:w.heap.size<wr.heap.size:=qK fu.o;by_cases aN:k<l.length
    ·obtain⟨p,hp⟩: ∃p,l[k]? =some p:=⟨_,qN aN⟩;obtain⟨a,rfl,oW,c0,c1,c2,c3⟩:=(uW.o.below HB.o) k p hp;have JQ:=(HO.o p (xp hp)).small;have Cz:=HOX.o.small;have kh:qy (dN (l.take (k+1)) (x.o+x.n)=dN (l.take k) (x.o+x.n)++dN [p] (x.o+x.n)):=Hd (by rw[jx hp,Ih]);have ea:(dN (l.take k) (x.o+x.n)).length≤k:=by have:=vg (l.take k) (x.o+x.n);simp only[xF]at this;omega
     generalize dN (l.take k) (x.o+x.n)=Jq at aW kh ea;obtain⟨oa2,dd,rfl,hc2,_,_⟩:=aW.form;have HX:=Hd hp;have ei:qy (wr.ownsRow w3.heap.size 384 4 (qh oa2 Jq.length dd) Jq.length (cellsOf Jq)):=Hd aW;clear hp aW;obtain⟨d,hd⟩: ∃d,x.o+x.n-p.o=d:=⟨_,rfl⟩;have hw1:IntKind.i64.wrap (x.o+x.n)=x.o+x.n:=qO _ Y;have hw2:IntKind.i64.wrap (x.o+x.n-p.o)=d:=by rw[←hd];exact qO _ Y
     by_cases h2:0<d
     ·by_cases h1:d<p.n
      ·have hw3:IntKind.i64.wrap (p.o+d)=p.o+d:=qO _ Y;have hw4:IntKind.i64.wrap (p.n-d)=p.n-d:=qO _ Y;have hw5:IntKind.i64.wrap (p.f+d)=p.f+d:=qO _ Y;have HC:qy (dN [p] (x.o+x.n)=[⟨p.o+d,p.n-d,p.a,p.f+d⟩]):=Hd (by rw[dN,hd,Int.max_eq_right Y,qH h1];rfl);clear hd JQ Cz
       go_wp2_with(at_builtin;refine bw rfl _ _ 93 rfl w3.heap.size 384 i0 (ql #[U Z 0,U Z 0,U Z 0,U Z 0]) 4 32 underlying93 hi hz0 hz1 hz2 rfl qa _ _ _ (by rfl) (ei.o.alloc _) _ 1 1 (by rfl) rfl (bW [⟨p.o+d,p.n-d,p.a,p.f+d⟩]) (by unfold maxLen;omega) Y (by have:=HB.o.size;simp;omega) qc ?_;intro oa5 kF w5 bT bK _;have br:=Hd bT;have gx:=Hd bK;clear bT bK)
       exact⟨⟨k+1,Y,qc,by rw[kh.o,HC.o];exact Row.snoc ⟨p.o+d,p.n-d,p.a,p.f+d⟩ br.o,HB.o.trans (((aa wr _).mono HB.o.size).trans gx.o)⟩,by simp[intOf];omega⟩
      ·have HC:qy (dN [p] (x.o+x.n)=[]):=Hd (by rw[dN,qB Y];rfl);clear hd JQ Cz;go_wp2_with fail
       exact⟨⟨k+1,Y,qc,by rw[kh.o,HC.o,xg];exact ei.o.alloc _,HB.o.trans ((aa wr _).mono HB.o.size)⟩,by simp[intOf];omega⟩
     ·have hp1:0<p.n:=by omega
      have HC:qy (dN [p] (x.o+x.n)=[p]):=Hd (by rw[dN,hd,Int.max_eq_left Y,qH hp1,Int.add_zero,Int.add_zero,Int.sub_zero];rfl);have hw3:IntKind.i64.wrap p.o=p.o:=qO _ Y;have hw4:IntKind.i64.wrap p.n=p.n:=qO _ Y;have hw5:IntKind.i64.wrap p.f=p.f:=qO _ Y;clear hd JQ Cz
      go_wp2_with(at_builtin;refine bw rfl _ _ 93 rfl w3.heap.size 384 i0 (ql #[U Z 0,U Z 0,U Z 0,U Z 0]) 4 32 underlying93 hi hz0 hz1 hz2 rfl qa _ _ _ (by rfl) (ei.o.alloc _) _ 1 1 (by rfl) rfl (bW [p]) (by unfold maxLen;omega) Y (by have:=HB.o.size;simp;omega) qc ?_;intro oa5 kF w5 bT bK _;have br:=Hd bT;have gx:=Hd bK;clear bT bK)
      exact⟨⟨k+1,Y,qc,by rw[kh.o,HC.o];exact Row.snoc p br.o,HB.o.trans (((aa wr _).mono HB.o.size).trans gx.o)⟩,by simp[intOf];omega⟩
    ·obtain rfl:k=l.length:=by omega
     rw[List.take_length]at aW;obtain⟨oa2,dd,rfl,hc2,_,rL⟩:=aW.form;have HLB:(dN l (x.o+x.n)).length≤64:=qM (vg l _) hl64;have HR:=Hd aW;have XV:=Hd rL;obtain⟨nb,SI⟩: ∃nb,(dN l (x.o+x.n)).length=nb:=⟨_,rfl⟩;have HA:qy (wr.ownsRow w.heap.size 384 4 (qh oa3 na FN) na (cellsOf (cF l x.o))):=Hd (by have:=eE.o.grow HB.o;rw[←HNA.o]at this⊢;exact this);have lS:=Hd (XU (eE.o.mono (Nat.le_refl _)) (Nat.le_refl _) HR.o);rw[SI]at hc2 HLB HR XV lS⊢;have HNB:=Hd SI;have HOL:qy (na+1+nb=(eI l x).length):=Hd (by rw[Nz,HNA.o,SI]);clear aW rL SI
     go_wp2_with(first
      |(at_builtin;go_loud (refine bw (o:=⟨some 64,_,_,_,_,_⟩) rfl _ _ 93 rfl w.heap.size 384 i0 (ql #[U Z 0,U Z 0,U Z 0,U Z 0]) 4 32 underlying93 hi hz0 hz1 hz2 rfl qa _ _ _ (by rfl) HA.o _ 1 1 (by rfl) rfl (bW [x]) (by unfold maxLen;omega) Y Y qc ?_;intro oa5 kF w5 bT bK hg5;have br:=Hd bT;have gx:=Hd ((ai cu.o HB.o).trans bK);have SU:=Hd (World.ownsRow.kept HR.o hg5 (lS.o.symm.imp id id));clear bT bK hg5))
      |(at_builtin;go_loud (refine jG (o:=⟨some 66,_,_,_,_,_⟩) rfl _ _ 93 rfl w.heap.size 384 i0 (ql #[U Z 0,U Z 0,U Z 0,U Z 0]) 4 32 underlying93 hi hz0 hz1 hz2 rfl qa _ _ _ (by rfl) br.o oa2 nb dd (cellsOf (dN l (x.o+x.n))) (by rfl) XV.o (by rw[gw,HNB.o]) (CR (Row.sU SU.o)) (bW _) (by unfold maxLen;omega) Y gx.o.size ?_;intro oa6 agm w6 fE nf hg6;have dT:=Hd fE;have jd:=Hd (gx.o.trans nf);have HPT:=Hd (Row.sU (Ny HOL.o fE));clear fE nf hg6))
      |(go_at_call 489;refine(Kj _ _ _ _ HOL.o HSO.o HOO.o (by have:=HOL.o;omega) _ HPT.o).mono ?_;rintro e w7 ⟨v7,rfl,hr7,hb7⟩;have HR7:=Hd (hr7.mono jd.o.size);have Kk:=Hd (ai jd.o hb7);clear hr7 hb7))
     go_ret2
     exact⟨v7,by rw[HE.o.1];rfl,by rw[HE.o.2];exact HR7.o,Kk.o⟩
  ·have H1:qy (decide (One x)=false):=Hd (qD ho);have HE:qy (jr l x=1∧oO l x=[]):=Hd (by unfold jr oO;rw[qH hg,qH hg,qB ho,qB ho];exact⟨rfl,rfl⟩);have hl64:=hg.1;clear hg ho hl;go_enter func459,ntmps459
   go_wp2_with(first
    |(go_at_call 259;refine(fW _ _ _ _ HG.o Y _ HP.o).mono ?_;rintro e w1 ⟨rfl,hb1⟩;have uV:=Hd (fu.o.grow hb1);have cq:=Hd (ai (aa w _) hb1);clear hb1;obtain⟨p0,p1,p2,p3⟩:=uV.o.cells)
    |(go_at_call 326;refine(pH x _ H1.o _).mono ?_;rintro e w2 ⟨rfl,hb2⟩;have az:=Hd (ai cq.o hb2);clear hb2))
   go_ret2
   exact⟨qh none 0 0,by rw[HE.o.1];rfl,by rw[HE.o.2];exact Row.nil _ _,az.o⟩
 ·have HG:qy (decide (Good l)=false):=Hd (qD hg);have HE:qy (jr l x=11∧oO l x=[]):=Hd (by unfold jr oO;rw[qB hg,qB hg];exact⟨rfl,rfl⟩);clear hg;go_enter func459,ntmps459;go_wp2_with(go_at_call 259;refine(fW _ _ _ _ HG.o Y _ HP.o).mono ?_;rintro e w1 ⟨rfl,hb1⟩;have cq:=Hd (ai (aa w _) hb1);clear hb1)
  go_ret2
  exact⟨qh none 0 0,by rw[HE.o.1];rfl,by rw[HE.o.2];exact Row.nil _ _,cq.o⟩
end ExtW
namespace InoP
open ExtW (Pt mF One jr oO cF Ki cE eI Bu CT afW)
def gL(L:List dw)(x:dw)(may:Bool):List dw:=if may=true∧x.l+x.o=0 then del L x.i else oX L x
def iu(L:List dw)(next kind:Int):Int:=if kind=1∨kind=2 then if 64≤L.length∨2147483647≤next then 67 else 0 else 1
def kr(L:List dw)(next kind:Int):List dw:=if iu L next kind=0 then L++[⟨next,kind,0,0,0,[]⟩]else L
def kt(L:List dw)(next kind:Int):Int:=if iu L next kind=0 then next+1 else next
def mu(L:List dw)(next kind:Int):Int:=if iu L next kind=0 then next else 0
def iO(L:List dw)(i by_:Int):Int:=
 match find L i with
 |none=>60
 |some x=>if(by_=1∨by_= -1)∧i≠1 then if x.l+by_<0∨8<x.l+by_ then 66 else 0 else 1
def eT(L:List dw)(i by_:Int):List dw:=
 match find L i with
 |none=>L
 |some x=>if iO L i by_=0 then gL L {x with l:=x.l+by_} (decide (by_<0))else L
def cU(L:List dw)(i by_:Int):Int:=
 match find L i with
 |none=>60
 |some x=>if by_=1∨by_= -1 then if x.k=1 then 63 else if x.o+by_<0∨128<x.o+by_ then 3 else 0 else 1
def di(L:List dw)(i by_:Int):List dw:=
 match find L i with
 |none=>L
 |some x=>if cU L i by_=0 then gL L {x with o:=x.o+by_} (decide (by_<0))else L
def ng(e:Int):Int:=if e=3 then 67 else e
def mw(L:List dw)(i:Int):Int:=match find L i with|none=>60|some x=>if x.k=1 then 63 else 0
def Kl(off n:Int):Bool:=decide (0≤off∧1≤n∧n≤1024∧off≤8192-n)
def eR(L:List dw)(i off n a:Int):Int:=
 match find L i with
 |none=>60
 |some x=>if x.k=1 then 63 else if Kl off n then ng (jr x.p ⟨off,n,a,0⟩)else 67
def kH(x:dw)(off n a:Int):dw:={x with p:=oO x.p ⟨off,n,a,0⟩,s:=max x.s (off+n)}
def gM(L:List dw)(i off n a:Int):List dw:=
 match find L i with
 |none=>L
 |some x=>if eR L i off n a=0 then oX L (kH x off n a)else L
theorem CW{e:Int}:ng e=0↔e=0:=by unfold ng;split<;>omega
theorem rT{l:List Pt}{x:Pt}(hg:ExtW.Good l)(h:jr l x=0):One x∧ExtW.Good (oO l x)∧oO l x=cE (eI l x):=by
 unfold jr at h;rw[qH hg]at h;by_cases ho:One x
 ·rw[qH ho]at h
  have hl: ¬(cE (eI l x)).length>64:=fun c=>by
   unfold Bu at h;rw[qH c]at h;cases h
  have e:oO l x=cE (eI l x):=by
   unfold oO;rw[qH hg,qH ho];unfold CT;rw[qB hl]
  obtain⟨_,_,c,_⟩:=ExtW.tj (ExtW.mQ hg ho) (ExtW.ti hg ho);refine⟨ho,?_,e⟩;rw[e];exact⟨Y,c⟩
 ·rw[qB ho]at h;cases h
theorem CX: ∀{lo:Int} {l:List Pt} {hi:Int},ExtW.aQ lo l hi→l≠[]→ExtW.look l (mF l-1)≠none
 |_,[],_,_,h=>qZ rfl h
 |_,[x],_,h,_=>by
  have h2:=h.2.1;show ExtW.look [x] (x.o+x.n-1)≠none
  rw[ExtW.look,qH Y];simp
 |_,x::y::l,_,h,_=>by
  have ih:=CX (l:=y::l) h.2.2 qc;have e:mF (x::y::l)=mF (y::l):=by unfold mF;rw[List.getLast?_cons_cons]
  rw[e,ExtW.look];split
  ·simp
  ·exact ih
theorem wj: ∀{lo:Int} {l:List Pt} {hi:Int},ExtW.aQ lo l hi→l≠[]→ExtW.aQ lo l (mF l)
 |_,[],_,_,h=>qZ rfl h
 |_,[x],_,h,_=>⟨h.1,h.2.1,Int.le_refl _⟩
 |_,x::y::l,_,h,_=>by
  have ih:=wj (l:=y::l) h.2.2 qc;have e:mF (x::y::l)=mF (y::l):=by unfold mF;rw[List.getLast?_cons_cons]
  rw[e];exact⟨h.1,h.2.1,ih⟩
theorem NA{lo:Int}{l:List Pt}{hi:Int}(h:ExtW.aQ lo l hi){i:Int}(hi:mF l≤i):ExtW.look l i=none:=by
 by_cases c:l=[]
 ·subst c;rfl
 ·exact ExtW.zW (wj h c) i hi
theorem CY{lo:Int}{l:List Pt}{hi s:Int}(h:ExtW.aQ lo l hi)(h0:0≤s)(hl: ∀i,s≤i→ExtW.look l i=none):mF l≤s:=by
 by_cases c:l=[]
 ·subst c;exact h0
 ·by_cases d:mF l≤s
  ·exact d
  ·exact qZ (hl _ Y) (CX h c)
theorem SX{l:List Pt}{x:Pt}{s:Int}(hg:ExtW.Good l)(h:jr l x=0)(hs:mF l≤s)(h0:0≤s):mF (oO l x)≤max s (x.o+x.n):=by
 obtain⟨ho,hg2,e⟩:=rT hg h;refine CY (ExtW.iK hg2) Y fun i hi=>?_;rw[e,(ExtW.tj (ExtW.mQ hg ho) (ExtW.ti hg ho)).2.2.2 i,ExtW.JO l x i ho.small.2.1,qB Y];exact NA (ExtW.iK hg) Y
theorem CZ: ∀{lo:Int} {l:List Pt} {hi s:Int},ExtW.aQ lo l hi→s≤lo→cF l s=[]
 |_,[],_,_,_,_=>rfl
 |_,x::l,_,s,h,k=>by
  have h1:=h.1;have h2:=h.2.1;rw[cF,qB Y];exact CZ h.2.2 Y
theorem Ad: ∀{lo:Int} {l:List Pt} {hi a b:Int},ExtW.aQ lo l hi→a≤b→(cF l a).length+(ExtW.dN l b).length≤l.length+1
 |_,[],_,_,_,_,_=>by simp[cF,ExtW.dN]
 |_,x::l,_,a,b,h,k=>by
  have h1:=h.1;have h2:=h.2.1;have ih:=Ad (a:=a) (b:=b) h.2.2 k;by_cases c:x.o<a
  ·by_cases d:max 0 (b-x.o)<x.n
   ·have e:cF l a=[]:=CZ h.2.2 Y;rw[cF,qH c,ExtW.dN,qH d,e];have:=ExtW.vg l b;simp;omega
   ·rw[cF,qH c,ExtW.dN,qB d];simp;omega
  ·rw[cF,qB c];by_cases d:max 0 (b-x.o)<x.n
   ·rw[ExtW.dN,qH d];simp;omega
   ·rw[ExtW.dN,qB d];simp;omega
theorem SY{l:List Pt}{x:Pt}(hg:ExtW.Good l)(ho:One x)(hl:l.length+2≤64):jr l x=0∧(oO l x).length≤l.length+2:=by
 have h1:=Ad (a:=x.o) (b:=x.o+x.n) (ExtW.iK hg) (by have:=ho.small;omega);have h2:(eI l x).length≤l.length+2:=by unfold eI;simp;omega
 have h3:=ExtW.rS (eI l x)
 have e:jr l x=0:=by
  unfold jr;rw[qH hg,qH ho];unfold Bu;rw[qB Y]
 refine⟨e,?_⟩;rw[(rT hg e).2.2];omega
theorem Da{x:dw}(h:kX x){off n a:Int}(hk:x.k≠1)(hw:Kl off n=true)(he:jr x.p ⟨off,n,a,0⟩=0):kX (kH x off n a):=by
 have hm:=xr hw;have h2:=rT h.p he;have hs:=h.s;exact⟨h.kind,h.l,h.o,by show 0≤max x.s (off+n)∧max x.s (off+n)≤8192;omega,h2.2.1,SX h.p he h.e hs.1,fun e=>qZ e hk⟩
theorem im.ag{L:List dw}{next:Int}(h:im L next){x y:dw}(hf:find L x.i=some y)(hx:kX x)(may:Bool):im (gL L x may) next:=by
 unfold gL;split
 ·exact h.del _
 ·exact h.oX hf hx
end InoP
namespace ExtW
open Go.RowKit
structure PS(C ba bo:Nat)(w:qo)(at_:Int)(v:qp)(L:List Pt):Prop where
 pat:w.heap[ba]? =some (qn #[U Z at_] 3 (0,0))
 o:w.heap[bo]? =some (qn #[v] 93 (0,0))
 row:Row C w v L
 Wg:ba<C
 XW:bo<C
 ne:ba≠bo
 le:C≤w.heap.size
def Rest(ba bo:Nat)(v:qp)(w J:qo):Prop:=w.heap.size≤J.heap.size∧J.os=w.os∧J.tape=w.tape∧J.output=w.output∧ ∀k,k<w.heap.size→k≠ba→k≠bo→some k≠v.ownBlock→J.heap[k]? =w.heap[k]?
theorem tv{w:qo}{b:Nat}{u v:qp}{t:TypeId}(h:w.heap[b]? =some (qn #[u] t (0,0))):(w.setCell ⟨b,0,none⟩ v).heap[b]? =some (qn #[v] t (0,0)):=
 heap_setCell_same w b 0 #[u] t v h
theorem oA{w:qo}{b i k:Nat}{v:qp}(h:k≠b):(w.setCell ⟨b,i,none⟩ v).heap[k]? =w.heap[k]? :=xj w ⟨b,i,none⟩ v k h
def FO(at_ tt:Int):Int:=if at_<tt then tt else at_
theorem Bw{C:Nat}{w:qo}{v:qp}{L:List Pt}(h:Row C w v L){b:Nat}(hb:b<C):v.ownBlock≠some b:=fun e=>by
 have:=(World.ownsRow.lt h) b e;omega
theorem PS.put{C ba bo:Nat}{w w5:qo}{at_ tt:Int}{v v':qp}{L L':List Pt}(h:PS C ba bo w at_ v L)(hr:Row C w5 v' L')(hb:qz C w w5)(hg:w.grownBy w5 v.ownBlock):
 PS C ba bo ((w5.setCell ⟨bo,0,none⟩ v').setCell ⟨ba,0,none⟩ (U Z tt)) tt v' L'∧Rest ba bo v w ((w5.setCell ⟨bo,0,none⟩ v').setCell ⟨ba,0,none⟩ (U Z tt)):=by
 have K1:=(hb.block ba h.Wg).trans h.pat;have K2:=(hb.block bo h.XW).trans h.o;refine⟨⟨?_,?_,?_,h.Wg,h.XW,h.ne,?_⟩,?_,?_,?_,?_,?_⟩
 ·exact tv ((oA h.ne).trans K1)
 ·exact(oA (fun e=>h.ne e.symm)).trans (tv K2)
 ·exact((ax.refl ba _).setCell 0 _).iB (((ax.refl bo _).setCell 0 _).iB hr (Bw hr h.XW)) (Bw hr h.Wg)
 ·have:=h.le;have:=hb.size;simp;omega
 ·have:=hb.size;simpa using this
 ·exact hb.os
 ·exact hb.tape
 ·exact hb.output
 ·intro k hk h1 h2 h3;rw[oA h1,oA h2];exact hg.block k hk h3
theorem PS.lay{C ba bo:Nat}{w w5:qo}{at_:Int}{v v':qp}{L L':List Pt}(h:PS C ba bo w at_ v L)(hr:Row C w5 v' L')(hb:qz C w w5)(hg:w.grownBy w5 v.ownBlock):
 PS C ba bo (w5.setCell ⟨bo,0,none⟩ v') at_ v' L'∧Rest ba bo v w (w5.setCell ⟨bo,0,none⟩ v'):=by
 have K1:=(hb.block ba h.Wg).trans h.pat;have K2:=(hb.block bo h.XW).trans h.o;refine⟨⟨?_,?_,?_,h.Wg,h.XW,h.ne,?_⟩,?_,?_,?_,?_,?_⟩
 ·exact(oA h.ne).trans K1
 ·exact tv K2
 ·exact((ax.refl bo _).setCell 0 _).iB hr (Bw hr h.XW)
 ·have:=h.le;have:=hb.size;simp;omega
 ·have:=hb.size;simpa using this
 ·exact hb.os
 ·exact hb.tape
 ·exact hb.output
 ·intro k hk h1 h2 h3;rw[oA h2];exact hg.block k hk h3
theorem Rest.refl(ba bo:Nat)(v:qp)(w:qo):Rest ba bo v w w:=⟨Nat.le_refl _,rfl,rfl,rfl,fun _ _ _ _ _=>rfl⟩
theorem Db(C ba bo:Nat)(at_ tt:Int)(v:qp)(L:List Pt)(je:0≤at_∧at_≤8192)(htt:0≤tt∧tt≤8192)(hL:L.length≤1000)(w:qo)(h:PS C ba bo w at_ v L):
 qw qx 261 #[U Z tt,.pointer (some ⟨ba,0,none⟩),.pointer (some ⟨bo,0,none⟩)] w fun e J=>e=qm (qj #[])∧ ∃v',PS C ba bo J (FO at_ tt) v' (L++jh at_ tt)∧Rest ba bo v w J:=by
 obtain⟨i0,hi,hz0,hz1,hz2⟩:=info_parts lg;have Dc:=Hd h;obtain⟨h1,h2,h3,h4,h5,h6,h7⟩:=h;obtain⟨c0,f0⟩:=aC h1 0 qc;obtain⟨c1,f1⟩:=aC h2 0 qc;obtain⟨oa,cap,rfl,hc,_,_⟩:=h3.form;have H1:=Hd h1;have H2:=Hd h2;have H3:=Hd h3;have H6:=Hd h6;have l1:=qK h1;have l2:=qK h2;by_cases aN:at_<tt
 ·have HE:qy (FO at_ tt=tt∧jh at_ tt=[⟨at_,tt-at_,-1,0⟩]):=Hd ⟨qH aN,qH aN⟩;have hw:IntKind.i64.wrap (tt-at_)=tt-at_:=qO _ Y
  have ei:qy (w.ownsRow C 384 4 (qh oa L.length cap) L.length (cellsOf L)):=Hd h3;have n1: ¬ba=bo:=h6;have n2: ¬bo=ba:=fun e=>h6 e.symm;clear h1 h2 h3 h6;go_enter func261,ntmps261
  go_wp2_with(at_builtin;go_loud (refine bw rfl _ _ 93 rfl C 384 i0 (ql #[U Z 0,U Z 0,U Z 0,U Z 0]) 4 32 underlying93 hi hz0 hz1 hz2 rfl qa _ _ _ (by rfl) ei.o _ 1 1 (by rfl) rfl (bW [⟨at_,tt-at_,-1,0⟩]) (by unfold maxLen;omega) Y h7 qc ?_;intro oa5 kF w5 bT bK hg5;have br:=Hd bT;have gx:=Hd bK;have MG:=Hd hg5;have K1:=Hd ((bK.block ba h4).trans H1.o);have K2:=Hd ((bK.block bo h5).trans H2.o);clear bT bK hg5 c0 f0 c1 f1;obtain⟨c0,f0⟩:=aC K1.o 0 qc;obtain⟨c1,f1⟩:=aC K2.o 0 qc))
  go_end0
  obtain⟨r1,r2⟩:=Dc.o.put (tt:=tt) (Row.snoc ⟨at_,tt-at_,-1,0⟩ br.o) gx.o MG.o;refine⟨rfl,⟨qh oa5 (L.length+1) kF,?_⟩,r2⟩;rw[HE.o.1,HE.o.2];exact r1
 ·have HE:qy (FO at_ tt=at_∧jh at_ tt=[]):=Hd ⟨qB aN,qB aN⟩;clear h1 h2 h3 h6;go_enter func261,ntmps261;go_wp2_with fail
  go_end0
  refine⟨rfl,⟨qh oa L.length cap,?_⟩,Rest.refl _ _ _ _⟩;rw[HE.o.1,HE.o.2,xg];exact Dc.o
theorem PS.grow{C ba bo:Nat}{w J:qo}{at_:Int}{v:qp}{L:List Pt}(h:PS C ba bo w at_ v L)(hb:qz w.heap.size w J):PS C ba bo J at_ v L:=
 ⟨(hb.block ba (qK h.pat)).trans h.pat,(hb.block bo (qK h.o)).trans h.o,h.row.grow hb,h.Wg,h.XW,h.ne,qM h.le hb.size⟩
theorem SZ(w:qo)(off:Int):PS (w.heap.size+2) (w.heap.size+1) w.heap.size ((w.alloc (qn #[qh none 0 0] 93)).alloc (qn #[U Z off] 3)) off (qh none 0 0) []:=by
 have h1:=qA (w.alloc (qn #[qh none 0 0] 93)) (qn #[U Z off] 3);have h2:=xm (w.alloc (qn #[qh none 0 0] 93)) (qn #[U Z off] 3) (r:=w.heap.size) qc;have h3:=qA w (qn #[qh none 0 0] 93);refine⟨?_,h2.trans h3,Row.nil _ _,Y,Y,Y,qc⟩;rw[show(w.alloc (Obj.cells #[Value.slice none 0 0] 93)).heap.size=w.heap.size+1 by simp]at h1;exact h1
theorem FP{ba bo B:Nat}{v:qp}{w J:qo}(h:Rest ba bo v w J)(h1:B≤ba)(h2:B≤bo)(h3: ∀k,v.ownBlock=some k→B≤k)(hB:B≤w.heap.size):qz B w J:=
 ⟨h.2.1,h.2.2.1,h.2.2.2.1,h.1,fun k hk=>h.2.2.2.2 k Y Y Y (fun e=>by have:=h3 k e.symm;omega)⟩
theorem PS.below{C ba bo B:Nat}{w J:qo}{at_:Int}{v:qp}{L:List Pt}(h:PS C ba bo w at_ v L)(r:Rest ba bo v w J)(h1:B≤ba)(h2:B≤bo):qz B w J:=
 FP r h1 h2 (fun k e=>by have:=(World.ownsRow.lt h.row) k e;have:=h.Wg;omega) (by have:=h.Wg;have:=h.le;omega)
theorem By(off e:Int)(h:off≤e): ∀(l out:List Pt) (a:Int),off≤a→a≤e→off≤(l.foldl (eJ off e) (out,a)).2∧(l.foldl (eJ off e) (out,a)).2≤e
 |[],_,_,h1,h2=>⟨h1,h2⟩
 |x::l,out,a,h1,h2=>by
  rw[List.foldl_cons];by_cases c:max x.o off<min (x.o+x.n) e
  ·rw[show eJ off e (out,a) x=_ from qH c];exact By off e h l _ _ Y Y
  ·rw[show eJ off e (out,a) x=(out,a)from qB c];exact By off e h l _ _ h1 h2
theorem Km(off e:Int){l:List Pt}{k:Nat}{x:Pt}(h:l[k]? =some x):gI off e (l.take (k+1))=eJ off e (gI off e (l.take k)) x:=by
 unfold gI;rw[jx h,List.foldl_append];rfl
def ku(l:List Pt)(off n:Int):List Pt:=if Good l then if Whole off n 8192 then Hu off (off+n) l else []else []
theorem wk(oa:Option qt)(cap:Nat)(l:List Pt)(off n:Int)(hl:l.length≤9223372036854775807)(w:qo)(h:et w.heap.size oa l w):
 qw qx 188 #[qh oa l.length cap,U Z off,U Z n] w fun e J=> ∃v,e=qm v∧Row w.heap.size J v (ku l off n)∧qz w.heap.size w J:=by
 obtain⟨i0,hi,hz0,hz1,hz2⟩:=info_parts lg;have HP:=Hd h;clear h;by_cases hg:Good l
 ·have HG:qy (decide (Good l)=true):=Hd (qR hg);by_cases hw:Whole off n 8192
  ·have HW:qy (decide (Whole off n 8192)=true):=Hd (qR hw);have HE:qy (ku l off n=Hu off (off+n) l):=Hd (by unfold ku;rw[qH hg,qH hw]);have HO:qy (∀y∈l,One y):=Hd (ga hg.2);have hl64:=hg.1;have Sj:0≤off∧1≤n∧off+n≤8192:=by unfold Whole at hw;omega
   have FQ:=Hd Sj;obtain⟨e,he⟩: ∃e,off+n=e:=⟨_,rfl⟩;have hwe:IntKind.i64.wrap (off+n)=e:=by rw[←he];exact qO _ Y
   rw[he]at HE;have HEE:=Hd he;have FR:qy (0≤off∧off≤e∧e≤8192):=Hd Y;clear he hg hw hl Sj;go_enter func188,ntmps188
   go_wp2_with(first
    |(go_at_call 259;refine(fW _ _ _ _ HG.o Y _ HP.o).mono ?_;rintro e w1 ⟨rfl,hb1⟩;have XT:=Hd (HP.o.grow hb1);have cq:=Hd hb1;clear hb1)
    |(go_at_call 260;refine(eZ _ _ _ _ (.inl rfl) HW.o _).mono ?_;rintro e w2 ⟨rfl,rfl⟩))
   have abT:=SZ w1 off;have HBM:qy (qz w.heap.size w ((w1.alloc (qn #[qh none 0 0] 93)).alloc (qn #[U Z off] 3))):=Hd (ai (ai cq.o (aa w1 _)) (aa _ _));generalize hba:w1.heap.size+1=ba at*;generalize hbo:w1.heap.size=bo at*;have HBO:qy (w.heap.size≤bo):=Hd (by have:=cq.o.size;omega);have oN:qy (w.heap.size≤ba):=Hd (by have:=cq.o.size;omega);generalize hC:bo+2=C at*;generalize(w1.alloc (qn #[qh none 0 0] 93)).alloc (qn #[U Z off] 3)=w2 at*;have agn:=Hd abT;have HC:=Hd (show bo<C∧ba<C by omega);clear abT hba hbo hC
   go_loopw [31] (fun i wr=> ∃(k:Nat) (v:qp),k≤l.length∧i=U Z (k:Int)∧PS C ba bo wr (gI off e (l.take k)).2 v (gI off e (l.take k)).1∧qz w.heap.size w wr) (fun i _=>((l.length:Int)-intOf i).toNat)
   case atStart=>exact⟨0,_,Y,rfl,agn.o,HBM.o⟩
   case round=>
    obtain⟨k,v,hk,rfl,JQ,dz⟩:=hrel;have HB:=Hd dz;have Dc:=Hd JQ;have Ta:=FR.o;have je:=By off e Y (l.take k) [] off Y Y;have ea:qy ((gI off e (l.take k)).1.length≤128):=Hd (by have:=vM off e (l.take k) [] off;simp only[xF,List.length_nil]at this;unfold gI;omega);have nh:qy (0≤(gI off e (l.take k)).2∧(gI off e (l.take k)).2≤8192):=Hd (by unfold gI;omega);clear dz JQ je;by_cases aN:k<l.length
    ·obtain⟨x,hx⟩: ∃x,l[k]? =some x:=⟨_,qN aN⟩;have kh:=Hd (Km off e hx);generalize gI off e (l.take k)=P at Dc kh ea nh;obtain⟨L,at_⟩:=P;simp only at Dc ea nh;obtain⟨a,rfl,oW,c0,c1,c2,c3⟩:=(HP.o.below HB.o) k x hx;have Cz:=(HO.o x (xp hx)).small;have HX:=Hd hx;clear hx;obtain⟨F,hF⟩: ∃F,max x.o off=F:=⟨_,rfl⟩;obtain⟨T,hT⟩: ∃T,min (x.o+x.n) e=T:=⟨_,rfl⟩;have hF':(if x.o<off then off else x.o)=F:=by rw[←hF];split<;>omega
     have hT':(if e<x.o+x.n then e else x.o+x.n)=T:=by rw[←hT];split<;>omega
     have hw1:IntKind.i64.wrap (x.o+x.n)=x.o+x.n:=qO _ Y;have FT:qy (0≤F∧T≤8192):=Hd Y;by_cases hft:F<T
     ·obtain⟨M,hM⟩: ∃M,L++jh at_ F=M:=⟨_,rfl⟩
      have HM:=Hd hM
      have HML:M.length≤129:=by
       rw[←hM];have:=ea.o;have:(jh at_ F).length≤1:=by unfold jh;split<;>simp
       simp only[qY];omega
      clear hM;have aF:qy (gI off e (l.take (k+1))=(M++[⟨F,T-F,x.a,x.f+F-x.o⟩],T)):=Hd (by rw[kh.o,←HM.o,←hF,←hT];exact qH Y);have hwa:IntKind.i64.wrap (T-F)=T-F:=qO _ Y;have Sj:IntKind.i64.wrap (x.f+F)=x.f+F:=qO _ Y;have hwc:IntKind.i64.wrap (x.f+F-x.o)=x.f+F-x.o:=qO _ Y;clear hF hT;go_wp2_with fail
      refine dJ qd qd ?_
      repeat first
       |(refine cM ?_ ?_;(·first|rfl|(go_simp;done));simp only[pS,aS,sZ,sS])
       |(refine du (v:=?_) ?_ ?_ ?_
         rotate_left
         ·first|rfl|(go_simp;done)
         ·intro wq hq;have g0:=ah hq (aV wr #[U Z x.o,U Z x.n,U Z x.a,U Z x.f] 384 0 _ rfl);have g1:=ah hq (aV wr #[U Z x.o,U Z x.n,U Z x.a,U Z x.f] 384 1 _ rfl);go_simp
          with_reducible rfl
         simp only[pS,aS,sZ,sS])
      refine dv ?_;intro w2 hb2;have lh:qy (Nx w2 wr.heap.size x):=Hd ((Nx.made wr x).grow hb2);have Tb:=Hd ((Dc.o.grow (aa wr _)).grow hb2);have az:qy (qz w.heap.size w w2):=Hd (ai (ai HB.o (aa wr _)) hb2);have HWR:qy (wr.heap.size<w2.heap.size):=Hd (by have:=hb2.size;simp at this;omega);clear hb2
      go_wp2_with(first
       |(go_at_call 261;refine(Db C ba bo at_ F v L nh.o (by have:=FT.o;omega) (by have:=ea.o;omega) _ Tb.o).mono ?_
         rintro e3 w3⟨rfl,v3,hp3,hr3⟩;rw[HM.o]at hp3;have SS:qy (Nx w3 wr.heap.size x):=Hd ((hr3.2.2.2.2 wr.heap.size HWR.o (by have:=Dc.o.le;have:=HC.o;omega) (by have:=Dc.o.le;have:=HC.o;omega) (fun e=>by have:=((World.ownsRow.lt Dc.o.row) _ e.symm).2;omega)).trans lh.o);have cu:qy (qz w.heap.size w w3):=Hd (az.o.trans (Tb.o.below hr3 oN.o HBO.o));obtain⟨oa3,FN,rfl,hc3,_,_⟩:=hp3.row.form;have Dd:=Hd hp3;have hc3z:=hp3.le;obtain⟨p0,p1,p2,p3⟩:=SS.o.cells;obtain⟨q0,r0⟩:=aC hp3.o 0 qc;have ei:qy (w3.ownsRow C 384 4 (qh oa3 M.length FN) M.length (cellsOf M)):=Hd hp3.row
         clear hp3 hr3)
       |(at_builtin;go_loud (refine bw rfl _ _ 93 rfl C 384 i0 (ql #[U Z 0,U Z 0,U Z 0,U Z 0]) 4 32 underlying93 hi hz0 hz1 hz2 rfl qa _ _ _ (by rfl) ei.o _ 1 1 (by rfl) rfl (bW [⟨F,T-F,x.a,x.f+F-x.o⟩]) (by unfold maxLen;omega) Y hc3z qc ?_;intro oa5 kF w5 bT bK hg5;have br:=Hd bT;have gx:=Hd bK;have MG:=Hd hg5;have K1:=Hd ((bK.block ba HC.o.2).trans Dd.o.pat);have K2:=Hd ((bK.block bo HC.o.1).trans Dd.o.o);clear bT bK hg5 q0 r0 p0 p1 p2 p3;obtain⟨s0,f0⟩:=aC K1.o 0 qc;obtain⟨s1,f1⟩:=aC K2.o 0 qc;have n1: ¬ba=bo:=Dd.o.ne;have n2: ¬bo=ba:=fun e=>Dd.o.ne e.symm)))
      obtain⟨r1,r2⟩:=Dd.o.put (tt:=T) (Row.snoc ⟨F,T-F,x.a,x.f+F-x.o⟩ br.o) gx.o MG.o;exact⟨⟨k+1,qh oa5 (M.length+1) kF,Y,qc,by rw[aF.o];exact r1,cu.o.trans (Dd.o.below r2 oN.o HBO.o)⟩,by simp[intOf];omega⟩
     ·have aF:qy (gI off e (l.take (k+1))=(L,at_)):=Hd (by rw[kh.o];exact qB Y);have akt:T≤F:=Y;clear hF hT hft;go_wp2_with fail
      refine dJ qd qd ?_
      repeat first
       |(refine cM ?_ ?_;(·first|rfl|(go_simp;done));simp only[pS,aS,sZ,sS])
       |(refine du (v:=?_) ?_ ?_ ?_
         rotate_left
         ·first|rfl|(go_simp;done)
         ·intro wq hq;have g0:=ah hq (aV wr #[U Z x.o,U Z x.n,U Z x.a,U Z x.f] 384 0 _ rfl);have g1:=ah hq (aV wr #[U Z x.o,U Z x.n,U Z x.a,U Z x.f] 384 1 _ rfl);go_simp
          with_reducible rfl
         simp only[pS,aS,sZ,sS])
      refine dv ?_;intro w2 hb2;have Tb:=Hd ((Dc.o.grow (aa wr _)).grow hb2);have az:qy (qz w.heap.size w w2):=Hd (ai (ai HB.o (aa wr _)) hb2);clear hb2;go_wp2_with fail
      exact⟨⟨k+1,v,Y,qc,by rw[aF.o];exact Tb.o,az.o⟩,by simp[intOf];omega⟩
    ·obtain rfl:k=l.length:=by omega
     rw[List.take_length]at Dc ea nh;have yY:qy (Hu off e l=(gI off e l).1++jh (gI off e l).2 e):=Hd rfl;generalize gI off e l=P at Dc ea nh yY;obtain⟨L,at_⟩:=P;simp only at Dc ea nh yY;go_wp2_with(go_at_call 261;refine(Db C ba bo at_ e v L nh.o (by have:=FR.o;omega) (by have:=ea.o;omega) _ Dc.o).mono ?_;rintro e3 w3 ⟨rfl,v3,hp3,hr3⟩;have cu:qy (qz w.heap.size w w3):=Hd (HB.o.trans (Dc.o.below hr3 oN.o HBO.o));have Dd:=Hd hp3;obtain⟨q0,r0⟩:=aC hp3.o 0 qc;clear hp3 hr3)
     go_ret;exact⟨v3,rfl,by rw[HE.o,yY.o];exact Dd.o.row.mono (by have:=HC.o;have:=HBO.o;omega),cu.o⟩
  ·have HW:qy (decide (Whole off n 8192)=false):=Hd (qD hw);have HE:qy (ku l off n=[]):=Hd (by unfold ku;rw[qH hg,qB hw]);have hl64:=hg.1;clear hg hw hl;go_enter func188,ntmps188
   go_wp2_with(first
    |(go_at_call 259;refine(fW _ _ _ _ HG.o Y _ HP.o).mono ?_;rintro e w1 ⟨rfl,hb1⟩;have cq:=Hd hb1;clear hb1)
    |(go_at_call 260;refine(eZ _ _ _ _ (.inl rfl) HW.o _).mono ?_;rintro e w2 ⟨rfl,rfl⟩))
   go_ret;exact⟨qh none 0 0,rfl,by rw[HE.o];exact Row.nil _ _,cq.o⟩
 ·have HG:qy (decide (Good l)=false):=Hd (qD hg);have HE:qy (ku l off n=[]):=Hd (by unfold ku;rw[qB hg]);clear hg;go_enter func188,ntmps188;go_wp2_with(go_at_call 259;refine(fW _ _ _ _ HG.o hl _ HP.o).mono ?_;rintro e w1 ⟨rfl,hb1⟩;have cq:=Hd hb1;clear hb1)
  go_ret;exact⟨qh none 0 0,rfl,by rw[HE.o];exact Row.nil _ _,cq.o⟩
