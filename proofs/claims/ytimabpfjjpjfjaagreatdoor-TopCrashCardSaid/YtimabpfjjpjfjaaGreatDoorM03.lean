/- Part 3 of the texts that the law's walk needs. -/
import Derived.Test.YtimabpfjjpjfjaaGreatDoorM00
import Derived.Maps.OwnSet
import Derived.Maps.RangeWalk
import Derived.DeepKeys4
set_option maxHeartbeats 3200000
set_option maxRecDepth 100000
set_option linter.all false
open Go renaming Program→qv,TypeId→qu,Value→qp,World→qo,Calls→qw
open Go.RowKit renaming Below→qz,Hid→qy
open Go.Value renaming tuple→qj,bool→qk,pointer→qi,agg→ql,int→U,string→qg
open Go.IntKind renaming i64→Z
open Go.Obj renaming cells→qn
open Go.Ending renaming returned→qm
namespace Go.Proofs.YtimabpfjjpjfjaaGreatDoor
open Tryz
open Tryz renaming prog→qx
section
open Go.RowKit Go.MapKept Go.WideShapes Go.ChangeMaps
open Go.Maps (Keyed)
structure MK(P:qv)(k:qu){κ:Type}(mk:κ→qp)(ok:κ→Prop):Prop where
 keyed:Keyed P k
 key: ∀x,ok x→ ∃l,keyOf P k (mk x)=some l
 inj: ∀x y,mk x=mk y→x=y
section
variable{κ β:Type}{mk:κ→qp}{ok:κ→Prop}{mv:β→qp}
def mX(mk:κ→qp)(ok:κ→Prop)(mv:β→qp)(es:Array MapEntry)(g:κ→Option β):Prop:=
 (∀e∈es.toList,∃x y,e.key=mk x∧ok x∧e.val=mv y∧g x=some y)∧ ∀x y,g x=some y→ ∃e∈es.toList,e.key=mk x
def an(mk:κ→qp)(ok:κ→Prop)(mv:β→qp)(w:qo)(b n:Nat)(g:κ→Option β):Prop:=
 ∃es clock,w.heap[b]? =some (.map es clock)∧es.size≤n∧Stamped es clock∧mX mk ok mv es g
def aI(mk:κ→qp)(ok:κ→Prop)(mv:β→qp)(w:qo)(b r n:Nat)(g:κ→Option β)(seen:κ→Bool)(cT:Nat):Prop:=
 ∃es clock since sn c0,w.heap[b]? =some (.map es clock)∧es.size≤n∧Stamped es clock∧mX mk ok mv es g∧w.heap[r]? =some (.mapIter (some b) since sn c0)∧
  (∀e∈es.toList,e.born<since)∧since≤c0∧since≤clock∧cT=(leftOf es sn).size∧ ∀e∈es.toList,∀x,e.key=mk x→sn.contains e.born=seen x
theorem an.lt{w:qo}{b n:Nat}{g:κ→Option β}(h:an mk ok mv w b n g):b<w.heap.size:=by
 obtain⟨es,clock,hb,_⟩:=h;exact qK hb
theorem an.made(w:qo):an mk ok mv (w.alloc (.map #[] 0)) w.heap.size 0 (fun _:κ=>(none:Option β)):=
 ⟨#[],0,qA w _,Nat.le_refl _,stamped_empty 0,fun e he=>by simp at he,fun x y h=>by cases h⟩
theorem an.mono{w:qo}{b n n':Nat}{g:κ→Option β}(h:an mk ok mv w b n g)(hn:n≤n'):an mk ok mv w b n' g:=by
 obtain⟨es,clock,hb,hs,r⟩:=h;exact⟨es,clock,hb,qM hs hn,r⟩
theorem an.of_block{w J:qo}{b n:Nat}{g:κ→Option β}(h:an mk ok mv w b n g)(hb:J.heap[b]? =w.heap[b]?):an mk ok mv J b n g:=by
 obtain⟨es,clock,hb1,r⟩:=h;exact⟨es,clock,hb.trans hb1,r⟩
theorem an.ag{w J:qo}{b n:Nat}{g:κ→Option β}(h:an mk ok mv w b n g)(k:qz w.heap.size w J):an mk ok mv J b n g:=
 h.of_block (k.block b h.lt)
theorem an.only{w J:qo}{b c n:Nat}{g:κ→Option β}(h:an mk ok mv w b n g)(k:ax c w J)(bd:b≠c):an mk ok mv J b n g:=
 h.of_block (k.block b h.lt (fun e=>bd (by injection e)))
theorem an.drewN{w:qo}{b n:Nat}{g:κ→Option β}(h:an mk ok mv w b n g)(m:Nat):an mk ok mv (w.drewN m) b n g:=h.of_block rfl
theorem an.drew{w:qo}{b n:Nat}{g:κ→Option β}(h:an mk ok mv w b n g):an mk ok mv w.drew b n g:=h.of_block rfl
theorem an.alloc{w:qo}{b n:Nat}{g:κ→Option β}(h:an mk ok mv w b n g)(o:Obj):an mk ok mv (w.alloc o) b n g:=h.ag (aa w o)
theorem an.congr{w:qo}{b n:Nat}{g g':κ→Option β}(h:an mk ok mv w b n g)(e:g=g'):an mk ok mv w b n g':=e▸h
variable{P:qv}{k:qu}
theorem mX.has{es:Array MapEntry}{g:κ→Option β}(M:MK P k mk ok)(h:mX mk ok mv es g){e:MapEntry}(he:e∈es.toList){x:κ}(hx:e.key=mk x): ∃y,e.val=mv y∧g x=some y:=by
 obtain⟨x',y,h1,_,h2,h3⟩:=h.1 e he;obtain rfl:=M.inj _ _ (hx.symm.trans h1);exact⟨y,h2,h3⟩
theorem mX.keys{es:Array MapEntry}{g:κ→Option β}(M:MK P k mk ok)(h:mX mk ok mv es g): ∀e∈es.toList,∃l,keyOf P k e.key=some l:=fun e he=>by
 obtain⟨x,y,h1,h2,_⟩:=h.1 e he;rw[h1];exact M.key x h2
theorem pK{es:Array MapEntry}{clock:Nat}(h:Stamped es clock){x e:MapEntry}(hx:x∈es.toList)(he:e∈es.toList)(hk:x.key=e.key):x=e:=
 entry_eq_of_key ((stamped_iff es clock).1 h).2.2 hx he hk
theorem mem_modify{es:Array MapEntry}{clock:Nat}(S:Stamped es clock){j:Nat}{e0:MapEntry}(h2:es.toList[j]? =some e0)(v:qp)(e:MapEntry):
 e∈(es.modify j fun e'=>{e' with key:=e0.key,val:=v}).toList↔e={e0 with val:=v}∨(e∈es.toList∧e.key≠e0.key):=by
 have Ac:j<es.toList.length:=(xb.1 h2).1
 have Ns:(es.modify j (fun e'=>{e' with key:=e0.key,val:=v})).toList=es.toList.set j {e0 with val:=v}:=by
  rw[Array.toList_modify,modify_eq_set _ _ _ _ h2]
 rw[Ns];constructor
 ·intro hx;obtain⟨i,hi,ex⟩:=List.getElem_of_mem hx;rw[List.getElem_set]at ex;split at ex
  ·exact Or.inl ex.symm
  ·rename_i bd;have hi':i<es.toList.length:=by simpa using hi
   refine Or.inr ⟨ex▸List.getElem_mem hi',fun hk=>bd ?_⟩;have h4:=pK S (ex▸List.getElem_mem hi') (xp h2) hk;have Sx:=((stamped_iff es clock).1 S).2.1
   have h5:(es.toList.map (·.born))[j]'(by simpa using Ac)=(es.toList.map (·.born))[i]'(by simpa using hi'):=by
    rw[List.getElem_map,List.getElem_map,ex,h4];rw[qN Ac]at h2;injection h2 with h2
    rw[h2]
   exact(List.getElem_inj Sx).1 h5
 ·rintro(rfl|⟨hx,bd⟩)
  ·exact List.mem_iff_getElem.2 ⟨j,by simpa using Ac,qc⟩
  ·obtain⟨i,hi,rfl⟩:=List.getElem_of_mem hx;refine List.mem_iff_getElem.2 ⟨i,by simpa using hi,?_⟩;rw[List.getElem_set,qB];rintro rfl;rw[qN hi]at h2;injection h2 with h2
   exact bd (by rw[h2])
theorem og{w:qo}{b i:Nat}(o':Obj)(hi:i≠b):(setBlock w b o').heap[i]? =w.heap[i]? :=by
 simp[setBlock,Ne.symm hi]
theorem bH(w:qo)(b:Nat)(o':Obj):ax b w (setBlock w b o'):=
 ⟨rfl,rfl,rfl,by simp[setBlock],fun i _ hi=>og o' (fun e=>hi (by rw[e]))⟩
theorem mX.push [DecidableEq κ]{es:Array MapEntry}{g:κ→Option β}(h:mX mk ok mv es g){x:κ}{y:β}(bI:ok x)(age: ∀e∈es.toList,e.key≠mk x)(c:Nat):
 mX mk ok mv (es.push ⟨mk x,mv y,c⟩) (fun z=>if z=x then some y else g z):=by
 refine⟨fun e he=>?_,fun z v hz=>?_⟩
 ·simp only[Array.toList_push,xa,qS]at he;rcases he with he|rfl
  ·obtain⟨x',y',h1,h2,h3,h4⟩:=h.1 e he;refine⟨x',y',h1,h2,h3,?_⟩;show(if x'=x then _ else _)=_;rw[qB (fun e'=>age e he (by rw[h1,e'])),h4]
  ·exact⟨x,y,rfl,bI,rfl,by show(if x=x then _ else _)=_;rw[qH rfl]⟩
 ·simp only[Array.toList_push,xa,qS];replace hz:(if z=x then some y else g z)=some v:=hz;split at hz
  ·rename_i e;subst e;exact⟨_,.inr rfl,rfl⟩
  ·obtain⟨e,he,hk⟩:=h.2 z v hz;exact⟨e,.inl he,hk⟩
theorem mX.set [DecidableEq κ]{es:Array MapEntry}{clock:Nat}{g:κ→Option β}(M:MK P k mk ok)(S:Stamped es clock)(h:mX mk ok mv es g){x:κ}{y:β}{j:Nat}{e0:MapEntry}(h2:es.toList[j]? =some e0)(h3:e0.key=mk x):
 mX mk ok mv (es.modify j fun e'=>{e' with key:=mk x,val:=mv y}) (fun z=>if z=x then some y else g z):=by
 have h0:=xp h2;obtain⟨ek,ev,eb⟩:=e0;obtain rfl:ek=mk x:=h3;have hm:=mem_modify S h2 (mv y);simp only at hm;refine⟨fun e he=>?_,fun z v hz=>?_⟩
 ·rcases(hm e).1 he with rfl|⟨he,bd⟩
  ·obtain⟨x',y',k1,k2,_⟩:=h.1 _ h0;obtain rfl:=M.inj _ _ k1;exact⟨x,y,rfl,k2,rfl,by show(if x=x then _ else _)=_;rw[qH rfl]⟩
  ·obtain⟨x',y',k1,k2,k3,k4⟩:=h.1 e he;refine⟨x',y',k1,k2,k3,?_⟩;show(if x'=x then _ else _)=_;rw[qB (fun e'=>bd (by rw[k1,e'])),k4]
 ·replace hz:(if z=x then some y else g z)=some v:=hz;split at hz
  ·rename_i e;subst e;exact⟨_,(hm _).2 (.inl rfl),rfl⟩
  ·rename_i bd;obtain⟨e,he,hk⟩:=h.2 z v hz;exact⟨e,(hm _).2 (.inr ⟨he,fun e'=>bd (M.inj _ _ (hk.symm.trans e'))⟩),hk⟩
theorem tr{es:Array MapEntry}{g:κ→Option β}(M:MK P k mk ok)(h:mX mk ok mv es g)(w:qo){x:κ}(bI:ok x):
 ((Instr.findKey k (mk x) es.toList).run P w= .ok none w∧(∀e∈es.toList,e.key≠mk x)∧g x=none)∨
 ∃j e0 y,(Instr.findKey k (mk x) es.toList).run P w= .ok (some (j,mv y)) w∧es.toList[j]? =some e0∧e0.key=mk x∧e0.val=mv y∧g x=some y:=by
 obtain⟨l,hl⟩:=M.key x bI;rcases M.keyed.find w hl es.toList (h.keys M)with⟨h1,h2⟩|⟨j,e0,h1,h2,h3⟩
 ·refine .inl ⟨h1,h2,?_⟩
  cases hg:g x with
  |none=>rfl
  |some y=>
   obtain⟨e,he,hk⟩:=h.2 x y hg;exact qZ hk (h2 e he)
 ·obtain⟨y,hy,hg⟩:=h.has M (xp h2) h3;exact .inr ⟨j,e0,y,by rw[h1,hy],h2,h3,hy,hg⟩
theorem an.store [DecidableEq κ]{w:qo}{b n:Nat}{g:κ→Option β}{t e:qu}(h:an mk ok mv w b n g)(M:MK P k mk ok)(ht:P.underlying t=some (.map k e))(x:κ)(y:β)(bI:ok x):
 ∃J,(Instr.mapUpdate t (.map (some b)) (mk x) (mv y)).run P w= .ok () J∧an mk ok mv J b (n+1) (fun z=>if z=x then some y else g z)∧ax b w J∧J.heap.size=w.heap.size:=by
 obtain⟨es,clock,hb,hs,S,E⟩:=h;obtain⟨l,hl⟩:=M.key x bI;rcases tr M E w bI with⟨h1,h2,h3⟩|⟨j,e0,y0,h1,h2,h3,h4,h5⟩
 ·refine⟨setBlock w b (.map (es.push ⟨mk x,mv y,clock⟩) (clock+1)),?_,⟨_,_,heap_setBlock_same hb _,by simp;omega,stamped_push S h2,E.push bI h2 _⟩,bH _ _ _,by simp[setBlock]⟩;simp[Instr.mapUpdate,run_underlying ht,MapKept.run_getObj_map hb,M.keyed.check w false hl,h1,MapKept.run_setObj_map _ hb,Result.andThen,setBlock]
 ·have hj:es[j]? =some e0:=by simpa using h2
  refine⟨setBlock w b (.map (es.modify j fun e'=>{e' with key:=mk x,val:=mv y}) clock),?_,⟨_,_,heap_setBlock_same hb _,by simp;omega,
   stamped_modify S _ _ (fun _ _=>rfl) (fun e' _ he'=>by rw[hj]at he';cases he';exact h3.symm),E.set M S h2 h3⟩,bH _ _ _,by simp[setBlock]⟩
  simp[Instr.mapUpdate,run_underlying ht,MapKept.run_getObj_map hb,M.keyed.check w false hl,h1,hj,h3,M.keyed.stays w hl,MapKept.run_setObj_map _ hb,Result.andThen,setBlock]
theorem an.look{w:qo}{b n:Nat}{g:κ→Option β}{t e:qu}(h:an mk ok mv w b n g)(M:MK P k mk ok)(ht:P.underlying t=some (.map k e)){z:qp}(hz:(zeroValue e).run P w= .ok z w)(x:κ)(bI:ok x)(c:Bool):
 (Instr.lookup t (.map (some b)) (mk x) c).run P w= .ok (if c then qj #[((g x).map mv).getD z,qk (g x).isSome]else((g x).map mv).getD z) w:=by
 obtain⟨es,clock,hb,hs,S,E⟩:=h;obtain⟨l,hl⟩:=M.key x bI;rcases tr M E w bI with⟨h1,h2,h3⟩|⟨j,e0,y0,h1,h2,h3,h4,h5⟩
 ·simp[Instr.lookup,run_underlying ht,MapKept.run_getObj_map hb,M.keyed.check w _ hl,h1,hz,Result.andThen,h3]
 ·simp[Instr.lookup,run_underlying ht,MapKept.run_getObj_map hb,M.keyed.check w _ hl,h1,Result.andThen,h5]
theorem an.range{w:qo}{b n:Nat}{g:κ→Option β}{t e:qu}(h:an mk ok mv w b n g)(ht:P.underlying t=some (.map k e)):
 ∃J cT,(Instr.range t (.map (some b))).run P w= .ok (qi (some ⟨w.heap.size,0,none⟩)) J∧aI mk ok mv J b w.heap.size n g (fun _=>false) cT∧cT≤n∧qz w.heap.size w J∧J.heap.size=w.heap.size+1:=by
 have aN:=h.lt;obtain⟨es,clock,hb,hs,S,E⟩:=h;refine⟨_,es.size,run_range_map w t k e b es clock ht hb,⟨es,clock,clock,#[],clock,(xm w _ aN).trans hb,hs,S,E,qA w _,S.1,Nat.le_refl _,Nat.le_refl _,?_,?_⟩,hs,aa w _,qc⟩
 ·unfold leftOf;rw[Array.filter_eq_self.2 (fun x _=>by simp)]
 ·intro e he x hx;simp
theorem aI.map{w:qo}{b r n cT:Nat}{g:κ→Option β}{seen:κ→Bool}(h:aI mk ok mv w b r n g seen cT):an mk ok mv w b n g:=by
 obtain⟨es,clock,since,sn,c0,hb,hs,S,E,_⟩:=h;exact⟨es,clock,hb,hs,S,E⟩
theorem aI.ne{w:qo}{b r n cT:Nat}{g:κ→Option β}{seen:κ→Bool}(h:aI mk ok mv w b r n g seen cT):r≠b:=by
 obtain⟨es,clock,since,sn,c0,hb,_,_,_,hr,_⟩:=h;rintro rfl;rw[hb]at hr;cases hr
theorem aI.lt{w:qo}{b r n cT:Nat}{g:κ→Option β}{seen:κ→Bool}(h:aI mk ok mv w b r n g seen cT):r<w.heap.size:=by
 obtain⟨es,clock,since,sn,c0,hb,_,_,_,hr,_⟩:=h;exact qK hr
theorem aI.tu{w J:qo}{b r n cT:Nat}{g:κ→Option β}{seen:κ→Bool}(h:aI mk ok mv w b r n g seen cT)(h1:J.heap[b]? =w.heap[b]?)(h2:J.heap[r]? =w.heap[r]?):aI mk ok mv J b r n g seen cT:=by
 obtain⟨es,clock,since,sn,c0,hb,hs,S,E,hr,rest⟩:=h;exact⟨es,clock,since,sn,c0,h1.trans hb,hs,S,E,h2.trans hr,rest⟩
theorem aI.ag{w J:qo}{b r n cT:Nat}{g:κ→Option β}{seen:κ→Bool}(h:aI mk ok mv w b r n g seen cT)(k:qz w.heap.size w J):aI mk ok mv J b r n g seen cT:=
 h.tu (k.block b h.map.lt) (k.block r h.lt)
theorem aI.only{w J:qo}{b r c n cT:Nat}{g:κ→Option β}{seen:κ→Bool}(h:aI mk ok mv w b r n g seen cT)(k:ax c w J)(h1:b≠c)(h2:r≠c):aI mk ok mv J b r n g seen cT:=
 h.tu (k.block b h.map.lt (fun e=>h1 (by injection e))) (k.block r h.lt (fun e=>h2 (by injection e)))
theorem aI.next [DecidableEq κ]{w:qo}{b r n cT:Nat}{g:κ→Option β}{seen:κ→Bool}(h:aI mk ok mv w b r n g seen cT)(M:MK P k mk ok)(ty:qu):
 ((∀x,g x≠none→seen x=true)∧(Instr.next (qi (some ⟨r,0,none⟩)) false ty).run P w= .ok (qj #[qk false]) w)∨
 ∃x y J pL,ok x∧g x=some y∧seen x=false∧(Instr.next (qi (some ⟨r,0,none⟩)) false ty).run P w= .ok (qj #[qk true,mk x,mv y]) J∧
  aI mk ok mv J b r n g (fun z=>seen z||decide (z=x)) pL∧pL<cT∧ax r w J∧J.heap.size=w.heap.size∧(Instr.entry (qi (some ⟨r,0,none⟩))).run P J= .ok (qj #[mk x,mv y]) J:=by
 have bd:=h.ne;obtain⟨es,clock,since,sn,c0,hb,hs,S,E,hr,hold,hsc,XJ,rfl,jJ⟩:=h;rcases run_next_at (P:=P) w ty r b since c0 sn es clock hr hb hold hsc with⟨h0,dV⟩|⟨e,he,w1,hal,dV⟩
 ·refine .inl ⟨fun x hx=>?_,dV⟩
  cases hg:g x with
  |none=>exact qZ hg hx
  |some y=>
   obtain⟨e,he,hk⟩:=E.2 x y hg;rw[←jJ e he x hk];exact all_seen es sn h0 e he
 ·obtain⟨hem,hes⟩:=mem_left he;obtain⟨x,y,k1,k2,k3,k4⟩:=E.1 e hem;have hr1:w1.heap[r]? =some (.mapIter (some b) since sn c0):=by rcases hal with rfl|rfl<;>exact hr
  have hb1:w1.heap[b]? =some (.map es clock):=by rcases hal with rfl|rfl<;>exact hb
  have XK:=heap_set (o':= .mapIter (some b) since (sn.push e.born) clock) hr1;have hb':(setBlock w1 r (.mapIter (some b) since (sn.push e.born) clock)).heap[b]? =some (.map es clock):=(XK.2 b (fun e1=>bd e1.symm)).trans hb1;have sT:=(stamped_iff es clock).1 S;have Nt:=run_entry_at (P:=P) _ r b since sn es clock e XK.1 hb' hem sT.2.1;rw[k1,k3]at dV Nt;refine .inr ⟨x,y,_,_,k2,k4,by rw[←jJ e hem x k1];exact hes,dV,⟨es,clock,since,sn.push e.born,clock,hb',hs,S,E,XK.1,hold,XJ,XJ,rfl,fun e' he' z hz=>?_⟩,left_shrinks es sn e he,?_,?_,Nt⟩
  ·rw[contains_push,jJ e' he' z hz]
   congr 1
   by_cases hzx:z=x
   ·subst hzx;rw[pK S he' hem (hz.trans k1.symm)];simp
   ·have:e'.born≠e.born:=fun XL=>by
     have:=born_inj sT.2.1 he' hem XL;subst this;exact hzx (M.inj _ _ (hz.symm.trans k1))
    simp[hzx,this]
  ·rcases hal with rfl|rfl
   ·exact bH _ _ _
   ·exact(ax.refl r w).drew.trans (bH _ _ _)
  ·rcases hal with rfl|rfl<;>simp[setBlock]
theorem aI.store [DecidableEq κ]{w:qo}{b r n cT:Nat}{g:κ→Option β}{seen:κ→Bool}{t e:qu}(h:aI mk ok mv w b r n g seen cT)(M:MK P k mk ok)(ht:P.underlying t=some (.map k e))(x:κ)(y:β)(bI:ok x)(hg:g x≠none):
 ∃J,(Instr.mapUpdate t (.map (some b)) (mk x) (mv y)).run P w= .ok () J∧aI mk ok mv J b r n (fun z=>if z=x then some y else g z) seen cT∧ax b w J∧J.heap.size=w.heap.size:=by
 have bd:=h.ne;obtain⟨es,clock,since,sn,c0,hb,hs,S,E,hr,hold,hsc,XJ,rfl,jJ⟩:=h;obtain⟨l,hl⟩:=M.key x bI;rcases tr M E w bI with⟨h1,h2,h3⟩|⟨j,e0,y0,h1,h2,h3,h4,h5⟩
 ·exact qZ h3 hg
 ·have hj:es[j]? =some e0:=by simpa using h2
  have E':=E.set (y:=y) M S h2 h3;have hm:=mem_modify S h2 (mv y);rw[h3]at hm;have h0:=xp h2
  refine⟨setBlock w b (.map (es.modify j fun e'=>{e' with key:=mk x,val:=mv y}) clock),?_,⟨_,clock,since,sn,c0,heap_setBlock_same hb _,by simp;omega,
   stamped_modify S _ _ (fun _ _=>rfl) (fun e' _ he'=>by rw[hj]at he';cases he';exact h3.symm),E',(og _ bd).trans hr,fun e' he'=>?_,hsc,XJ,?_,fun e' he' z hz=>?_⟩,bH _ _ _,by simp[setBlock]⟩
  ·simp[Instr.mapUpdate,run_underlying ht,MapKept.run_getObj_map hb,M.keyed.check w false hl,h1,hj,h3,M.keyed.stays w hl,MapKept.run_setObj_map _ hb,Result.andThen,setBlock]
  ·rcases(hm e').1 he' with rfl|⟨he',_⟩
   ·exact hold e0 h0
   ·exact hold e' he'
  ·have Ns:(es.modify j (fun e'=>{e' with key:=mk x,val:=mv y})).toList=es.toList.set j {e0 with key:=mk x,val:=mv y}:=by
    rw[Array.toList_modify,modify_eq_set _ _ _ _ h2]
   have ln: ∀a:Array MapEntry,(leftOf a sn).size=a.toList.countP fun e=> !sn.contains e.born:=fun a=>by
    unfold leftOf;rw[←Array.length_toList,Array.toList_filter,←List.countP_eq_length_filter]
   rw[ln,ln,Ns];have Ac:j<es.toList.length:=(xb.1 h2).1;have he0:es.toList[j]=e0:=by rw[qN Ac]at h2;injection h2
   rw[List.countP_set Ac,he0]
   cases hc:sn.contains e0.born with
   |true=>
    simp only[Bool.not_true,xK,if_false];omega
   |false=>
    have:0<es.toList.countP (fun e=> !sn.contains e.born):=List.countP_pos_iff.2 ⟨e0,h0,by rw[hc];rfl⟩;simp only[Bool.not_false,if_true];omega
  ·rcases(hm e').1 he' with rfl|⟨he',_⟩
   ·exact jJ e0 h0 z (h3.trans hz)
   ·exact jJ e' he' z hz
end
section
variable{κ β:Type}{mk:κ→qp}{ok:κ→Prop}{mv:β→qp}{P:qv}{k:qu}
variable(w:qo){ops:Array Oper}{rest:List Oper}{o:Oper}{a:Act}{Q:Exit→Act→qo→Prop}
theorem bl [DecidableEq κ](hg:o.guard=none)(m x v:Operand)(t e:qu)(uU:o.op=Op.mapUpdate t m x v)(M:MK P k mk ok)(ht:P.underlying t=some (.map k e))(b n:Nat)(g:κ→Option β)
 (h:an mk ok mv w b n g) (hm:a.eval m= .map (some b)) (key:κ) (y:β) (bI:ok key) (hx:a.eval x=mk key) (hv:a.eval v=mv y)
 (hK: ∀J,an mk ok mv J b (n+1) (fun z=>if z=key then some y else g z)→ax b w J→J.heap.size=w.heap.size→wpList P ops Q rest (a.put o.dst undef) J):
 wpList P ops Q (o::rest) a w:=by
 refine wpList_plain hg fun K' hK'=>?_;obtain⟨J,dV,r1,r2,r3⟩:=h.store M ht key y bI;unfold Oper.wp;simp[execOp,uU,hm,hx,hv,dV,Result.andThen];exact hK' _ _ (hK J r1 r2 r3)
theorem cP(hg:o.guard=none)(m x:Operand)(t e:qu)(c:Bool)(uU:o.op=Op.lookup t m x c)(M:MK P k mk ok)(ht:P.underlying t=some (.map k e))(z:qp)(hz:(zeroValue e).run P w= .ok z w)(b n:Nat)(g:κ→Option β)
 (h:an mk ok mv w b n g) (hm:a.eval m= .map (some b)) (key:κ) (bI:ok key) (hx:a.eval x=mk key)
 (hK:wpList P ops Q rest (a.put o.dst (if c then qj #[((g key).map mv).getD z,qk (g key).isSome]else((g key).map mv).getD z)) w):
 wpList P ops Q (o::rest) a w:=by
 refine wpList_plain hg fun K' hK'=>?_;have dV:=h.look M ht hz key bI c;generalize(if c then Value.tuple #[((g key).map mv).getD z,qk (g key).isSome]else((g key).map mv).getD z)=v at dV hK;unfold Oper.wp;simp[execOp,uU,hm,hx,dV,Result.andThen];exact hK' _ _ hK
theorem lf(hg:o.guard=none)(m:Operand)(t e:qu)(uU:o.op=Op.range t m)(ht:P.underlying t=some (.map k e))(b n:Nat)(g:κ→Option β)(h:an mk ok mv w b n g)(hm:a.eval m= .map (some b))
 (hK: ∀J cT,aI mk ok mv J b w.heap.size n g (fun _=>false) cT→cT≤n→qz w.heap.size w J→J.heap.size=w.heap.size+1→wpList P ops Q rest (a.put o.dst (qi (some ⟨w.heap.size,0,none⟩))) J):
 wpList P ops Q (o::rest) a w:=by
 refine wpList_plain hg fun K' hK'=>?_;obtain⟨J,cT,dV,r1,r2,r3,r4⟩:=h.range ht;unfold Oper.wp;simp[execOp,uU,hm,dV,Result.andThen];exact hK' _ _ (hK J cT r1 r2 r3 r4)
theorem mr [DecidableEq κ](hg:o.guard=none)(it:Operand)(uU:o.op=Op.next it false)(M:MK P k mk ok)(b r n cT:Nat)(g:κ→Option β)(seen:κ→Bool)(hit:a.eval it=qi (some ⟨r,0,none⟩))(h:aI mk ok mv w b r n g seen cT)
 (hDone:(∀x,g x≠none→seen x=true)→wpList P ops Q rest (a.put o.dst (qj #[qk false])) w)
 (hMore: ∀(x:κ) (y:β) (J:qo) (pL:Nat),ok x→g x=some y→seen x=false→aI mk ok mv J b r n g (fun z=>seen z||decide (z=x)) pL→pL<cT→ax r w J→J.heap.size=w.heap.size→
  (Instr.entry (qi (some ⟨r,0,none⟩))).run P J= .ok (qj #[mk x,mv y]) J→wpList P ops Q rest (a.put o.dst (qj #[qk true,mk x,mv y])) J):
 wpList P ops Q (o::rest) a w:=by
 refine wpList_plain hg fun K' hK'=>?_;unfold Oper.wp;rcases h.next M o.type with⟨hl,dV⟩|⟨x,y,J,pL,h1,h2,h3,dV,h4,h5,h6,h7,h8⟩
 ·simp[execOp,uU,hit,dV,Result.andThen];exact hK' _ _ (hDone hl)
 ·simp[execOp,uU,hit,dV,Result.andThen];exact hK' _ _ (hMore x y J pL h1 h2 h3 h4 h5 h6 h7 h8)
theorem bD(hg:o.guard=none)(m x:Operand)(t e:qu)(c:Bool)(uU:o.op=Op.lookup t m x c)(M:MK P k mk ok)(ht:P.underlying t=some (.map k e))(z:qp)(hz:(zeroValue e).run P w= .ok z w)(b n:Nat)(g:κ→Option β)
 (h:an mk ok mv w b n g) (hm:a.eval m= .map (some b)) (key:κ) (bI:ok key) (hx:a.eval x=mk key) (y:β) (hy:g key=some y) (v:qp) (hv:mv y=v)
 (hK:wpList P ops Q rest (a.put o.dst (if c then qj #[v,qk true]else v)) w):wpList P ops Q (o::rest) a w:=by
 refine cP w hg m x t e c uU M ht z hz b n g h hm key bI hx ?_;rw[hy];simpa [hv]using hK
theorem bE(hg:o.guard=none)(m x:Operand)(t e:qu)(c:Bool)(uU:o.op=Op.lookup t m x c)(M:MK P k mk ok)(ht:P.underlying t=some (.map k e))(z:qp)(hz:(zeroValue e).run P w= .ok z w)(b n:Nat)(g:κ→Option β)
 (h:an mk ok mv w b n g) (hm:a.eval m= .map (some b)) (key:κ) (bI:ok key) (hx:a.eval x=mk key) (hy:g key=none)
 (hK:wpList P ops Q rest (a.put o.dst (if c then qj #[z,qk false]else z)) w):wpList P ops Q (o::rest) a w:=by
 refine cP w hg m x t e c uU M ht z hz b n g h hm key bI hx ?_;rw[hy];simpa using hK
end
def rangeLeft(w:qo)(b r:Nat):Nat:=
 match w.heap[b]?,w.heap[r]?with
 |some (.map es _),some (.mapIter _ _ sn _)=>(leftOf es sn).size
 |_,_=>0
theorem aI.left{κ β:Type}{mk:κ→qp}{ok:κ→Prop}{mv:β→qp}{w:qo}{b r n cT:Nat}{g:κ→Option β}{seen:κ→Bool}(h:aI mk ok mv w b r n g seen cT):rangeLeft w b r=cT:=by
 obtain⟨es,clock,since,sn,c0,hb,hs,S,E,hr,h1,h2,h3,h4,h5⟩:=h;unfold rangeLeft;rw[hb,hr,h4]
end
namespace TopW
open Go.RowKit
open Go.Maps (Keyed)
def sV(i:Int):qp:=ql #[U Z i]
def ctV(y:Int×ByteArray):qp:=ql #[U Z y.1,qg y.2]
def mY(i:Int):Prop:=(Lit.int .i64 i).wf=true
theorem mZ{i:Int}(h: -1000000≤i∧i≤1000000):mY i:=by
 unfold mY;simp[Lit.wf,IntKind.min,IntKind.max,IntKind.signed,IntKind.bits];omega
theorem vh:laidOutB qx=true:=qd
theorem XM:prog.keyType 551=true:=qd
theorem abF:(551:qu)<prog.types.size:=xr qd
theorem XN:(match prog.underlying 551 with|some (.array _ _)|some (.struct _)=>true|_=>false)=true:=by rw[underlying551]
theorem SJ:Keyed qx 551:=Keyed.of_law (deep_law_laid vh (m:=2) Y abF qd XN)
theorem Ib:prog.cellsOf 551=1:=qd
theorem iN:prog.cellsOf 3=1:=qd
theorem Nu(i:Int):(sV i).formed qx 551=true:=by simp[sV,Value.formed,underlying551,Ib]
theorem uu: ∃m,prog.types.size=m+1:=⟨prog.types.size-1,qd⟩
theorem abG(i:Int)(h:mY i): ∃l,keyOf qx 551 (sV i)=some l:=by
 obtain⟨m,hm⟩:=uu;unfold keyOf;rw[underlying551];simp only[XM,Nu,Bool.and_self,if_true];unfold Program.keyLits;rw[underlying551];unfold mY at h;simp[sV,Value.cells,Ib,hm,Program.keyLits,underlying3,h,iN]
theorem SK:MK qx 551 sV mY:=⟨SJ,abG,fun x y h=>by simpa [sV]using h⟩
theorem FH(w:qo):(zeroValue 549).run qx w= .ok (ctV (0,ByteArray.empty)) w:=qd
structure eh(w:qo)(pb mb n:Nat)(g:Int→Option ByteArray):Prop where
 head:w.heap[pb]? =some (qn #[U Z 3000,.map (some mb),U Z 0] 213 (0,0))
 map:an sV mY ctV w mb n (fun i=>(g i).map fun s=>(1,s))
variable{w:qo}{pb mb n:Nat}{g:Int→Option ByteArray}
theorem eh.cells(h:eh w pb mb n g):w.cell? ⟨pb,0,none⟩=some (U Z 3000)∧w.cell? ⟨pb,1,none⟩=some (.map (some mb))∧w.cell? ⟨pb,2,none⟩=some (U Z 0):=
 ⟨(aJ h.head 0),(aJ h.head 1),(aJ h.head 2)⟩
theorem eh.soft(h:eh w pb mb n g): ∀cs t fr,w.heap[mb]? =some (qn cs t fr)→t∉kU:=by
 intro cs t fr hc;obtain⟨es,clock,hm,_⟩:=h.map;rw[hm]at hc;cases hc
theorem eh.ag{J:qo}{M:List Nat}(h:eh w pb mb n g)(k:Ch M w J)(hn:mb∉M):eh J pb mb n g:=
 ⟨k.bC _ _ _ _ h.head qa,h.map.of_block (k.block mb (an.lt h.map) hn)⟩
theorem eh.len(h:eh w pb mb n g)(ty:qu): ∃c:Nat,c≤n∧(Builtin.len_ #[211] ty #[.map (some mb)]).run qx w= .ok (U Z (c:Nat)) w:=by
 obtain⟨es,clock,hm,hs,_⟩:=h.map;exact⟨es.size,hs,run_len_map w 211 ty mb es clock qd hm⟩
theorem oq(p:Addr)(i:Int)(hi:0≤i∧i<4096)(w:qo):qw qx 437 #[qi (some p),U Z i] w fun e J=>e=qm (qk true)∧w=J:=by
 obtain⟨h1,h2⟩:=hi;go_enter func437,ntmps437;go_wp2
 go_ret;exact⟨aH (by simp[h1,h2]),rfl⟩
theorem agh(a b:qp)(w:qo):(Instr.field 549 (ql #[a,b]) 0).run qx w= .ok a w:=qd
theorem agi(a b:qp)(w:qo):(Instr.field 549 (ql #[a,b]) 1).run qx w= .ok b w:=qd
def rR(g:Int→Option ByteArray)(i:Int):Int:=if(g i).isSome then 1 else 0
theorem CO(i:Int)(hi:0≤i∧i<4096)(w:qo)(h:eh w pb mb n g):
 qw qx 438 #[qi (some ⟨pb,0,none⟩),U Z i] w fun e J=>e=qm (U Z (rR g i))∧w=J:=by
 obtain⟨_,h1,h2⟩:=h.cells;have hi0: ¬i<0:=Y;have HI:=Hd hi;have HK:=Hd (mZ (i:=i) Y);have HM:=Hd h.map;clear h hi;have hfl:=agh
 cases hg:g i with
 |none=>
  have HG:qy (((g i).map fun s=>((1:Int),s))=none):=Hd (by rw[hg];rfl);have HE:qy (rR g i=0):=Hd (by unfold rR;rw[hg];rfl);clear hg;go_enter func438,ntmps438
  go_wp2_with(first
   |(go_at_call 437;refine(oq _ _ HI.o _).mono ?_;rintro e w2 ⟨rfl,rfl⟩)
   |(at_lookup;go_loud (refine bE _ rfl _ _ 211 549 false rfl SK underlying211 _ (FH _) mb n _ HM.o (by rfl) i HK.o (by rfl) HG.o ?_;unfold ctV;simp only[xK,if_false])))
  go_ret
  exact⟨aO HE.o.symm,rfl⟩
 |some s=>
  have HG:qy (((g i).map fun s=>((1:Int),s))=some (1,s)):=Hd (by rw[hg];rfl);have HE:qy (rR g i=1):=Hd (by unfold rR;rw[hg];rfl);clear hg;go_enter func438,ntmps438
  go_wp2_with(first
   |(go_at_call 437;refine(oq _ _ HI.o _).mono ?_;rintro e w2 ⟨rfl,rfl⟩)
   |(at_lookup;go_loud (refine bD _ rfl _ _ 211 549 false rfl SK underlying211 _ (FH _) mb n _ HM.o (by rfl) i HK.o (by rfl) (1,s) HG.o (ql #[U Z 1,qg s]) rfl ?_;simp only[xK,if_false])))
  go_ret;exact⟨aO HE.o.symm,rfl⟩
end TopW
namespace TopW
open Go.RowKit
variable{w:qo}{pb mb n:Nat}{g:Int→Option ByteArray}
theorem eh.map_set{J:qo}{m:Nat}{i:Int}{s:ByteArray}(h:eh w pb mb n g)(hm:an sV mY ctV J mb m (fun z=>if z=i then some (1,s)else(g z).map fun s=>(1,s)))(k:Ch [mb] w J):
 eh J pb mb m (fun z=>if z=i then some s else g z):=
 ⟨k.bC _ _ _ _ h.head qa,hm.congr (by funext z;by_cases hz:z=i<;>simp[hz])⟩
theorem dW{b:Nat}{w J:qo}(h:ax b w.drew J):ax b w J:=⟨h.os,h.tape,h.output,(show w.drew.heap.size≤J.heap.size from h.size),h.block⟩
theorem eh.agj(h:eh w pb mb n g): ∃c:Nat,c≤n∧ ∀(m:Nat) (ty:qu),(Builtin.len_ #[211] ty #[.map (some mb)]).run qx (w.drewN m)= .ok (U Z (c:Nat)) (w.drewN m):=by
 obtain⟨es,clock,hm,hs,_⟩:=h.map;exact⟨es.size,hs,fun m ty=>run_len_map (w.drewN m) 211 ty mb es clock qd hm⟩
theorem SL(i:Int)(hi:0≤i∧i<4096)(s:ByteArray)(hn:n<3000)(w:qo)(h:eh w pb mb n g):
 qw qx 439 #[qi (some ⟨pb,0,none⟩),U Z i,ql #[U Z 1,qg s]] w fun e J=>e=qm (U Z 0)∧eh J pb mb (n+1) (fun z=>if z=i then some s else g z)∧Ch [mb] w J:=by
 have HB:qy (qz w.heap.size w (w.alloc (qn #[U Z 1,qg s] 549))):=Hd (aa w _);have H1:qy (eh (w.alloc (qn #[U Z 1,qg s] 549)) pb mb n g):=Hd (h.ag (Ch.af (M:=[]) HB.o) qc)
 have HD:qy ((w.alloc (qn #[U Z 1,qg s] 549)).cell? ⟨w.heap.size,0,none⟩=some (U Z 1)∧(w.alloc (qn #[U Z 1,qg s] 549)).cell? ⟨w.heap.size,1,none⟩=some (qg s)):=
  Hd ⟨aV w _ _ 0 _ rfl,aV w _ _ 1 _ rfl⟩
 have HH:=Hd h;have HK:=Hd (mZ (i:=i) Y);have HN:=Hd hn;clear h hi hn;go_enter func439,ntmps439;go_wp2
 generalize w.alloc (qn #[U Z 1,qg s] 549)=w1 at HB H1 HD⊢;obtain⟨bx,rB⟩: ∃bx,w.heap.size=bx:=⟨_,rfl⟩;have fu:=Hd rB;rw[rB]at HD⊢;clear rB;obtain⟨h0,h1,_⟩:=H1.o.cells;obtain⟨d0,d1⟩:=HD.o;obtain⟨c,hc,hl⟩:=H1.o.agj;have hc3: ¬(3000:Int)≤(c:Nat):=by have:=HN.o;omega
 clear hc
 go_quiet (fail)
 go_wp2
 have H2:qy (eh (w1.drewN nq) pb mb n g):=Hd ⟨H1.o.head,H1.o.map.drewN nq⟩;have az:qy (Ch [mb] w (w1.drewN nq)):=Hd (Ch.af (below_drewN HB.o nq));have e0:(w1.drewN nq).cell? ⟨bx,0,none⟩=some (U Z 1):=d0;have e1:(w1.drewN nq).cell? ⟨bx,1,none⟩=some (qg s):=d1;have e2:(w1.drewN nq).cell? ⟨pb,1,none⟩=some (.map (some mb)):=h1;clear h0 h1 hl d0 d1 hc3;generalize w1.drewN nq=w2 at H2 az e0 e1 e2⊢
 go_still_tail 7,qd
 go_wp2_with(at_mapUpdate;go_loud (refine bl _ rfl _ _ _ 211 549 rfl SK underlying211 mb n _ (an.drew H2.o.map) (by rfl) i (1,s) HK.o (by rfl) (by rfl) ?_;intro w5 hm5 ho5 hs5;have ou:=Hd hm5;have eV:qy (ax mb w2 w5):=Hd (dW (w:=w2) ho5);clear hm5 ho5 hs5))
 go_ret;have hc5:Ch [mb] w2 w5:=Ch.lI eV.o qc H2.o.soft;exact⟨rfl,H2.o.map_set ou.o hc5,az.o.aq hc5⟩
theorem iw(i:Int)(hi:0≤i∧i<4096)(s:ByteArray)(hs:s.size≤4096)(hn:n<3000)(hg:g i=none)(w:qo)(h:eh w pb mb n g):
 qw qx 394 #[qi (some ⟨pb,0,none⟩),U Z i,qg s] w fun e J=>e=qm (U Z 0)∧eh J pb mb (n+1) (fun z=>if z=i then some s else g z)∧Ch [mb] w J:=by
 have hs1: ¬(4096:Int)<(s.size:Nat):=Y;have hi1: ¬i<0:=Y;obtain⟨h0,h1,h2⟩:=h.cells;have HH:=Hd h;have HI:=Hd hi;have HN:=Hd hn;have HE:qy (rR g i=0):=Hd (by unfold rR;rw[hg];rfl);clear h hi hn hs hg;go_enter func394,ntmps394
 go_wp2_with(first
  |(go_at_call 437;refine(oq _ _ HI.o _).mono ?_;rintro e w2 ⟨rfl,rfl⟩)
  |(go_at_call 438;refine(CO i HI.o _ HH.o).mono ?_;rintro e w2 ⟨rfl,rfl⟩;rw[HE.o])
  |(go_at_call 439;refine(SL i HI.o s HN.o _ HH.o).mono ?_;rintro e w2 ⟨rfl,h5,h6⟩))
 go_ret;exact⟨rfl,h5,h6⟩
theorem wc(i:Int)(hi:0≤i∧i<4096)(s:ByteArray)(hg:g i=some s)(w:qo)(h:eh w pb mb n g):
 qw qx 396 #[qi (some ⟨pb,0,none⟩),U Z i] w fun e J=>e=qm (qj #[qg s,U Z 0])∧w=J:=by
 obtain⟨h0,h1,h2⟩:=h.cells;have HH:=Hd h;have HI:=Hd hi;have HK:=Hd (mZ (i:=i) Y);have HE:qy (rR g i=1):=Hd (by unfold rR;rw[hg];rfl);have HG:qy (((g i).map fun s=>((1:Int),s))=some (1,s)):=Hd (by rw[hg];rfl);have hfl:=agi;clear h hi hg;go_enter func396,ntmps396
 go_wp2_with(first
  |(go_at_call 437;refine(oq _ _ HI.o _).mono ?_;rintro e w2 ⟨rfl,rfl⟩)
  |(go_at_call 438;refine(CO i HI.o _ HH.o).mono ?_;rintro e w2 ⟨rfl,rfl⟩;rw[HE.o])
  |(at_lookup;go_loud (refine bD _ rfl _ _ 211 549 false rfl SK underlying211 _ (FH _) mb n _ HH.o.map (by rfl) i HK.o (by rfl) (1,s) HG.o (ql #[U Z 1,qg s]) rfl ?_;simp only[xK,if_false])))
 go_ret2
 exact⟨rfl,rfl⟩
end TopW
section
open Go.RowKit Go.MapKept Go.WideShapes Go.ChangeMaps
open Go.Maps (Keyed)
section
variable{κ β:Type}{mk:κ→qp}{ok:κ→Prop}{mv:β→qp}
theorem we{es:Array MapEntry}{j:Nat}{e0:MapEntry}(h2:es.toList[j]? =some e0):(es.eraseIdxIfInBounds j).toList=es.toList.eraseIdx j:=by
 have Ac:j<es.toList.length:=(xb.1 h2).1;have Wa:j<es.size:=by simpa using Ac
 unfold Array.eraseIdxIfInBounds;rw[dif_pos Wa];simp
theorem mem_erase{es:Array MapEntry}{clock:Nat}(S:Stamped es clock){j:Nat}{e0:MapEntry}(h2:es.toList[j]? =some e0)(e:MapEntry):
 e∈(es.eraseIdxIfInBounds j).toList↔e∈es.toList∧e.key≠e0.key:=by
 rw[we h2,List.mem_eraseIdx_iff_getElem?];constructor
 ·rintro⟨i,hi,he⟩;have hm:=xp he;refine⟨hm,fun hk=>hi ?_⟩;have h4:=pK S hm (xp h2) hk;subst h4;have Sx:=((stamped_iff es clock).1 S).2.1;obtain⟨VW,hie⟩:=xb.1 he;obtain⟨Ac,hje⟩:=xb.1 h2
  have h5:(es.toList.map (·.born))[i]'(by simpa using VW)=(es.toList.map (·.born))[j]'(by simpa using Ac):=by
   rw[List.getElem_map,List.getElem_map,hie,hje]
  exact(List.getElem_inj Sx).1 h5
 ·rintro⟨hm,hk⟩;obtain⟨i,hi⟩:=List.getElem?_of_mem hm;refine⟨i,?_,hi⟩;rintro rfl;rw[hi]at h2;injection h2 with h2
  exact hk (by rw[h2])
variable{P:qv}{k:qu}
theorem mX.erase [DecidableEq κ]{es:Array MapEntry}{clock:Nat}{g:κ→Option β}(M:MK P k mk ok)(S:Stamped es clock)(h:mX mk ok mv es g){x:κ}{j:Nat}{e0:MapEntry}(h2:es.toList[j]? =some e0)(h3:e0.key=mk x):
 mX mk ok mv (es.eraseIdxIfInBounds j) (fun z=>if z=x then none else g z):=by
 have hm:=mem_erase S h2;rw[h3]at hm;refine⟨fun e he=>?_,fun z v hz=>?_⟩
 ·obtain⟨he,bd⟩:=(hm e).1 he;obtain⟨x',y',k1,k2,k3,k4⟩:=h.1 e he;refine⟨x',y',k1,k2,k3,?_⟩;show(if x'=x then _ else _)=_;rw[qB (fun e'=>bd (by rw[k1,e'])),k4]
 ·replace hz:(if z=x then none else g z)=some v:=hz;split at hz
  ·cases hz
  ·rename_i bd;obtain⟨e,he,hk⟩:=h.2 z v hz;exact⟨e,(hm e).2 ⟨he,fun e'=>bd (M.inj _ _ (hk.symm.trans e'))⟩,hk⟩
theorem wg [DecidableEq κ]{g:κ→Option β}{x:κ}(h:g x=none):(fun z=>if z=x then none else g z)=g:=by
 funext z;split
 ·rename_i e;rw[e,h]
 ·rfl
theorem an.erase [DecidableEq κ]{w:qo}{b n:Nat}{g:κ→Option β}{t e ty:qu}(h:an mk ok mv w b n g)(M:MK P k mk ok)(ht:P.underlying t=some (.map k e))(x:κ)(bI:ok x):
 ∃J,(Builtin.delete_ #[t,k] ty #[.map (some b),mk x]).run P w= .ok (qj #[]) J∧an mk ok mv J b n (fun z=>if z=x then none else g z)∧ax b w J∧J.heap.size=w.heap.size:=by
 obtain⟨es,clock,hb,hs,S,E⟩:=h;obtain⟨l,hl⟩:=M.key x bI;rcases tr M E w bI with⟨h1,h2,h3⟩|⟨j,e0,y0,h1,h2,h3,h4,h5⟩
 ·refine⟨setBlock w b (.map es clock),?_,⟨es,clock,heap_setBlock_same hb _,hs,S,by rw[wg h3];exact E⟩,bH _ _ _,by simp[setBlock]⟩;simp[Builtin.delete_,run_underlying ht,MapKept.run_getObj_map hb,M.keyed.check w _ hl,h1,MapKept.run_setObj_map _ hb,Result.andThen,setBlock]
 ·refine⟨setBlock w b (.map (es.eraseIdxIfInBounds j) clock),?_,⟨_,clock,heap_setBlock_same hb _,qM (MapFrom.size_erase es j) hs,stamped_erase S j,E.erase M S h2 h3⟩,bH _ _ _,by simp[setBlock]⟩;simp[Builtin.delete_,run_underlying ht,MapKept.run_getObj_map hb,M.keyed.check w _ hl,h1,MapKept.run_setObj_map _ hb,Result.andThen,setBlock]
theorem aI.erase [DecidableEq κ]{w:qo}{b r n cT:Nat}{g:κ→Option β}{seen:κ→Bool}{t e ty:qu}(h:aI mk ok mv w b r n g seen cT)(M:MK P k mk ok)(ht:P.underlying t=some (.map k e))(x:κ)(bI:ok x):
 ∃J pL,(Builtin.delete_ #[t,k] ty #[.map (some b),mk x]).run P w= .ok (qj #[]) J∧aI mk ok mv J b r n (fun z=>if z=x then none else g z) seen pL∧pL≤cT∧ax b w J∧J.heap.size=w.heap.size:=by
 have bd:=h.ne;obtain⟨es,clock,since,sn,c0,hb,hs,S,E,hr,hold,hsc,XJ,rfl,jJ⟩:=h;obtain⟨l,hl⟩:=M.key x bI;rcases tr M E w bI with⟨h1,h2,h3⟩|⟨j,e0,y0,h1,h2,h3,h4,h5⟩
 ·refine⟨setBlock w b (.map es clock),_,?_,⟨es,clock,since,sn,c0,heap_setBlock_same hb _,hs,S,by rw[wg h3];exact E,(og _ bd).trans hr,hold,hsc,XJ,rfl,jJ⟩,Nat.le_refl _,bH _ _ _,by simp[setBlock]⟩;simp[Builtin.delete_,run_underlying ht,MapKept.run_getObj_map hb,M.keyed.check w _ hl,h1,MapKept.run_setObj_map _ hb,Result.andThen,setBlock]
 ·have hm:=mem_erase S h2
  refine⟨setBlock w b (.map (es.eraseIdxIfInBounds j) clock),_,?_,⟨_,clock,since,sn,c0,heap_setBlock_same hb _,qM (MapFrom.size_erase es j) hs,stamped_erase S j,E.erase M S h2 h3,
   (og _ bd).trans hr,fun e' he'=>hold e' ((hm e').1 he').1,hsc,XJ,rfl,fun e' he'=>jJ e' ((hm e').1 he').1⟩,?_,bH _ _ _,by simp[setBlock]⟩
  ·simp[Builtin.delete_,run_underlying ht,MapKept.run_getObj_map hb,M.keyed.check w _ hl,h1,MapKept.run_setObj_map _ hb,Result.andThen,setBlock]
  ·have ln: ∀a:Array MapEntry,(leftOf a sn).size=a.toList.countP fun e=> !sn.contains e.born:=fun a=>by
    unfold leftOf;rw[←Array.length_toList,Array.toList_filter,←List.countP_eq_length_filter]
   rw[ln,ln,we h2];exact(List.eraseIdx_sublist _ _).countP_le
end
section
variable{κ β:Type}{mk:κ→qp}{ok:κ→Prop}{mv:β→qp}{P:qv}{k:qu}
variable(w:qo){ops:Array Oper}{rest:List Oper}{o:Oper}{a:Act}{Q:Exit→Act→qo→Prop}
theorem eS [DecidableEq κ](hg:o.guard=none)(m x:Operand)(t e:qu)(uU:o.op=Op.call {callee:=Callee.builtin Builtin.delete,args:=#[m,x],argTypes:=#[t,k]})(M:MK P k mk ok)(ht:P.underlying t=some (.map k e))(b n:Nat)(g:κ→Option β)
 (h:an mk ok mv w b n g) (hm:a.eval m= .map (some b)) (key:κ) (bI:ok key) (hx:a.eval x=mk key)
 (hK: ∀J,an mk ok mv J b n (fun z=>if z=key then none else g z)→ax b w J→J.heap.size=w.heap.size→wpList P ops Q rest (a.put o.dst (qj #[])) J):
 wpList P ops Q (o::rest) a w:=by
 refine wpList_plain hg fun K' hK'=>?_;obtain⟨J,dV,r1,r2,r3⟩:=h.erase (ty:=o.type) M ht key bI;unfold Oper.wp;simp[execOp,uU,resolve,invoke,builtin,hm,hx,dV,Result.andThen];exact hK' _ _ (hK J r1 r2 r3)
end
end
namespace DirW
open Go.RowKit
open Go.Maps (Keyed)
def XO(x:Int×ByteArray):qp:=ql #[U Z x.1,qg x.2]
def kg(y:Int):qp:=U Z y
def Ke(x:Int×ByteArray):Prop:=(Lit.int .i64 x.1).wf=true∧x.2.size≤maxLen
def Bt(x:Int):Prop:=(Lit.int .i64 x).wf=true
theorem SM:laidOutB qx=true:=qd
theorem XP:prog.keyType 493=true:=qd
theorem abH:(493:qu)<prog.types.size:=xr qd
theorem XQ:(match prog.underlying 493 with|some (.array _ _)|some (.struct _)=>true|_=>false)=true:=by rw[underlying493]
theorem SN:Keyed qx 493:=Keyed.of_law (deep_law_laid SM (m:=2) Y abH qd XQ)
theorem Ic:prog.cellsOf 493=2:=qd
theorem iN:prog.cellsOf 3=1:=qd
theorem Kf:prog.cellsOf 9=1:=qd
theorem Nv(x:Int×ByteArray):(XO x).formed qx 493=true:=by simp[XO,Value.formed,underlying493,Ic]
theorem uu: ∃m,prog.types.size=m+1:=⟨prog.types.size-1,qd⟩
theorem abI(x:Int×ByteArray)(h:Ke x): ∃l,keyOf qx 493 (XO x)=some l:=by
 obtain⟨m,hm⟩:=uu;unfold keyOf;rw[underlying493];simp only[XP,Nv,Bool.and_self,if_true];unfold Program.keyLits;rw[underlying493];obtain⟨a,b⟩:=x;obtain⟨h1,h2⟩:=h;simp only at h1 h2;simp[XO,Value.cells,Ic,hm,Program.keyLits,underlying3,underlying9,h1,h2,iN,Kf]
theorem SO:MK qx 493 XO Ke:=⟨SN,abI,fun x y h=>by
 obtain⟨a,b⟩:=x;obtain⟨c,d⟩:=y;simpa [XO]using h⟩
theorem abJ(x:Int)(h:Bt x): ∃l,keyOf qx 3 (kg x)=some l:=by
 unfold Bt at h;unfold keyOf;rw[underlying3];simp[kg,mapKey,underlying3,h]
theorem FI:MK qx 3 kg Bt:=⟨Go.Maps.int_keyed underlying3,abJ,fun x y h=>by simpa [kg]using h⟩
theorem dR(w:qo):(zeroValue 3).run qx w= .ok (kg 0) w:=qd
def abK(w:qo)(b n:Nat)(g:Int×ByteArray→Option Int):Prop:=an XO Ke kg w b n g
def SP(w:qo)(b n:Nat)(g:Int→Option Int):Prop:=an kg Bt kg w b n g
end DirW
namespace bq
open Go.RowKit
open Go.Maps (Keyed)
def Wd(x:Int×Int):qp:=ql #[U Z x.1,U Z x.2]
def kg(y:Int):qp:=U Z y
def lQ(x:Int×Int):Prop:=(Lit.int .i64 x.1).wf=true∧(Lit.int .i64 x.2).wf=true
theorem ov{x:Int×Int}(h1:IntKind.i64.min≤x.1∧x.1≤IntKind.i64.max)(h2:IntKind.i64.min≤x.2∧x.2≤IntKind.i64.max):lQ x:=by
 unfold lQ;simp only[Lit.wf,h1.1,h1.2,h2.1,h2.2,decide_true,Bool.and_self,and_self]
theorem SQ:laidOutB qx=true:=qd
theorem XR:prog.keyType 379=true:=qd
theorem abL:(379:qu)<prog.types.size:=xr qd
theorem XS:(match prog.underlying 379 with|some (.array _ _)|some (.struct _)=>true|_=>false)=true:=by rw[underlying379]
theorem SR:Keyed qx 379:=Keyed.of_law (deep_law_laid SQ (m:=2) Y abL qd XS)
theorem Ie:prog.cellsOf 379=2:=qd
theorem iN:prog.cellsOf 3=1:=qd
theorem Nw(x:Int×Int):(Wd x).formed qx 379=true:=by simp[Wd,Value.formed,underlying379,Ie]
theorem uu: ∃m,prog.types.size=m+1:=⟨prog.types.size-1,qd⟩
theorem abM(x:Int×Int)(h:lQ x): ∃l,keyOf qx 379 (Wd x)=some l:=by
 obtain⟨m,hm⟩:=uu;unfold keyOf;rw[underlying379];simp only[XR,Nw,Bool.and_self,if_true];unfold Program.keyLits;rw[underlying379];obtain⟨a,b⟩:=x;obtain⟨h1,h2⟩:=h;have hr:List.range 2=[0,1]:=rfl;simp only at h1 h2;simp[Wd,Value.cells,Ie,hm,Program.keyLits,underlying3,h1,h2,iN,hr]
theorem wh:MK qx 379 Wd lQ:=⟨SR,abM,fun x y h=>by
 obtain⟨a,b⟩:=x;obtain⟨c,d⟩:=y;simpa [Wd]using h⟩
theorem dR(w:qo):(zeroValue 3).run qx w= .ok (kg 0) w:=qd
def FJ(w:qo)(b n:Nat)(g:Int×Int→Option Int):Prop:=an Wd lQ kg w b n g
