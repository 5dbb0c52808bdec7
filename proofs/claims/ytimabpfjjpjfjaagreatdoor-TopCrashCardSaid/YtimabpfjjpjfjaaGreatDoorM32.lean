/- Part 32 of the texts that the law's walk needs. -/
import Derived.Test.YtimabpfjjpjfjaaGreatDoorM27
import Derived.Test.YtimabpfjjpjfjaaGreatDoorM28
import Derived.Sort.OwnSorted
set_option maxHeartbeats 3200000
set_option maxRecDepth 100000
set_option linter.all false
open Go renaming World→qo
open Go.Ending renaming returned→qm
open Go.Value renaming pointer→qi,int→U,slice→qh
open Go.Obj renaming cells→qn
open Go.IntKind renaming i64→Z
open Go.RowKit renaming Below→qz
namespace Go.Proofs.YtimabpfjjpjfjaaGreatDoor
open Tryz
namespace TopW
open Go.RowKit OpW Go.Shelf Go.Sort
attribute [local go_sem] Oper.semAt_some
variable{w J:qo}{b b0 b1 b2 n n0 n1 n2:Nat}
theorem QG(mb:Option Nat)(w:qo):Calls prog 154 #[.map mb] w fun e J=>e=qm (.func (.func 225) #[] #[qi (some ⟨w.heap.size,0,none⟩)])∧J=w.alloc (qn #[.map mb] 167):=by
 go_enter func154,ntmps154;go_wp2
 go_ret;exact⟨rfl,rfl⟩
theorem ahA:(prog.info? 3).map (fun i=>(i.zero,i.size,i.bytes))=some (some (U Z 0),1,8):=qd
theorem GG{B:Nat}(v:Value)(l:List Int)(W:qo)(h:W.ownsRow B 3 1 v l.length (l.map (U Z)))(hl:l.length≤1000):
 Calls prog 34 #[v] W fun e J=>e=qm (.tuple #[])∧ ∃l':List Int,l'.Perm l∧J.ownsRow B 3 1 v l'.length (l'.map (U Z))∧W.grownBy J v.ownBlock:=by
 rcases h.2 with⟨rfl,hz⟩|⟨gb,cap,cur,rfl,ir,CB,r1,r2,r3,r4⟩
 ·have Sr:l=[]:=xe hz;subst Sr;refine(AnyM.slices_Sort_int_none Tryz.AZ none 0 W).mono ?_;rintro e J⟨rfl,rfl⟩;exact⟨rfl,[],List.Perm.refl _,h,⟨rfl,rfl,rfl,Nat.le_refl _,fun _ _ _=>rfl⟩⟩
 ·have hH:Holds (U Z) W gb 0 l.toArray:=holds_of_block_i CB (by simpa using r4);refine(AnyM.slices_Sort_int Tryz.AZ gb 0 cap l W hH (qK CB) Y).mono ?_;rintro e J⟨rfl,m,os,rfl⟩;refine⟨rfl,l.mergeSort (fun x y=>decide (x≤y)),List.mergeSort_perm _ _,?_,grownBy_sorted_i _⟩;have:=ownsRow_sorted_i (os:=os) (n:=m) (ts:=l.mergeSort (fun x y=>decide (x≤y))) qc ir CB r1 r2 r3;simpa using this
def unL(l:List U4):List Value:=l.map fun x=>U Z x.1
theorem GH(w:qo)(h:cL w b0 n0 b1 n1 b2 n2):
 CallsIn Fence.wide 6 prog 113 #[.agg #[U Z 0,qh (some ⟨b0,0,none⟩) 2 n0]] w fun e J=> ∃(v:Value) (l:List Int),e=qm v∧J.ownsRow w.heap.size 3 1 v l.length (l.map (U Z))∧l.length≤4∧(∀x∈l,0≤x∧x<4)∧qz w.heap.size w J:=by
 obtain⟨i0,hi,hz0,hz1,hz2⟩:=info_parts ahA;have HP:=Hd h;clear h;refine callsIn_of_wp_marks func113 rfl trivial ?_ rfl;simp only[ntmps113,List.size_toArray,xf,List.length_nil,Nat.reduceAdd,Nat.reduceSub,Array.replicate_succ,Array.replicate_zero,List.push_toArray,List.append_toArray,xk,xd]
 gi_wp2_with (first
  |(refine⟨trivial,?_⟩;gi_at_call 70;refine(callsIn_wide.2 (IL _ (HP.o.ag (M:=[]) (Ch.af (ai (aa w _) (aa _ _)))))).mono ?_;rintro e w2 ⟨rfl,hm,hb⟩)
  |(refine⟨trivial,?_⟩;gi_at_call 154;refine(callsIn_wide.2 (QG _ _)).mono ?_;rintro e w3 ⟨rfl,rfl⟩))
 obtain⟨mb,zG⟩: ∃mb,w.heap.size+1+1+1=mb:=⟨_,rfl⟩;have ahB:((w.alloc (qn #[U Z 0,qh (some ⟨b0,0,none⟩) 2 n0] 54)).alloc (qn #[qh none 0 0] 35)).heap.size=w.heap.size+2:=qc;have bO:=Boxed.new (w.alloc (qn #[U Z 0,qh (some ⟨b0,0,none⟩) 2 n0] 54)) 35 (qh none 0 0);rw[World.size_alloc]at bO;simp only[World.size_alloc]at hm hb;rw[zG]at hm⊢;have bO2:Boxed w2 (w.heap.size+1) 35 (qh none 0 0):=(hb.block _ Y).trans bO;have hB2:qz w.heap.size w w2:=((aa w _).trans ((aa _ _).mono qc)).trans (hb.mono Y);clear bO ahB zG HP;have ahC:w.heap.size+1<w2.heap.size:=bO2.lt;have ZF:mb<w2.heap.size:=an.lt hm
 have hm3:=an.alloc hm (qn #[.map (some mb)] 167);have bO3:=bO2.alloc (qn #[.map (some mb)] 167);have hB3:qz w.heap.size w (w2.alloc (qn #[.map (some mb)] 167)):=hB2.alloc hB2.size _;have bM:=Boxed.new w2 167 (.map (some mb));have dY:(w2.alloc (qn #[.map (some mb)] 167)).heap.size=w2.heap.size+1:=qc;obtain⟨W0,hW0⟩: ∃W0,w2.alloc (qn #[.map (some mb)] 167)=W0:=⟨_,rfl⟩;rw[hW0]at bO3 hB3 bM dY hm3⊢;clear hW0 hm bO2 hB2 hb;have cu:=Hd hB3;obtain⟨q,hq⟩: ∃q,w2.heap.size=q:=⟨_,rfl⟩;rw[hq]at bM dY ahC ZF⊢;clear hq
 refine wpIn_rangeFunc_ownH rfl qa (gf:=225) (lb:=#[qi (some ⟨q,0,none⟩)]) rfl trivial (enters_of func225 qd rfl)
  (encs:=fun x:U4=>#[sV x.1]) (Kp:=KeepsWalks) (S:=fun _=>True) (Sp:=fun _=>True) (N:=4) (w0:=W0)
  (fun l Jq Jx W hW hJ hJx hY h0=>LA 5 qa l q mb Jq Jx hY W hJ ((hW.cell (p:=⟨q,0,none⟩) (show q<W0.heap.size by omega)).trans bM.cell) (an.ag hm3 hW) h0) walksK_t walksK_b (Below.refl _ _) (fun _=>rfl)
  (fun pre W=>((∃v,Boxed W (w.heap.size+1) 35 v∧W.ownsRow w.heap.size 3 1 v pre.length (unL pre)∧True)∧pre.length≤4)∧qz w.heap.size w W)
  (fun _ _ _=>False)
  (OwnFrom.and (OwnFrom.and (Own.from (holdsRow_own w.heap.size (w.heap.size+1) 35 3 1 (fun pre:List U4=>pre.length) unL (fun _ _=>True)) _) (ownFrom_pure _ _)) (ownFrom_below (Nat.le_refl _) hB3.size))
  (fun _ _ _ _ _ hs _ _=>hs)
  ⟨⟨⟨_,bO3,World.ownsRow_nil _ _ _ _,trivial⟩,qc⟩,hB3⟩
  (fun x a' W=> ∃Bx,w.heap.size+1<Bx∧Boxed W Bx 170 (U Z x.1)∧a'={tmps:=#[.agg #[U Z 0,qh (some ⟨b0,0,none⟩) 2 n0],qi (some ⟨w.heap.size,0,none⟩),qh none 0 0,qi (some ⟨w.heap.size+1,0,none⟩),qi (some ⟨Bx,0,none⟩),.agg #[U Z 0,qh (some ⟨b0,0,none⟩) 2 n0],.map (some mb),.func (.func 225) #[] #[qi (some ⟨q,0,none⟩)],.agg #[U Z x.1],undef,undef,undef,undef,undef,undef,undef,undef],defers:=[]})
  (fun x a' _ X Yq row hs hg hr=>by obtain⟨Bx,h1,h2,h3⟩:=hs;exact⟨Bx,h1,boxed_own Bx 170 (fun(_:Unit)=>U Z x.1) () X Yq row h2 hg (fun r e=>(hr r e).2),h3⟩)
  ?assign ?body ?done ?stop
 case assign=>
  rintro l pre⟨x,hx⟩W K⟨⟨⟨v,hv,aW,_⟩,hl4⟩,hB1⟩hK;dsimp only[sV]
  gi_wp2
  exact hK _ _ ((KeepsOthers.alloc _ _).from _) (KeepsOthers.alloc _ _).walks ⟨⟨⟨v,hv.alloc _,aW.alloc _,trivial⟩,hl4⟩,hB1.alloc hB1.size _⟩ ⟨W.heap.size,hv.lt,Boxed.new W _ _,rfl⟩
 case body=>
  rintro l pre⟨x,hx⟩a' W hl⟨r,hr⟩⟨⟨⟨v,hv,aW,_⟩,hl4⟩,hB⟩⟨Bx,hBx,bX,rfl⟩aN;have hc:=hv.cell;have hcx:=bX.cell;dsimp only at hc hcx
  gi_wp2_with (gi_at_builtin;refine wpListIn_append_own _ rfl _ _ 35 rfl w.heap.size 3 i0 (U Z 0) 1 8 underlying35 hi hz0 hz1 hz2 rfl qa _ _ _ rfl (aW.alloc _) ⟨W.heap.size,0,none⟩ 1 1 [U Z x] rfl rfl (cell_one_new _ _ _) (by simp[Value.oneCell']) (by unfold maxLen;omega) Y (by have:=hB.size;simp;omega) ?_;intro v' w1 oY mU _;obtain⟨g',cap',rfl⟩:=ownsRow_succ oY;obtain⟨hv1,hv2,hr2,hk2,hb2⟩:=hv.appended qa aW hB.size Y oY mU;have hc1:=hv1.cell;have hf1:=hv1.frozen)
  exact⟨hk2.from _,hk2.walks,⟨⟨_,hv2,by simpa [unL]using hr2⟩,by simp;omega⟩,hB.trans hb2⟩
 case done=>
  rintro D zs W hD _⟨⟨⟨v,hv,aW,_⟩,hl4⟩,hB⟩hK;have hc:=hv.cell;have adM:W.ownsRow w.heap.size 3 1 v (zs.map (·.1)).length ((zs.map (·.1)).map (U Z)):=by simpa [unL]using aW
  gi_wp2_with (refine⟨trivial,?_⟩;gi_at_call 34;refine(callsIn_wide.2 (GG v (zs.map (·.1)) W adM (by simp;omega))).mono ?_;rintro e w3 ⟨rfl,l',hp,hr',hg⟩;have hc2:=(hv.kept hg (hv.not_row qa aW)).cell)
  have bd:some D≠v.ownBlock:=by
   rcases aW.2 with⟨rfl,_⟩|⟨g,cap,cur,rfl,_,CB,_⟩
   ·simp[Value.ownBlock]
   ·intro e1;obtain rfl:D=g:=by simpa [Value.ownBlock]using e1
    rw[hK]at CB;cases CB
  have hK3:w3.heap[D]? =some (.deferred (some [])):=(hg.block D (qK hK) bd).trans hK;have hB3:qz w.heap.size w w3:=hB.grown hg hB.size (fun j hj=>(aW.lt j hj).1);have hln:l'.length≤4:=by rw[hp.length_eq];simpa using hl4
  refine⟨qc,.inl ⟨_,_,rfl,run_takeDeferred hK3,?_⟩⟩;refine⟨_,results_tmp rfl _ _ _,v,l',rfl,ownsRow_putObj hr' _ hK3 rfl,hln,fun x hx=>?_,hB3.trans (belowK_b (w:=w) (Nat.le_refl _) w3 D _ _ (qM cu.o.size hD) hK3 rfl rfl)⟩;obtain⟨y,hy,rfl⟩:=List.mem_map.1 ((hp.mem_iff).1 hx);exact y.2
 case stop=>
  rintro D c pre W _ _ h _;exact h.elim
theorem LJ(w:qo)(h:cL w b0 n0 b1 n1 b2 n2):
 Calls prog 113 #[.agg #[U Z 0,qh (some ⟨b0,0,none⟩) 2 n0]] w fun e J=> ∃(v:Value) (l:List Int),e=qm v∧J.ownsRow w.heap.size 3 1 v l.length (l.map (U Z))∧l.length≤4∧(∀x∈l,0≤x∧x<4)∧qz w.heap.size w J:=callsIn_wide.1 (GH w h)
