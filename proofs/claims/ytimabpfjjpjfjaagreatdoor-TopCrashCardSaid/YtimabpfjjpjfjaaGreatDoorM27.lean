/- Part 27 of the texts that the law's walk needs. -/
import Derived.Test.YtimabpfjjpjfjaaGreatDoorM23
import Derived.RangeFuncNested
import Derived.RangeFuncBound
import Derived.RangeFuncCalls
import Derived.RangeFuncLeaves
import Derived.Shelf.Abstract
import Derived.Shelf.RegionOpen
import Derived.OwnWalkIn
import Derived.TacticsInMore
import Derived.LoopNIn
import Derived.LoopIn
import Derived.Sort.MapsRangeIn
set_option maxHeartbeats 3200000
set_option maxRecDepth 100000
set_option linter.all false
open Go renaming World→qo
open Go.Value renaming pointer→qi,tuple→qj,int→U
open Go.Ending renaming returned→qm
open Go.Obj renaming cells→qn
open Go.IntKind renaming i64→Z
namespace Go.Proofs.YtimabpfjjpjfjaaGreatDoor
open Tryz
namespace TopW
open Go.RowKit OpW Go.Shelf
attribute [local go_sem] Oper.semAt_some
section
variable{κ β:Type}{mk:κ→Value}{ok:κ→Prop}{mv:β→Value}{F:Fence}{n:Nat}{P:Program}{k:TypeId}{ops:Array Oper}{rest:List Oper}{o:Oper}{a:Act}{w:qo}{Q:Exit→Act→qo→Prop}
theorem rn(hg:o.guard=none)(m:Operand)(t e:TypeId)(uU:o.op=Op.range t m)(ht:P.underlying t=some (.map k e))(b nn:Nat)(g:κ→Option β)(h:an mk ok mv w b nn g)(hm:a.eval m= .map (some b))
 (hK: ∀J cT,aI mk ok mv J b w.heap.size nn g (fun _=>false) cT→cT≤nn→Below w.heap.size w J→J.heap.size=w.heap.size+1→wpListIn F n P ops Q rest (a.put o.dst (qi (some ⟨w.heap.size,0,none⟩))) J):
 wpListIn F n P ops Q (o::rest) a w:=by
 refine wpListIn_plain hg fun K' hK'=>?_;obtain⟨J,cT,dV,r1,r2,r3,r4⟩:=h.range ht;unfold Oper.wpIn;refine⟨?_,?_⟩
 ·simp[Oper.about,uU]
 ·rw[Oper.semAt_plain F _ _ (by rw[uU];intro c hc';cases hc')];simp[execOp,uU,hm,dV,Result.andThen];exact hK' _ _ (hK J cT r1 r2 r3 r4)
theorem sH [DecidableEq κ](hg:o.guard=none)(it:Operand)(uU:o.op=Op.next it false)(M:MK P k mk ok)(b r nn cT:Nat)(g:κ→Option β)(seen:κ→Bool)(hit:a.eval it=qi (some ⟨r,0,none⟩))(h:aI mk ok mv w b r nn g seen cT)
 (hDone:(∀x,g x≠none→seen x=true)→wpListIn F n P ops Q rest (a.put o.dst (qj #[.bool false])) w)
 (hMore: ∀(x:κ) (y:β) (J:qo) (pL:Nat),ok x→g x=some y→seen x=false→aI mk ok mv J b r nn g (fun z=>seen z||decide (z=x)) pL→pL<cT→ax r w J→J.heap.size=w.heap.size→
  (Instr.entry (qi (some ⟨r,0,none⟩))).run P J= .ok (qj #[mk x,mv y]) J→wpListIn F n P ops Q rest (a.put o.dst (qj #[.bool true,mk x,mv y])) J):
 wpListIn F n P ops Q (o::rest) a w:=by
 refine wpListIn_plain hg fun K' hK'=>?_;unfold Oper.wpIn;refine⟨by simp[Oper.about,uU],?_⟩;rw[Oper.semAt_plain F _ _ (by rw[uU];intro c hc';cases hc')];rcases h.next M o.type with⟨hl,dV⟩|⟨x,y,J,pL,h1,h2,h3,dV,h4,h5,h6,h7,h8⟩
 ·simp[execOp,uU,hit,dV,Result.andThen];exact hK' _ _ (hDone hl)
 ·simp[execOp,uU,hit,dV,Result.andThen];exact hK' _ _ (hMore x y J pL h1 h2 h3 h4 h5 h6 h7 h8)
theorem an.of_walks{w J:qo}{b nn:Nat}{g:κ→Option β}(h:an mk ok mv w b nn g)(k:KeepsWalks w J):an mk ok mv J b nn g:=by
 obtain⟨es,clock,hb,rest⟩:=h;exact⟨es,clock,k.same _ _ hb rfl,rest⟩
theorem aI.of_walks{w J:qo}{b r nn cT:Nat}{g:κ→Option β}{seen:κ→Bool}(h:aI mk ok mv w b r nn g seen cT)(k:KeepsWalks w J):aI mk ok mv J b r nn g seen cT:=by
 obtain⟨es,clock,since,sn,c0,hb,hs,S,E,hr,rest⟩:=h;exact⟨es,clock,since,sn,c0,k.same _ _ hb rfl,hs,S,E,k.same _ _ hr rfl,rest⟩
theorem aI.iter{w:qo}{b r nn cT:Nat}{g:κ→Option β}{seen:κ→Bool}(h:aI mk ok mv w b r nn g seen cT): ∃o:Obj,w.heap[r]? =some o∧o.isWalk=true:=by
 obtain⟨es,clock,since,sn,c0,hb,hs,S,E,hr,rest⟩:=h;exact⟨_,hr,rfl⟩
end
abbrev U4:={x:Int// 0≤x∧x<4}
theorem LA(n:Nat)(hn:1≤n)(l Bm b:Nat)(Jq Jx:List U4→qo→Prop)
 (hY: ∀pre (x:U4) W,Jq pre W→pre.length<4→YieldAt Fence.wide (n-1) prog l #[sV x.1] W fun e W'=>(e=qm (.bool true)∧Jq (pre++[x]) W'∧KeepsWalks W W')∨(e=qm (.bool false)∧Jx (pre++[x]) W'))
 (W:qo) (hJ:AbidesFrom W.heap.size Jq) (hm:W.cell? ⟨Bm,0,none⟩=some (.map (some b))) (aT:an sV mY kg W b 4 (AR 4)) (h0:Jq [] W):
 CallsIn Fence.wide n prog 225 #[.func (.yield l) #[] #[],qi (some ⟨Bm,0,none⟩)] W fun e W'=>(∃v,e=qm v)∧
  ((∃xs:List U4,True∧Jq xs W')∨(∃pre:List U4,True∧Jx pre W')):=by
 refine callsIn_of_wp func225 rfl trivial ?_ rfl;simp only[ntmps225,List.size_toArray,xf,List.length_nil,Nat.reduceAdd,Nat.reduceSub,Array.replicate_succ,Array.replicate_zero,List.push_toArray,List.append_toArray,xk,xd]
 gi_wp2_with (first
  |(gi_at_range;refine rn rfl _ 167 3 rfl underlying167 b 4 (AR 4) aT rfl ?_;intro w0 ali ahq hc0 hb0 hs0)
  |gi_in)
 go_frame
 gi_loopw [3] (fun _ wr=> ∃(seen:Int→Bool) (cT:Nat) (ss:List U4),aI sV mY kg wr b W.heap.size 4 (AR 4) seen cT∧ss.length+cT≤4∧Jq ss wr)
  (fun _ wr=>rangeLeft wr b W.heap.size)
 case atStart=>
  exact⟨_,_,[],ahq,by simpa using hc0,hJ [] W w0 none h0 ⟨hb0.os,hb0.tape,hb0.output,hb0.size,fun k hk _=>hb0.block k hk⟩ (fun r e=>by cases e)⟩
 case round=>
  obtain⟨seen,cT,ss,PW,ff,hJs⟩:=hrel;have adD:=aI.left PW
  gi_wp2_with (first
   |(gi_at_next;refine sH rfl _ rfl PR b W.heap.size 4 cT _ seen rfl PW ?_ ?_)
   |gi_in)
  ·intro hl0
   gi_wp2
   go_end0
   exact⟨⟨_,rfl⟩,.inl ⟨ss,trivial,hJs⟩⟩
  ·intro i v w2 ahr bI Gs hsx ahs aN ho2 hs2 Nt
   have hv:0≤i∧i<4:=by
    unfold AR at Gs;by_cases h:0≤i∧i<((4:Nat):Int)
    ·exact⟨h.1,Y⟩
    ·rw[qB h]at Gs;cases Gs
   have hJ2:Jq ss w2:=hJ ss wr w2 (some W.heap.size) hJs ho2 (fun r e=>by cases e;exact⟨Nat.le_refl _,aI.iter PW⟩);have hJ3:Jq ss (w2.alloc (qn #[U Z i] 170)):=hJ ss w2 _ none hJ2 (World.grownBy_alloc _ _ none) (fun r e=>by cases e);obtain⟨fn,tmps,assign,body,hy,hR⟩:=hY ss ⟨i,hv⟩ _ hJ3 Y;have ada:(Instr.entry (qi (some ⟨W.heap.size,0,none⟩))).run prog w2= .ok (qj #[.agg #[U Z i],U Z v]) w2:=Nt;have hy':(Instr.yield l #[.agg #[U Z i]]).run prog (w2.alloc (qn #[U Z i] 170))= .ok (.round l fn tmps assign body) (w2.alloc (qn #[U Z i] 170)):=hy;have aht:=aI.ag ahs (aa w2 (qn #[U Z i] 170))
   clear hs2 Nt hy
   gi_wp2
   refine hR.mono ?_;rintro e W3(⟨rfl,hJ3,hk3⟩|⟨rfl,hJx3⟩)
   ·gi_wp2
    have adE:=aI.of_walks aht hk3
    go_roundw
    case rel=>exact⟨_,ahr,ss++[⟨i,hv⟩],adE,by simp;omega,hJ3⟩
    case measure=>rw[aI.left adE,adD];exact aN
   ·gi_wp2
    refine xB (results_none rfl _ _ _) rfl ?_;exact⟨⟨_,rfl⟩,.inr ⟨ss++[⟨i,hv⟩],trivial,hJx3⟩⟩
