/- Part 11 of the texts that the law's walk needs. -/
import Derived.Test.YtimabpfjjpjfjaaGreatDoorM01
import Derived.Test.YtimabpfjjpjfjaaGreatDoorM10
import Derived.OrdersHeld
import Derived.Maps.AppendAt
import Derived.Laws.Tables
set_option maxHeartbeats 3200000
set_option maxRecDepth 100000
set_option linter.all false
open Go renaming World→qo,TypeId→qu,Value→qp,Program→qv
open Go.Value renaming slice→qh
open Go.Value (int)
open Go.IntKind (i64)
namespace Go.Proofs.YtimabpfjjpjfjaaGreatDoor
open Tryz
section
open Go.RowKit
theorem NR{W W':qo}{B n size:Nat}{e:qu}{v:qp}{xs:List qp}(h:W.ownsRow B e size v n xs)(hb:Below W.heap.size W W'):W'.ownsRow B e size v n xs:=
 World.ownsRow.kept h (row:=none) ⟨hb.os,hb.tape,hb.output,hb.size,fun k hk _=>hb.block k hk⟩ (by
  cases hv:v.ownBlock with
  |none=>exact .inl rfl
  |some k=>exact .inr qc)
theorem tA{P:qv}{ops:Array Oper}{o:Oper}{a:Act}{K:Act→qo→Prop}{Q:Exit→Act→qo→Prop}{E:Prop}(uR:o.guard=none)(s x:Operand)(t:qu)
 (ho:o.op= .call {callee:= .builtin .append,args:=#[s,x],argTypes:=#[t,t]})
 (base:Nat) (e:qu) (i:TypeInfo) (z:qp) (size bytes:Nat) (ht:P.underlying t=some (.slice e)) (hi:P.info? e=some i) (hz:i.zero=some z)
 (iq:i.size=size) (CA:i.bytes=bytes) (FD:z.cells.size=size) (dY:0<size)
 (W:qo) (v:qp) (n:Nat) (xs:List qp) (hs:a.eval s=v) (aT:W.ownsRow base e size v n xs)
 (oa:Option Addr) (m c:Nat) (news:List qp) (hx:a.eval x=qh oa m c) (hn:oa=none→m=0∧c=0)
 (hl:news.length=m*size) (ji: ∀ad,oa=some ad→ ∀j u,news[j]? =some u→W.cell? (ad.add j)=some u) (h1: ∀u∈news,u.oneCell'=true)
 (h63:n+m≤maxLen) (fh:(n+m)*bytes≤140737488355328) (ir:base≤W.heap.size)
 (h: ∀oa' cap' J,J.ownsRow base e size (qh oa' (n+m) cap') (n+m) (xs++news)→Below base W J→W.grownBy J v.ownBlock→K (a.put o.dst (qh oa' (n+m) cap')) J):
 if Region.wanted o (yielded ops a.tmps)=true then Oper.wp P o a W K Q else E:=by
 have hw:Region.wanted o (yielded ops a.tmps)=true:=by simp[Region.wanted,uR]
 rw[qH hw]
 cases oa with
 |none=>
  obtain⟨rfl,rfl⟩:=hn rfl;have rL:news=[]:=xe (by simpa using hl);subst rL;obtain⟨oa0,XD,rfl⟩:=fg aT;have hh:=h oa0 XD W;simp only[Nat.add_zero,xg]at hh;have dV:=run_append_owned_none (P:=P) (w:=W) base t o.type e i size ht hi _ n xs aT;unfold Oper.wp;simp only[execOp,ho,resolve,invoke,builtin,Sem.run_bind,Sem.run_pure,List.map_toArray,List.map_cons,List.map_nil,hs,hx,dV,Result.andThen,Oper.upon]
  exact hh aT (Below.refl _ _) ⟨rfl,rfl,rfl,Nat.le_refl _,fun _ _ _=>rfl⟩
 |some ad=>
  refine wp_append_own W s x t ho base e i z size bytes ht hi hz iq CA FD dY v n xs hs aT ad m c news hx hl (ji ad rfl) h1 h63 fh ir ?_;intro v' J h2 h3 _;obtain⟨oa',cap',rfl⟩:=fg h2;exact h oa' cap' J h2 (eu h3 aT ir) h3
end
section
open Go.RowKit
section
variable{P:qv}{ops:Array Oper}{Q:Exit→Act→qo→Prop}{md:Region.Mode}{S:qo→Prop}{last:Nat}
def wpAnyL(P:qv)(md:Region.Mode)(ops:Array Oper)(Q:Exit→Act→qo→Prop)(S:qo→Prop)(last:Nat):Nat→Array Bool→Act→qo→Prop
 |0,listed,a,w=>Region.ready md ops listed=[]∧Q .normal a w
 |n+1,listed,a,w=>(Region.ready md ops listed=[]→Q .normal a w)∧
  ∀i,i∈Region.ready md ops listed→wpOp P ops Q i (fun a' J=>(i≠last→S J)∧wpAnyL P md ops Q S last n (listed.setIfInBounds i true) a' J) a w
theorem wH: ∀(n:Nat) (listed:Array Bool) (a:Act) (w:qo),wpAnyL P md ops Q S last n listed a w→wpAny P md ops Q n listed a w
 |0,_,_,_,h=>h
 |n+1,_,_,_,h=>⟨h.1,fun i hi=>wpOp_mono (fun a' J k=>wH n _ a' J k.2) (h.2 i hi)⟩
def wI(md:Region.Mode)(ops:Array Oper)(last i:Nat):Bool:=((ops[last]?).map fun o=>o.after.any fun e=>Region.binds md e&&e.on==i).getD false
theorem Ku{i:Nat}(h:wI md ops last i=true){listed:Array Bool}(hi:i∈Region.ready md ops listed):last∉Region.ready md ops listed:=by
 intro hl;obtain⟨_,o,ho,mR⟩:=mem_ready.1 hl;unfold wI at h;rw[ho]at h;simp only[Option.map_some,Option.getD_some,Array.any_eq_true]at h;obtain⟨k,hk,he⟩:=h;simp only[qF,beq_iff_eq]at he;have h1:=mR _ (Array.getElem_mem hk) he.1;have h0:=(mem_ready.1 hi).1;rw[he.2]at h1;rcases Nat.lt_or_ge i listed.size with h'|h'
 ·simp[h']at h0 h1;rw[h0]at h1;cases h1
 ·simp[Array.getElem?_eq_none h']at h1
theorem Ya{i:Nat}{oi:Oper}{v:qp}(hi:ops[i]? =some oi)(NS: ∀(j:Nat) (o:Oper) cs b,ops[j]? =some o→o.op≠ .select cs b)(Yb:wI md ops last i=true)
 (hQ: ∀c a w,Q (.panic c) (a.put oi.dst v) w→Q (.panic c) a w):
 ∀(n:Nat) (listed:Array Bool) (a:Act) (w:qo),
  (∀j oj,ops[j]? =some oj→j≠i→listed.getD j true=false→(∀e∈oj.after,Region.binds md e=true→e.on≠i)→oi.apart ops oj=true)→
  i∈Region.ready md ops listed→YieldsIf P ops S oi v a→S w→
  wpAnyL P md ops Q S last n (listed.setIfInBounds i true) (a.put oi.dst v) w→wpAnyL P md ops Q S last (n+1) listed a w:=by
 intro n
 induction n with
 |zero=>
  intro listed a w _ hr hy hS H;refine⟨fun h0=>(by rw[h0]at hr;cases hr),fun j hj=>?_⟩;by_cases zv:j=i
  ·subst zv;exact hy.wpOp hi hS ⟨fun _=>hS,H⟩
  ·have h1:=ready_mono hj zv;rw[H.1]at h1
   cases h1
 |succ n ih=>
  intro listed a w Dk hr hy hS H;refine⟨fun h0=>(by rw[h0]at hr;cases hr),fun j hj=>?_⟩;by_cases zv:j=i
  ·subst zv;exact hy.wpOp hi hS ⟨fun _=>hS,H⟩
  ·have Ac:j≠last:=fun e=>Ku Yb hr (e▸hj);have h1:=H.2 j (ready_mono hj zv);obtain⟨NT,oj,Sn,mR⟩:=mem_ready.1 hj
   have Yc: ∀e∈oj.after,Region.binds md e=true→e.on≠i:=fun e he hb heq=>by
    have k1:=mR e he hb;have k0:=(mem_ready.1 hr).1;rw[heq]at k1;rcases Nat.lt_or_ge i listed.size with h'|h'
    ·simp[h']at k0 k1;rw[k0]at k1;cases k1
    ·simp[Array.getElem?_eq_none h']at k1
   have h2:=wpOp_putIf Sn (Dk j oj Sn zv NT Yc) (fun cs b=>NS i oi cs b hi) (fun cs b=>NS j oj cs b Sn) hQ hy h1;refine wpOp_mono (fun a' J h3=>⟨fun _=>h3.2.1 Ac,ih (listed.setIfInBounds j true) a' J (fun k ok hk MH Wj ux=>?_) (ready_mono hr (Ne.symm zv)) h3.1 (h3.2.1 Ac) ?_⟩) h2
   ·refine Dk k ok hk MH ?_ ux;by_cases JY:j=k
    ·subst JY;exact NT
    ·rw[getD_set_ne true JY]at Wj;exact Wj
   ·rw[Array.setIfInBounds_comm _ _ zv];exact h3.2.2
theorem acb(i:Nat)(d:Option Tmp){oi:Oper}{v:qp}{n:Nat}{listed:Array Bool}{a:Act}{w:qo}(hi:ops[i]? =some oi)
 (hs:Region.noSelect ops=true) (hf:Region.free md ops listed i=true) (hr:(Region.ready md ops listed).contains i=true) (Yb:wI md ops last i=true)
 (hQ: ∀c a w,Q (.panic c) (a.put oi.dst v) w→Q (.panic c) a w) (hg:oi.guard=none) (hd:oi.dst=d) (hS:S w) (hv: ∀J,S J→(execOp a.eval oi).run P J= .ok (.value v) J)
 (h:wpAnyL P md ops Q S last n (listed.setIfInBounds i true) (a.put d v) w):wpAnyL P md ops Q S last (n+1) listed a w:=by
 subst hd;exact Ya hi (Region.noSelect_spec hs) Yb hQ n listed a w (Region.free_spec hi hf) (by simpa using hr) (.inl ⟨by simp[Region.wanted,hg],hv⟩) hS h
theorem tL(i d:Nat)(v:qp){oi:Oper}{n:Nat}{listed:Array Bool}{a:Act}{w:qo}(hS:S w)(hv: ∀J,S J→(execOp a.eval oi).run P J= .ok (.value v) J)(h:wpAnyL P md ops Q S last n (listed.setIfInBounds i true) (a.put (some d) v) w)
 (hi:ops[i]? =some oi:=by rfl) (hs:Region.noSelect ops=true:=by kernel_rfl) (hf:Region.free md ops listed i=true:=by kernel_rfl) (hr:(Region.ready md ops listed).contains i=true:=by kernel_rfl) (ux:wI md ops last i=true:=by kernel_rfl)
 (hg:oi.guard=none:=by rfl) (hd:oi.dst=some d:=by rfl) (hQ: ∀c a w,Q (.panic c) (a.put oi.dst v) w→Q (.panic c) a w:=by exact fun _ _ _ h=>h):wpAnyL P md ops Q S last (n+1) listed a w:=
 acb i (some d) hi hs hf hr ux hQ hg hd hS hv h
theorem ay(i:Nat){oi:Oper}{n:Nat}{listed:Array Bool}{a:Act}{w:qo}(hr:Region.ready md ops listed=[i])(hi:ops[i]? =some oi)(hg:oi.guard=none)
 (h:oi.wp P a w (fun a' J=>(i≠last→S J)∧wpAnyL P md ops Q S last n (listed.setIfInBounds i true) a' J) Q):wpAnyL P md ops Q S last (n+1) listed a w:=by
 refine⟨fun h0=>(by rw[hr]at h0;cases h0),fun j hj=>?_⟩;rw[hr,qS]at hj;subst hj;unfold Go.wpOp;simp only[hi];rw[qH (by simp[Region.wanted,hg])];exact .inl h
theorem oP(i j:Nat){oi oj:Oper}{n:Nat}{listed:Array Bool}{a:Act}{w:qo}(hr:Region.ready md ops listed=[i,j])(hi:ops[i]? =some oi)(hj:ops[j]? =some oj)(hg:oi.guard=none)(hg':oj.guard=none)
 (h:oi.wp P a w (fun a' J=>(i≠last→S J)∧wpAnyL P md ops Q S last n (listed.setIfInBounds i true) a' J) Q)
 (h':oj.wp P a w (fun a' J=>(j≠last→S J)∧wpAnyL P md ops Q S last n (listed.setIfInBounds j true) a' J) Q):wpAnyL P md ops Q S last (n+1) listed a w:=by
 refine⟨fun h0=>(by rw[hr]at h0;cases h0),fun k hk=>?_⟩;rw[hr]at hk;simp only[qG,qQ,xt]at hk;rcases hk with rfl|rfl
 ·unfold Go.wpOp;simp only[hi];rw[qH (by simp[Region.wanted,hg])];exact .inl h
 ·unfold Go.wpOp;simp only[hj];rw[qH (by simp[Region.wanted,hg'])];exact .inl h'
theorem aU{n:Nat}{listed:Array Bool}{a:Act}{w:qo}(hr:Region.ready md ops listed=[])(h:Q .normal a w):wpAnyL P md ops Q S last n listed a w:=by
 cases n with
 |zero=>exact⟨hr,h⟩
 |succ n=>exact⟨fun _=>h,fun i hi=>by rw[hr]at hi;cases hi⟩
theorem aB(last n:Nat){id:Nat}{a:Act}{w:qo}(S:qo→Prop)(hm:P.follows .mixedOrders=true)(hn:ops.size=n)
 (h:wpAnyL P .any ops Q S last n (Array.replicate n false) a w.drew):(Code.region id ops true).wp P Q a w:=
 wp_region_any hm (by rw[hn];exact wH _ _ _ _ h)
theorem aw(d:Option Tmp){o:Oper}{a:Act}{w J:qo}{v:qp}{K:Act→qo→Prop}(hd:o.dst=d)(hr:(execOp a.eval o).run P w= .ok (.value v) J)(h:K (a.put d v) J):o.wp P a w K Q:=by
 subst hd;unfold Oper.wp;rw[hr];exact h
theorem bm(d:Option Tmp){o:Oper}{a:Act}{w J:qo}{K:Act→qo→Prop}(hd:o.dst=d)(hr:(execOp a.eval o).run P w= .ok .skip J)(h:K (a.put d undef) J):o.wp P a w K Q:=by
 subst hd;unfold Oper.wp;rw[hr];exact h
end
theorem wJ(d:Option Tmp){P:qv}{o:Oper}{a:Act}{K:Act→qo→Prop}{Q:Exit→Act→qo→Prop}(uR:o.guard=none)(hd:o.dst=d)(s x:Operand)(t:qu)
 (ho:o.op= .call {callee:= .builtin .append,args:=#[s,x],argTypes:=#[t,t]})
 (base:Nat) (e:qu) (i:TypeInfo) (z:qp) (size bytes:Nat) (ht:P.underlying t=some (.slice e)) (hi:P.info? e=some i) (hz:i.zero=some z)
 (iq:i.size=size) (CA:i.bytes=bytes) (FD:z.cells.size=size) (dY:0<size)
 (W:qo) (v:qp) (n:Nat) (xs:List qp) (hs:a.eval s=v) (aT:W.ownsRow base e size v n xs)
 (oa:Option Addr) (m c:Nat) (news:List qp) (hx:a.eval x=qh oa m c) (hn:oa=none→m=0∧c=0)
 (hl:news.length=m*size) (ji: ∀ad,oa=some ad→ ∀j u,news[j]? =some u→W.cell? (ad.add j)=some u) (h1: ∀u∈news,u.oneCell'=true)
 (h63:n+m≤maxLen) (fh:(n+m)*bytes≤140737488355328) (ir:base≤W.heap.size)
 (h: ∀oa' cap' J,J.ownsRow base e size (qh oa' (n+m) cap') (n+m) (xs++news)→Below base W J→W.grownBy J v.ownBlock→K (a.put d (qh oa' (n+m) cap')) J):o.wp P a W K Q:=by
 subst hd;have:=tA (ops:=#[]) (E:=True) (Q:=Q) uR s x t ho base e i z size bytes ht hi hz iq CA FD dY W v n xs hs aT oa m c news hx hn hl ji h1 h63 fh ir h
 rwa [qH (by simp[Region.wanted,uR])]at this
section
variable{α:Type}{enc:α→List qp}{k:Nat}
end
end
section
open Go.RowKit
section
variable{α:Type}{enc:α→List qp}{k:Nat}{T:qu}
theorem RowK.other{B:Nat}{w J:qo}{v:qp}{l:List α}{r:Option Nat}(h:RowK T enc k B w v l)(hg:w.grownBy J r)(bd: ∀g,v.ownBlock=some g→r≠some g):RowK T enc k B J v l:=
 World.ownsRow.kept h hg (by
  cases hv:v.ownBlock with
  |none=>exact .inl rfl
  |some g=>exact .inr (fun e=>bd g hv e.symm))
end
end
namespace TopW
open Go.RowKit
theorem al{P:qv}{o:Oper}{a:Act}{w:qo}{K:Act→qo→Prop}{Q:Exit→Act→qo→Prop}(d:Option Tmp){f:FuncId}{args:Array qp}(hd:o.dst=d)
 (hr:(execOp a.eval o).run P w= .ok (.enter f args) w) (R:qp→qo→Prop) (hc:Calls P f args w fun e J=> ∃v,e= .returned v∧R v J) (h: ∀v J,R v J→K (a.put d v) J):o.wp P a w K Q:=by
 subst hd;unfold Oper.wp;rw[hr,Oper.upon_enter];refine hc.mono ?_;rintro e J⟨v,rfl,hw⟩;exact h v J hw
theorem dG{P:qv}{o:Oper}{a:Act}{w:qo}{K:Act→qo→Prop}{Q:Exit→Act→qo→Prop}(hd:o.dst=none)(ty:qu)(x y:Operand)(ho:o.op= .store ty x y)
 (g:Nat) (cells:Array qp) (hx:a.eval x= .pointer (some ⟨g,0,none⟩)) (hy:a.eval y= .agg cells)
 (t:qu) (old:Array qp) (hg:w.heap[g]? =some (.cells old t (0,0))) (hi:(P.info? ty).map (·.size)=some cells.size)
 (hold:old.size=cells.size) (h1:cells.all (·.oneCell')=true) (h:K a (w.setRow g cells)):o.wp P a w K Q:=
 wp_store_row ty x y ho g cells hx hy t old hg hi hold h1 (by rw[hd];exact h)
end TopW
section
open Go.RowKit
section
variable{P:qv}{ops:Array Oper}{Q:Exit→Act→qo→Prop}{md:Region.Mode}{S:qo→Prop}{last:Nat}
theorem NU{i:Nat}{oi:Oper}{v:qp}(hi:ops[i]? =some oi)(NS: ∀(j:Nat) (o:Oper) cs b,ops[j]? =some o→o.op≠ .select cs b)(ux:ops[last]? =none)
 (hQ: ∀c a w,Q (.panic c) (a.put oi.dst v) w→Q (.panic c) a w):
 ∀(n:Nat) (listed:Array Bool) (a:Act) (w:qo),
  (∀j oj,ops[j]? =some oj→j≠i→listed.getD j true=false→(∀e∈oj.after,Region.binds md e=true→e.on≠i)→oi.apart ops oj=true)→
  i∈Region.ready md ops listed→YieldsIf P ops S oi v a→S w→
  wpAnyL P md ops Q S last n (listed.setIfInBounds i true) (a.put oi.dst v) w→wpAnyL P md ops Q S last (n+1) listed a w:=by
 intro n
 induction n with
 |zero=>
  intro listed a w _ hr hy hS H;refine⟨fun h0=>(by rw[h0]at hr;cases hr),fun j hj=>?_⟩;by_cases zv:j=i
  ·subst zv;exact hy.wpOp hi hS ⟨fun _=>hS,H⟩
  ·have h1:=ready_mono hj zv;rw[H.1]at h1
   cases h1
 |succ n ih=>
  intro listed a w Dk hr hy hS H;refine⟨fun h0=>(by rw[h0]at hr;cases hr),fun j hj=>?_⟩;by_cases zv:j=i
  ·subst zv;exact hy.wpOp hi hS ⟨fun _=>hS,H⟩
  ·have Ac:j≠last:=fun e=>by obtain⟨_,oj,Sn,_⟩:=mem_ready.1 hj;rw[e,ux]at Sn;cases Sn
   have h1:=H.2 j (ready_mono hj zv);obtain⟨NT,oj,Sn,mR⟩:=mem_ready.1 hj
   have Yc: ∀e∈oj.after,Region.binds md e=true→e.on≠i:=fun e he hb heq=>by
    have k1:=mR e he hb;have k0:=(mem_ready.1 hr).1;rw[heq]at k1;rcases Nat.lt_or_ge i listed.size with h'|h'
    ·simp[h']at k0 k1;rw[k0]at k1;cases k1
    ·simp[Array.getElem?_eq_none h']at k1
   have h2:=wpOp_putIf Sn (Dk j oj Sn zv NT Yc) (fun cs b=>NS i oi cs b hi) (fun cs b=>NS j oj cs b Sn) hQ hy h1;refine wpOp_mono (fun a' J h3=>⟨fun _=>h3.2.1 Ac,ih (listed.setIfInBounds j true) a' J (fun k ok hk MH Wj ux=>?_) (ready_mono hr (Ne.symm zv)) h3.1 (h3.2.1 Ac) ?_⟩) h2
   ·refine Dk k ok hk MH ?_ ux;by_cases JY:j=k
    ·subst JY;exact NT
    ·rw[getD_set_ne true JY]at Wj;exact Wj
   ·rw[Array.setIfInBounds_comm _ _ zv];exact h3.2.2
theorem takeN(i:Nat)(d:Option Tmp){oi:Oper}{v:qp}{n:Nat}{listed:Array Bool}{a:Act}{w:qo}(hi:ops[i]? =some oi)
 (hs:Region.noSelect ops=true) (hf:Region.free md ops listed i=true) (hr:(Region.ready md ops listed).contains i=true) (ux:ops[last]? =none)
 (hQ: ∀c a w,Q (.panic c) (a.put oi.dst v) w→Q (.panic c) a w) (hg:oi.guard=none) (hd:oi.dst=d) (hS:S w) (hv: ∀J,S J→(execOp a.eval oi).run P J= .ok (.value v) J)
 (h:wpAnyL P md ops Q S last n (listed.setIfInBounds i true) (a.put d v) w):wpAnyL P md ops Q S last (n+1) listed a w:=by
 subst hd;exact NU hi (Region.noSelect_spec hs) ux hQ n listed a w (Region.free_spec hi hf) (by simpa using hr) (.inl ⟨by simp[Region.wanted,hg],hv⟩) hS h
theorem tN(i d:Nat)(v:qp){oi:Oper}{n:Nat}{listed:Array Bool}{a:Act}{w:qo}(hS:S w)(hv: ∀J,S J→(execOp a.eval oi).run P J= .ok (.value v) J)(h:wpAnyL P md ops Q S last n (listed.setIfInBounds i true) (a.put (some d) v) w)
 (hi:ops[i]? =some oi:=by rfl) (hs:Region.noSelect ops=true:=by kernel_rfl) (hf:Region.free md ops listed i=true:=by kernel_rfl) (hr:(Region.ready md ops listed).contains i=true:=by kernel_rfl) (ux:ops[last]? =none:=by rfl)
 (hg:oi.guard=none:=by rfl) (hd:oi.dst=some d:=by rfl) (hQ: ∀c a w,Q (.panic c) (a.put oi.dst v) w→Q (.panic c) a w:=by exact fun _ _ _ h=>h):wpAnyL P md ops Q S last (n+1) listed a w:=
 takeN i (some d) hi hs hf hr ux hQ hg hd hS hv h
