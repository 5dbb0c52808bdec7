/- Part 1 of the texts that the law's walk needs. -/
import Derived.Test.YtimabpfjjpjfjaaGreatDoorM00
import Derived.Laws.AppendOwnNone
set_option maxHeartbeats 3200000
set_option maxRecDepth 100000
set_option linter.all false
open Go renaming World→qo,TypeId→qu,Value→qp,Program→qv
open Go.RowKit renaming Below→qz
open Go.Value renaming slice→qh
open Go.Obj renaming cells→qn
open Go.Value (int)
open Go.IntKind (i64)
namespace Go.Proofs.YtimabpfjjpjfjaaGreatDoor
open Tryz
section
open Go.RowKit
theorem tq{W J:qo}{o:Obj}{row:Option Nat}(h:(W.alloc o).grownBy J row):W.grownBy J row:=
 ⟨h.os,h.tape,h.output,qM qc h.size,fun k hk bd=>(h.block k (by simp;omega) bd).trans (Below.heap_alloc W o k hk)⟩
theorem eu{W J:qo}{base size n:Nat}{e:qu}{v:qp}{xs:List qp}(h:W.grownBy J v.ownBlock)(ho:W.ownsRow base e size v n xs)(hb:base≤W.heap.size):qz base W J:=
 (Below.refl base W).grown h hb (fun k hk=>by
  rcases ho.2 with⟨rfl,_⟩|⟨g,cap,cur,rfl,hg,_⟩
  ·simp[Value.ownBlock]at hk
  ·simp[Value.ownBlock]at hk;omega)
theorem fg{W:qo}{base size n:Nat}{e:qu}{v:qp}{xs:List qp}(h:W.ownsRow base e size v n xs): ∃oa cap,v=qh oa n cap:=by
 rcases h.2 with⟨rfl,h0⟩|⟨g,cap,cur,rfl,_⟩
 ·exact⟨none,0,by rw[h0]⟩
 ·exact⟨_,_,rfl⟩
theorem bB{P:qv}{ops:Array Oper}{rest:List Oper}{o:Oper}{a:Act}{Q:Exit→Act→qo→Prop}(uR:o.guard=none)(s x:Operand)(t:qu)
 (ho:o.op= .call {callee:= .builtin .append,args:=#[s,x],argTypes:=#[t,t]})
 (base:Nat) (e:qu) (i:TypeInfo) (z:qp) (size bytes:Nat) (ht:P.underlying t=some (.slice e)) (hi:P.info? e=some i) (hz:i.zero=some z)
 (iq:i.size=size) (CA:i.bytes=bytes) (FD:z.cells.size=size) (dY:0<size)
 {W:qo} (v:qp) (n:Nat) (xs:List qp) (hs:a.eval s=v) (aT:W.ownsRow base e size v n xs)
 {cs:Array qp} {T:qu} (m c:Nat) (hx:a.eval x=qh (some ⟨W.heap.size,0,none⟩) m c) (hl:cs.size=m*size) (h1: ∀u∈cs.toList,u.oneCell'=true)
 (h63:n+m≤maxLen) (fh:(n+m)*bytes≤140737488355328) (ir:base≤W.heap.size)
 (h: ∀oa cap J,J.ownsRow base e size (qh oa (n+m) cap) (n+m) (xs++cs.toList)→qz base W J→W.grownBy J v.ownBlock→wpList P ops Q rest (a.put o.dst (qh oa (n+m) cap)) J):
 wpList P ops Q (o::rest) a (W.alloc (qn cs T)):=by
 refine wpList_append_own _ uR s x t ho base e i z size bytes ht hi hz iq CA FD dY v n xs hs (aT.alloc _) ⟨W.heap.size,0,none⟩ m c cs.toList hx (by simpa using hl) ?_ h1 h63 fh (by simp;omega) ?_
 ·exact World.news_of_block (qA W _)
 ·intro v' J h2 h3 _;have h4:=tq h3;obtain⟨oa,cap,rfl⟩:=fg h2;exact h oa cap J h2 (eu h4 aT ir) h4
theorem bw{P:qv}{ops:Array Oper}{rest:List Oper}{o:Oper}{a:Act}{Q:Exit→Act→qo→Prop}(uR:o.guard=none)(s x:Operand)(t:qu)
 (ho:o.op= .call {callee:= .builtin .append,args:=#[s,x],argTypes:=#[t,t]})
 (base:Nat) (e:qu) (i:TypeInfo) (z:qp) (size bytes:Nat) (ht:P.underlying t=some (.slice e)) (hi:P.info? e=some i) (hz:i.zero=some z)
 (iq:i.size=size) (CA:i.bytes=bytes) (FD:z.cells.size=size) (dY:0<size)
 {W:qo} (v:qp) (n:Nat) (xs:List qp) (hs:a.eval s=v) (aT:W.ownsRow base e size v n xs)
 {cs:Array qp} {T:qu} (b m c:Nat) (hx:a.eval x=qh (some ⟨b,0,none⟩) m c) (hl:cs.size=m*size) (h1: ∀u∈cs.toList,u.oneCell'=true)
 (h63:n+m≤maxLen) (fh:(n+m)*bytes≤140737488355328) (ir:base≤W.heap.size) (hb:W.heap.size=b)
 (h: ∀oa cap J,J.ownsRow base e size (qh oa (n+m) cap) (n+m) (xs++cs.toList)→qz base W J→W.grownBy J v.ownBlock→wpList P ops Q rest (a.put o.dst (qh oa (n+m) cap)) J):
 wpList P ops Q (o::rest) a (W.alloc (qn cs T)):=by
 subst hb;exact bB uR s x t ho base e i z size bytes ht hi hz iq CA FD dY v n xs hs aT m c hx hl h1 h63 fh ir h
theorem jG{P:qv}{ops:Array Oper}{rest:List Oper}{o:Oper}{a:Act}{Q:Exit→Act→qo→Prop}(uR:o.guard=none)(s x:Operand)(t:qu)
 (ho:o.op= .call {callee:= .builtin .append,args:=#[s,x],argTypes:=#[t,t]})
 (base:Nat) (e:qu) (i:TypeInfo) (z:qp) (size bytes:Nat) (ht:P.underlying t=some (.slice e)) (hi:P.info? e=some i) (hz:i.zero=some z)
 (iq:i.size=size) (CA:i.bytes=bytes) (FD:z.cells.size=size) (dY:0<size)
 {W:qo} (v:qp) (n:Nat) (xs:List qp) (hs:a.eval s=v) (aT:W.ownsRow base e size v n xs)
 (oa:Option Addr) (m c:Nat) (news:List qp) (hx:a.eval x=qh oa m c) (hn:oa=none→m=0∧c=0)
 (hl:news.length=m*size) (ji: ∀ad,oa=some ad→ ∀j u,news[j]? =some u→W.cell? (ad.add j)=some u) (h1: ∀u∈news,u.oneCell'=true)
 (h63:n+m≤maxLen) (fh:(n+m)*bytes≤140737488355328) (ir:base≤W.heap.size)
 (h: ∀oa' cap' J,J.ownsRow base e size (qh oa' (n+m) cap') (n+m) (xs++news)→qz base W J→W.grownBy J v.ownBlock→wpList P ops Q rest (a.put o.dst (qh oa' (n+m) cap')) J):
 wpList P ops Q (o::rest) a W:=by
 cases oa with
 |none=>
  obtain⟨rfl,rfl⟩:=hn rfl;have rL:news=[]:=xe (by simpa using hl);subst rL;obtain⟨oa0,XD,rfl⟩:=fg aT;refine wpList_append_own_none uR s x t ho base e i size ht hi _ n xs hs aT hx ?_;have:=h oa0 XD W;simp only[Nat.add_zero,xg]at this
  exact this aT (Below.refl _ _) ⟨rfl,rfl,rfl,Nat.le_refl _,fun _ _ _=>rfl⟩
 |some ad=>
  refine wpList_append_own _ uR s x t ho base e i z size bytes ht hi hz iq CA FD dY _ n xs hs aT ad m c news hx hl (ji ad rfl) h1 h63 fh ir ?_;intro v' J h2 h3 _;obtain⟨oa',cap',rfl⟩:=fg h2;exact h oa' cap' J h2 (eu h3 aT ir) h3
theorem jH{P:qv}{ops:Array Oper}{rest:List Oper}{o:Oper}{a:Act}{Q:Exit→Act→qo→Prop}(uR:o.guard=none)(s x:Operand)(t:qu)
 (ho:o.op= .call {callee:= .builtin .append,args:=#[s,x],argTypes:=#[t,t]})
 (e:qu) (i:TypeInfo) (z:qp) (size bytes:Nat) (ht:P.underlying t=some (.slice e)) (hi:P.info? e=some i) (hz:i.zero=some z)
 (iq:i.size=size) (CA:i.bytes=bytes) (FD:z.cells.size=size) (dY:0<size)
 {W:qo} (hs:a.eval s=qh (some ⟨W.heap.size,0,none⟩) 0 0) (oa:Option Addr) (m c:Nat) (news:List qp) (hx:a.eval x=qh oa m c) (hn:oa=none→m=0∧c=0)
 (hl:news.length=m*size) (ji: ∀ad,oa=some ad→ ∀j u,news[j]? =some u→W.cell? (ad.add j)=some u) (h1: ∀u∈news,u.oneCell'=true)
 (h63:m≤maxLen) (fh:m*bytes≤140737488355328)
 (h: ∀oa' cap' J,J.ownsRow W.heap.size e size (qh oa' m cap') m news→qz W.heap.size W J→wpList P ops Q rest (a.put o.dst (qh oa' m cap')) J):
 wpList P ops Q (o::rest) a (W.alloc (qn #[] e)):=by
 have aT:(W.alloc (qn #[] e)).ownsRow W.heap.size e size (qh (some ⟨W.heap.size,0,none⟩) 0 0) 0 []:=
  ⟨qc,.inr ⟨W.heap.size,0,#[],rfl,Nat.le_refl _,qA W _,Nat.le_refl _,Nat.zero_le _,qc,qc⟩⟩
 cases oa with
 |none=>
  obtain⟨rfl,rfl⟩:=hn rfl;have rL:news=[]:=xe (by simpa using hl);subst rL
  exact wpList_append_own_none uR s x t ho W.heap.size e i size ht hi _ 0 [] hs aT hx (by rw[←hs];rw[hs];exact h _ _ _ aT (aa W _))
 |some ad=>
  refine wpList_append_own _ uR s x t ho W.heap.size e i z size bytes ht hi hz iq CA FD dY _ 0 [] hs aT ad m c news hx hl ?_ h1 Y (by rw[Nat.zero_add];exact fh) qc ?_
  ·intro j u hu;have hc:=ji ad rfl j u hu;rw[←hc];exact World.cell?_alloc_lt W _ _ (by have:=xv _ _ hc;exact this)
  ·intro v' J h2 h3 _;obtain⟨oa',cap',rfl⟩:=fg h2;rw[Nat.zero_add,xk]at h2;rw[Nat.zero_add];exact h oa' cap' J h2 (eu (v:=qh (some ⟨W.heap.size,0,none⟩) 0 0) (base:=W.heap.size) (W:=W.alloc (qn #[] e)) h3 aT qc|>fun hb=>(aa W _).trans hb)
