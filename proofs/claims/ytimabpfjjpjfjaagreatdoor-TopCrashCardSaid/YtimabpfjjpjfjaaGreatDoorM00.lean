/- Part 0 of the texts that the law's walk needs. -/
import Derived.Test.YtimabpfjjpjfjaaGreatDoorProg
import Derived.KernelRfl
import Derived.WalkKit
import Derived.WalkSpells
import Derived.WalkLawsBesides
import Derived.Lib.Hide
import Derived.Lib.Strings
import Derived.Lib.IndexBytes
import Derived.Lib.Builder
import Derived.Deep.OwnRows
import Derived.Deep.RegionWith
import Derived.Deep.QuietTactic
import Derived.BigQuiet
import Derived.StillTailTactics
import Derived.Deep.RegionHeld3
import Derived.Deep.RegionLaw
import Derived.Deep.AppendLies
import Derived.Deep.Draws
import Derived.Deep.DeepFit
import Derived.Deep.DeepCutAuto
import Derived.Lib.UnsafeStr
import Derived.Deep.Quiet
import Derived.Lib.AppendStr
import Derived.ScopeJumps
import Derived.WalkMore
set_option maxHeartbeats 3200000
set_option maxRecDepth 100000
set_option linter.all false
open Go renaming Value→qp,World→qo,Program→qv,Calls→qw,TypeId→qu,Addr→qt
open Go.Ending renaming returned→qm
open Go.Value renaming bool→qk,int→U,agg→ql,slice→qh,pointer→qi,tuple→qj,string→qg
open Go.RowKit renaming Below→qz
open Go.Obj renaming cells→qn
open Go.IntKind renaming i64→Z
namespace Go
abbrev qA:= @heap_alloc_new
abbrev qB:= @if_neg
abbrev qC:= @decide_eq_true_eq
abbrev qD:= @decide_eq_false
abbrev qE:= @wpList_store_row
abbrev qF:= @Bool.and_eq_true
abbrev qG:= @List.mem_cons
abbrev qH:= @if_pos
abbrev qI:= @Lib.cell_of_heap
abbrev qJ:= @setRow_heap
abbrev qK:= @lt_of_block
abbrev qL:= @List.take_succ_eq_append_getElem
abbrev qM:= @Nat.le_trans
abbrev qN:= @List.getElem?_eq_getElem
abbrev qO:= @IntWalk.i64_in
abbrev qP:= @beq_eq_false_iff_ne
abbrev qQ:= @List.not_mem_nil
abbrev qR:= @decide_eq_true
abbrev qS:= @List.mem_singleton
abbrev qT:= @List.take_of_length_le
abbrev qU:= @List.flatMap_cons
abbrev qV:= @List.mem_cons_of_mem
abbrev qW:= @List.append_assoc
abbrev qX:= @congrArg
abbrev qY:= @List.length_append
abbrev qZ:= @absurd
abbrev xa:= @List.mem_append
abbrev xb:= @List.getElem?_eq_some_iff
abbrev xd:= @List.cons_append
abbrev xe:= @List.eq_nil_of_length_eq_zero
abbrev xf:= @List.length_cons
abbrev xg:= @List.append_nil
abbrev xh:= @List.mem_cons_self
abbrev xj:= @RowKit.Below.heap_setCell
abbrev xk:= @List.nil_append
abbrev xl:= @setRow_other
abbrev xm:= @heap_alloc_old
abbrev xo:= @Int.eq_ofNat_of_zero_le
abbrev xp:= @List.mem_of_getElem?
abbrev xq:= @Lib.toList_data
abbrev xr:= @of_decide_eq_true
abbrev xt:= @or_false
abbrev xu:= @Exit.noGoto_normal
abbrev xv:= @World.block_lt_of_cell?
abbrev xw:= @List.pairwise_cons
abbrev xx:= @Lib.frozen_of_heap
abbrev xy:= @List.flatMap_append
abbrev xz:= @List.getD_eq_getElem?_getD
abbrev xA:= @List.take_add_one
abbrev xB:= @bodyPost_ret
abbrev xC:= @List.nodup_cons
abbrev xD:= @List.getElem?_append_left
abbrev xE:= @List.extract_eq_take_drop
abbrev xF:= @List.length_take
abbrev xG:= @Option.map_eq_some_iff
abbrev xH:= @Nat.lt_of_lt_of_le
abbrev xI:= @Nat.pow_le_pow_right
abbrev xJ:= @Array.toList_extract
abbrev xK:= @Bool.false_eq_true
abbrev xL:= @ByteArray.data_extract
theorem Y{p:Prop}(h:p:=by omega):p:=h
theorem qa{p:Prop}(h:p:=by decide):p:=h
theorem qc{p:Prop}(h:p:=by simp):p:=h
theorem qd{p:Prop}(h:p:=by kernel_rfl):p:=h
theorem qe{p:Prop}(h:p:=by assumption):p:=h
theorem qf{p:Prop}(h:p:=by go_simp):p:=h
theorem Hd{p:Prop}(h:p):RowKit.Hid p:=Lib.hid h
theorem gA{α:Type}{l:List α}{i:Nat}(h:i<l.toArray.size):l.toArray[i]'h=l[i]'(by simpa using h):=rfl
theorem gZ{α:Type}{a:α}{l:List α}{h:0<(a::l).length}:(a::l)[0]'h=a:=rfl
theorem gS{α:Type}{a:α}{l:List α}{i:Nat}{h:i+1<(a::l).length}:(a::l)[i+1]'h=l[i]'(by simpa using h):=rfl
theorem bJ{p:Prop}(h:p:=by first|(simp only[pS,aS,sZ,sS];go_simp;with_reducible rfl)|(go_simp;with_reducible rfl)):p:=h
theorem RowKit.Hid.o{p:Prop}(h:RowKit.Hid p):p:=h
theorem cD{α:Type}{a:Option α}{b c:α}(h:a=some b)(e:b=c:=by kernel_rfl):a=some c:=h.trans (qX some e)
end Go
namespace Go
theorem pS(a:Act)(d:Tmp)(v:qp):a.put (some d) v={a with tmps:=a.tmps.setIfInBounds d v}:=rfl
theorem aS{α:Type}(l:List α)(i:Nat)(a:α):l.toArray.setIfInBounds i a=(l.set i a).toArray:=List.setIfInBounds_toArray ..
theorem sZ{α:Type}(x y:α)(l:List α):(x::l).set 0 y=y::l:=rfl
theorem sS{α:Type}(x y:α)(n:Nat)(l:List α):(x::l).set (n+1) y=x::l.set n y:=rfl
end Go
namespace Go.Proofs.YtimabpfjjpjfjaaGreatDoor
open Tryz
open Tryz renaming prog→qx
section
open Go.RowKit
theorem aO{k:IntKind}{a b:Int}(h:a=b):Ending.returned (.int k a)=qm (.int k b):=by rw[h]
theorem aH{a b:Bool}(h:a=b):Ending.returned (qk a)=qm (qk b):=by rw[h]
theorem below_drewN{B:Nat}{a w:qo}(h:qz B a w)(n:Nat):qz B a (w.drewN n):=⟨h.os,h.tape,h.output,h.size,h.block⟩
theorem ai{a b c:qo}(h:qz a.heap.size a b)(k:qz b.heap.size b c):qz a.heap.size a c:=h.trans (k.mono h.size)
theorem CE{P:qv}{f:FuncId}{args:Array qp}{w:qo}{v:qp}(h:qw P f args w fun e J=>e=qm v∧w=J):qw P f args w fun e J=>e=qm v∧J=w:=
 h.mono fun _ _ ⟨he,hw⟩=>⟨he,hw.symm⟩
theorem vF{P:qv}{f:FuncId}{args:Array qp}{w:qo}{n:Nat}{v:qp}
 (h:qw P f args (w.drewN n) fun e J=>e=qm v∧w.drewN n=J):qw P f args (w.drewN n) fun e w''=>e=qm v∧ ∃m,w''=w.drewN m:=
 h.mono fun _ _ ⟨he,hm⟩=>⟨he,n,hm.symm⟩
theorem aK(w:qo):qz w.heap.size w w:=Below.refl _ _
theorem aa(w:qo)(o:Obj):qz w.heap.size w (w.alloc o):=(Below.refl _ _).alloc (Nat.le_refl _) o
theorem bV{w w1:qo}{o:Obj}(hb:qz (w.alloc o).heap.size (w.alloc o) w1):w1.heap[w.heap.size]? =some o:=
 (hb.block w.heap.size qc).trans (qA w o)
theorem aC{w1:qo}{b:Nat}{cs:Array qp}{t:qu}(h:w1.heap[b]? =some (qn cs t (0,0)))(i:Nat)(hi:i<cs.size):w1.cell? ⟨b,i,none⟩=some cs[i]∧w1.frozen? ⟨b,i,none⟩=false:=
 ⟨by rw[qI h];simp[hi],xx h i⟩
theorem aJ{w1:qo}{b:Nat}{cs:Array qp}{t:qu}(h:w1.heap[b]? =some (qn cs t (0,0)))(i:Nat)(hi:i<cs.size:=by simp):w1.cell? ⟨b,i,none⟩=some cs[i]:=(aC h i hi).1
theorem cn{w1:qo}{b:Nat}{cs:Array qp}{t:qu}(h:w1.heap[b]? =some (qn cs t (0,0)))(i:Nat)(hi:i<cs.size:=by simp):w1.frozen? ⟨b,i,none⟩=false:=(aC h i hi).2
theorem pG{w1:qo}{b:Nat}{x y z:qp}{t:qu}(h:w1.heap[b]? =some (qn #[x,y,z] t (0,0))):
 w1.cell? ⟨b,0,none⟩=some x∧w1.cell? ⟨b,1,none⟩=some y∧w1.cell? ⟨b,2,none⟩=some z∧w1.frozen? ⟨b,0,none⟩=false∧w1.frozen? ⟨b,1,none⟩=false∧w1.frozen? ⟨b,2,none⟩=false:=
 ⟨(aJ h 0),(aJ h 1),(aJ h 2),(cn h 0),(cn h 1),(cn h 2)⟩
end
section
open Go.RowKit
def ax(b:Nat)(w J:qo):Prop:=w.grownBy J (some b)
theorem ax.refl(b:Nat)(w:qo):ax b w w:=⟨rfl,rfl,rfl,Nat.le_refl _,fun _ _ _=>rfl⟩
theorem ax.size{b:Nat}{a w:qo}(h:ax b a w):a.heap.size≤w.heap.size:=World.grownBy.size h
theorem ax.drew{b:Nat}{a w:qo}(h:ax b a w):ax b a w.drew:=⟨h.os,h.tape,h.output,(show a.heap.size≤w.heap.size from h.size),h.block⟩
theorem ax.drewN{b:Nat}{a w:qo}(h:ax b a w)(n:Nat):ax b a (w.drewN n):=⟨h.os,h.tape,h.output,(show a.heap.size≤w.heap.size from h.size),h.block⟩
theorem ax.trans{b:Nat}{a w x:qo}(h:ax b a w)(k:ax b w x):ax b a x:=
 ⟨k.os.trans h.os,k.tape.trans h.tape,k.output.trans h.output,qM h.size k.size,fun i hi bd=>(k.block i (xH hi h.size) bd).trans (h.block i hi bd)⟩
theorem ax.setCell{b:Nat}{a w:qo}(h:ax b a w)(i:Nat)(u:qp):ax b a (w.setCell ⟨b,i,none⟩ u):=
 ⟨h.os,h.tape,h.output,by simpa using h.size,fun k hk bd=>(xj w ⟨b,i,none⟩ u k (fun e=>bd (by rw[e]))).trans (h.block k hk bd)⟩
theorem ax.af{b:Nat}{a w:qo}(h:qz a.heap.size a w):ax b a w:=⟨h.os,h.tape,h.output,h.size,fun k hk _=>h.block k hk⟩
theorem ax.step{b:Nat}{a w x:qo}(h:ax b a w)(k:qz w.heap.size w x):ax b a x:=h.trans (ax.af k)
theorem ax.below{b B:Nat}{w J:qo}(h:ax b w J)(hB:B≤b)(hw:B≤w.heap.size):qz B w J:=
 ⟨h.os,h.tape,h.output,h.size,fun k hk=>h.block k (xH hk hw) (fun e=>by injection e;omega)⟩
theorem ax.heap{b x:Nat}{w J:qo}{o:Obj}(h:ax b w J)(hx:w.heap[x]? =some o)(bd:x≠b):J.heap[x]? =some o:=
 (h.block x (qK hx) (fun e=>bd (by injection e))).trans hx
theorem ax.iB{b base:Nat}{e:qu}{size n:Nat}{v:qp}{xs:List qp}{w J:qo}(h:ax b w J)(ho:w.ownsRow base e size v n xs)(bd:v.ownBlock≠some b):J.ownsRow base e size v n xs:=
 World.ownsRow.kept ho h (.inr bd)
structure Fr(B b:Nat)(w J:qo):Prop where
 below:qz B w J
 fO: ∀(x:Nat) (c:Array qp) (t:qu) (m:Nat×Nat),x≠b→t≠5→w.heap[x]? =some (qn c t m)→J.heap[x]? =some (qn c t m)
theorem Fr.refl(B b:Nat)(w:qo):Fr B b w w:=⟨Below.refl B w,fun _ _ _ _ _ _ h=>h⟩
theorem Fr.size{B b:Nat}{w J:qo}(h:Fr B b w J):w.heap.size≤J.heap.size:=h.below.size
theorem Fr.drew{B b:Nat}{a w:qo}(h:Fr B b a w):Fr B b a w.drew:=⟨h.below.drew,h.fO⟩
theorem Fr.trans{B b:Nat}{a w x:qo}(h:Fr B b a w)(k:Fr B b w x):Fr B b a x:=
 ⟨h.below.trans k.below,fun y c t m h1 h2 h3=>k.fO y c t m h1 h2 (h.fO y c t m h1 h2 h3)⟩
theorem Fr.step{B b:Nat}{a w x:qo}(h:Fr B b a w)(k:qz w.heap.size w x)(hB:B≤w.heap.size):Fr B b a x:=
 ⟨h.below.trans (k.mono hB),fun y c t m h1 h2 h3=>(k.block y (qK (h.fO y c t m h1 h2 h3))).trans (h.fO y c t m h1 h2 h3)⟩
theorem Fr.setCell{B b:Nat}{a w:qo}(h:Fr B b a w)(i:Nat)(hB:B≤b)(u:qp):Fr B b a (w.setCell ⟨b,i,none⟩ u):=
 ⟨h.below.setCell (p:=⟨b,i,none⟩) hB u,fun y c t m h1 h2 h3=>(xj w ⟨b,i,none⟩ u y (fun e=>h1 e)).trans (h.fO y c t m h1 h2 h3)⟩
theorem Fr.alloc{B b:Nat}{a w:qo}(h:Fr B b a w)(hB:B≤w.heap.size)(o:Obj):Fr B b a (w.alloc o):=
 h.step ((Below.refl _ _).alloc (Nat.le_refl _) o) hB
theorem Fr.grown{B b:Nat}{a w x:qo}{n:Nat}{v:qp}{xs:List qp}(h:Fr B b a w)(hg:w.grownBy x v.ownBlock)(ho:w.ownsRow B 5 1 v n xs)(hB:B≤w.heap.size):Fr B b a x:=by
 refine⟨h.below.grown hg hB (fun k hk=>?_),fun y c t m h1 h2 h3=>?_⟩
 ·rcases ho.2 with⟨rfl,_⟩|⟨g,cap,cur,rfl,hb,_⟩
  ·simp[Value.ownBlock]at hk
  ·simp[Value.ownBlock]at hk;omega
 ·have h4:=h.fO y c t m h1 h2 h3;refine(hg.block y (qK h4) (fun e=>?_)).trans h4;rcases ho.2 with⟨rfl,_⟩|⟨g,cap,cur,rfl,hb,hg2,_⟩
  ·simp[Value.ownBlock]at e
  ·simp only[Value.ownBlock,Option.some.injEq]at e;subst e;rw[hg2]at h4;injection h4 with h5
   injection h5 with _ h6 _
   exact h2 h6.symm
theorem Fr.freeze{B b:Nat}{a w:qo}(h:Fr B b a w){g n:Nat}{cur:Array qp}{m:Nat×Nat}(hg:w.heap[g]? =some (qn cur 5 m))(hB:B≤g):Fr B b a (w.freeze ⟨g,0,none⟩ n):=by
 refine⟨Lib.below_freeze h.below (p:=⟨g,0,none⟩) hB n,fun y c t k h1 h2 h3=>?_⟩;have h4:=h.fO y c t k h1 h2 h3
 have bd:y≠g:=by
  rintro rfl;rw[hg]at h4;injection h4 with h5
  injection h5 with _ h6 _
  exact h2 h6.symm
 unfold World.freeze;split
 ·exact h4
 ·simp only[Array.getElem?_modify];rw[qB (fun e=>bd e.symm)];exact h4
end
section
open Go.RowKit
@[irreducible] def WQ (P:qv) (ops:Array Oper) (C:qo→Prop) (Q:Act→Prop) (l:List Oper) (a:Act):Prop:=wpQuiet P ops C Q l a
section
variable{P:qv}{ops:Array Oper}{C:qo→Prop}{Q:Act→Prop}{o:Oper}{rest:List Oper}{a:Act}
theorem cM(hw:Region.wanted o (yielded ops a.tmps)=false)(h:WQ P ops C Q rest (a.put o.dst undef)):WQ P ops C Q (o::rest) a:=by
 unfold WQ at*;unfold wpQuiet;rw[qB (by rw[hw];decide)];exact h
theorem du{v:qp}(hw:Region.wanted o (yielded ops a.tmps)=true)(hv: ∀w,C w→(execOp a.eval o).run P w= .ok (.value v) w)(h:WQ P ops C Q rest (a.put o.dst v)):WQ P ops C Q (o::rest) a:=by
 unfold WQ at*;unfold wpQuiet;rw[qH hw];refine⟨v,fun w hc=>?_,h⟩;unfold Oper.quietAt;rw[hv w hc];exact⟨rfl,rfl⟩
theorem dF{v:qp}{f:FuncId}{args:Array qp}(hw:Region.wanted o (yielded ops a.tmps)=true)(hv: ∀w,(execOp a.eval o).run P w= .ok (.enter f args) w)
 (hc: ∀w,C w→qw P f args w (fun e w''=>e=qm v∧C w'')) (h:WQ P ops C Q rest (a.put o.dst v)):WQ P ops C Q (o::rest) a:=by
 unfold WQ at*;unfold wpQuiet;rw[qH hw];refine⟨v,fun w hcw=>?_,h⟩;unfold Oper.quietAt;rw[hv w];exact⟨rfl,hc w hcw⟩
theorem dv(h:Q a):WQ P ops C Q [] a:=by unfold WQ;exact h
end
theorem gn{P:qv}{l:List Oper}{id:Nat}{Q:Exit→Act→qo→Prop}{a:Act}{w:qo}(C:qo→Prop)(hm:P.follows .mixedOrders=true)(hB:Region.lexB .any l.toArray=true)(hC:C w.drew)
 (h:WQ P l.toArray C (fun a'=> ∀J,C J→Q .normal a' J) l a):(Code.region id l.toArray true).wp P Q a w:=
 wp_region_quiet hm hB hC (by unfold WQ at h;simpa using h)
theorem dJ{P:qv}{l:List Oper}{id:Nat}{Q:Exit→Act→qo→Prop}{a:Act}{w:qo}(hm:P.follows .mixedOrders=true)(hB:Region.lexB .any l.toArray=true)
 (h:WQ P l.toArray (fun J=>qz w.heap.size w J) (fun a'=> ∀J,qz w.heap.size w J→Q .normal a' J) l a):(Code.region id l.toArray true).wp P Q a w:=
 gn (fun J=>qz w.heap.size w J) hm hB (Below.refl _ _).drew h
theorem ah{wa wb:qo}{p:qt}{v:qp}(k:qz wa.heap.size wa wb)(h:wa.cell? p=some v):wb.cell? p=some v:=
 (k.cell (xv _ _ h)).trans h
theorem aV(w:qo)(cs:Array qp)(t:qu)(i:Nat)(v:qp)(h:cs[i]? =some v):(w.alloc (qn cs t)).cell? ⟨w.heap.size,i,none⟩=some v:=by
 rw[qI (qA w _)];simpa using h
theorem aA{w:qo}{o:Obj}{p:qt}{v:qp}(h:w.cell? p=some v):(w.alloc o).cell? p=some v:=ah (aa w o) h
end
namespace TopW
open Go.RowKit
def kU:List qu:=[3,35,122,384,87,258,221,166,213,121,158,132,238,
 39,61,1,146,281,300,298,93,42,30,65]
structure Ch(M:List Nat)(w J:qo):Prop where
 os:J.os=w.os
 tape:J.tape=w.tape
 output:J.output=w.output
 size:w.heap.size≤J.heap.size
 block: ∀k,k<w.heap.size→k∉M→J.heap[k]? =w.heap[k]?
 bC: ∀(k:Nat) (cs:Array qp) (t:qu) (fr:Nat×Nat),w.heap[k]? =some (qn cs t fr)→t∈kU→J.heap[k]? =some (qn cs t fr)
variable{M M':List Nat}{w x y:qo}
theorem Ch.refl(M:List Nat)(w:qo):Ch M w w:=⟨rfl,rfl,rfl,Nat.le_refl _,fun _ _ _=>rfl,fun _ _ _ _ h _=>h⟩
theorem Ch.af(h:qz w.heap.size w x):Ch M w x:=⟨h.os,h.tape,h.output,h.size,fun k hk _=>h.block k hk,fun k _ _ _ hk _=>(h.block k (qK hk)).trans hk⟩
theorem Ch.mono(h:Ch M w x)(hs: ∀m∈M,m∈M'):Ch M' w x:=⟨h.os,h.tape,h.output,h.size,fun k hk hn=>h.block k hk fun hm=>hn (hs k hm),h.bC⟩
theorem Ch.trans(h:Ch M w x)(k:Ch M' x y)(hs: ∀m∈M',m∈M∨w.heap.size≤m):Ch M w y:=
 ⟨k.os.trans h.os,k.tape.trans h.tape,k.output.trans h.output,qM h.size k.size,
  fun i hi hn=>(k.block i (xH hi h.size) fun hm=>(hs i hm).elim hn fun hq=>qZ hq Y).trans (h.block i hi hn),
  fun i cs t fr hi ht=>k.bC i cs t fr (h.bC i cs t fr hi ht) ht⟩
theorem Ch.aq(h:Ch M w x)(k:Ch M x y):Ch M w y:=h.trans k fun _ hm=> .inl hm
theorem Ch.step(h:Ch M w x)(k:qz x.heap.size x y):Ch M w y:=h.aq (.af k)
theorem Ch.pre(k:qz w.heap.size w x)(h:Ch M x y):Ch M w y:=(Ch.af k).aq h
theorem Ch.drew(h:Ch M w x):Ch M w x.drew:=⟨h.os,h.tape,h.output,h.size,h.block,h.bC⟩
theorem Ch.alloc(h:Ch M w x)(o:Obj):Ch M w (x.alloc o):=h.step (aa x o)
theorem Ch.heap(h:Ch M w x){b:Nat}{o:Obj}(hx:w.heap[b]? =some o)(bd:b∉M):x.heap[b]? =some o:=(h.block b (qK hx) bd).trans hx
theorem Ch.lI{b:Nat}(h:ax b w x)(hb:b∈M)(hs: ∀(cs:Array qp) (t:qu) (fr:Nat×Nat),w.heap[b]? =some (qn cs t fr)→t∉kU):Ch M w x:=
 ⟨h.os,h.tape,h.output,h.size,fun k hk hn=>h.block k hk fun e=>hn (by injection e with e;rw[e]at*;exact hb),
  fun k cs t fr hk ht=>(h.block k (qK hk) fun e=>by injection e with e;subst e;exact hs _ _ _ hk ht).trans hk⟩
theorem Ch.below{B:Nat}(h:Ch M w x)(hM: ∀m∈M,B≤m)(hB:B≤w.heap.size):qz B w x:=
 ⟨h.os,h.tape,h.output,h.size,fun k hk=>h.block k (xH hk hB) fun hm=>qZ (hM k hm) Y⟩
theorem Ch.set(h:Ch M w x){b:Nat}(i:Nat)(v:qp)(hb:b∈M∨w.heap.size≤b)(hs: ∀(cs:Array qp) (t:qu) (fr:Nat×Nat),x.heap[b]? =some (qn cs t fr)→t∉kU∨w.heap.size≤b):Ch M w (x.setCell ⟨b,i,none⟩ v):=by
 refine⟨h.os,h.tape,h.output,by simpa using h.size,fun k hk hn=>?_,fun k cs t fr hk ht=>?_⟩
 ·refine(xj x ⟨b,i,none⟩ v k fun e=>?_).trans (h.block k hk hn);rcases hb with hb|hb
  ·exact hn (e▸hb)
  ·have e:k=b:=e;omega
 ·have h1:=h.bC k cs t fr hk ht;refine(xj x ⟨b,i,none⟩ v k fun e=>?_).trans h1;have e:k=b:=e;subst e;rcases hs _ _ _ h1 with h2|h2
  ·exact h2 ht
  ·exact qZ (qK hk) Y
theorem Ch.row(h:Ch M w x){b:Nat}(hb:w.heap.size≤b)(cs:Array qp):Ch M w (x.setRow b cs):=by
 refine⟨h.os,h.tape,h.output,by rw[setRow_size];exact h.size,fun k hk hn=>?_,fun k cs' t fr hk ht=>?_⟩
 ·rw[xl x b k cs Y];exact h.block k hk hn
 ·rw[xl x b k cs (by have:=qK hk;omega)];exact h.bC k cs' t fr hk ht
theorem Ch.kj{b:Nat}{cs:Array qp}{t:qu}{fr:Nat×Nat}(hb:w.heap[b]? =some (qn cs t fr))(ht:t∉kU)(cs':Array qp):Ch [b] w (w.setRow b cs'):=by
 refine⟨rfl,rfl,rfl,by rw[setRow_size];exact Nat.le_refl _,fun k hk hn=>?_,fun k c t' fr' hk ht'=>?_⟩
 ·exact xl w b k cs' (fun e=>hn (by simp[e]))
 ·rw[xl w b k cs' (fun e=>by subst e;rw[hb]at hk;injection hk with hk;injection hk with _ h2 _;exact ht (h2▸ht'))];exact hk
theorem Ch.dn{b:Nat}{cs:Array qp}{t:qu}{fr:Nat×Nat}(hb:w.heap[b]? =some (qn cs t fr))(ht:t∉kU)(i:Nat)(v:qp):Ch [b] w (w.setCell ⟨b,i,none⟩ v):=
 (Ch.refl [b] w).set i v (.inl qc) fun cs' t' fr' hk=> .inl (by rw[hb]at hk;injection hk with hk;injection hk with _ h2 _;exact h2▸ht)
theorem av{w:qo}{b i:Nat}{cs:Array qp}{t:qu}(h:w.heap[b]? =some (qn cs t (0,0)))(v:qp):(w.setCell ⟨b,i,none⟩ v).heap[b]? =some (qn (cs.setIfInBounds i v) t (0,0)):=by
 exact heap_setCell_same w b i cs t v h
theorem aZ{w:qo}{b c i:Nat}{v:qp}{o:Obj}(h:w.heap[c]? =some o)(bd:c≠b):(w.setCell ⟨b,i,none⟩ v).heap[c]? =some o:=(xj w ⟨b,i,none⟩ v c bd).trans h
theorem cp{w:qo}{b:Nat}{v0 v1:qp}{t:qu}(h:w.heap[b]? =some (qn #[v0,v1] t (0,0))):
 w.cell? ⟨b,0,none⟩=some v0∧w.cell? ⟨b,1,none⟩=some v1:=
 ⟨(aJ h 0),(aJ h 1)⟩
theorem bS{w:qo}{b:Nat}{v0 v1 v2:qp}{t:qu}(h:w.heap[b]? =some (qn #[v0,v1,v2] t (0,0))):
 w.cell? ⟨b,0,none⟩=some v0∧w.cell? ⟨b,1,none⟩=some v1∧w.cell? ⟨b,2,none⟩=some v2:=
 ⟨(aJ h 0),(aJ h 1),(aJ h 2)⟩
theorem kE{w:qo}{b:Nat}{v0 v1 v2 v3:qp}{t:qu}(h:w.heap[b]? =some (qn #[v0,v1,v2,v3] t (0,0))):
 w.cell? ⟨b,0,none⟩=some v0∧w.cell? ⟨b,1,none⟩=some v1∧w.cell? ⟨b,2,none⟩=some v2∧w.cell? ⟨b,3,none⟩=some v3:=
 ⟨(aJ h 0),(aJ h 1),(aJ h 2),(aJ h 3)⟩
theorem Bl{w:qo}{b:Nat}{v0 v1 v2 v3 v4:qp}{t:qu}(h:w.heap[b]? =some (qn #[v0,v1,v2,v3,v4] t (0,0))):
 w.cell? ⟨b,0,none⟩=some v0∧w.cell? ⟨b,1,none⟩=some v1∧w.cell? ⟨b,2,none⟩=some v2∧w.cell? ⟨b,3,none⟩=some v3∧w.cell? ⟨b,4,none⟩=some v4:=
 ⟨(aJ h 0),(aJ h 1),(aJ h 2),(aJ h 3),(aJ h 4)⟩
theorem tf{w:qo}{b:Nat}{v0 v1 v2 v3 v4 v5 v6 v7:qp}{t:qu}(h:w.heap[b]? =some (qn #[v0,v1,v2,v3,v4,v5,v6,v7] t (0,0))):
 w.cell? ⟨b,0,none⟩=some v0∧w.cell? ⟨b,1,none⟩=some v1∧w.cell? ⟨b,2,none⟩=some v2∧w.cell? ⟨b,3,none⟩=some v3∧w.cell? ⟨b,4,none⟩=some v4∧w.cell? ⟨b,5,none⟩=some v5∧w.cell? ⟨b,6,none⟩=some v6∧w.cell? ⟨b,7,none⟩=some v7:=
 ⟨(aJ h 0),(aJ h 1),(aJ h 2),(aJ h 3),(aJ h 4),(aJ h 5),(aJ h 6),(aJ h 7)⟩
theorem eX{w:qo}{b:Nat}{v0 v1 v2 v3 v4 v5 v6 v7 v8:qp}{t:qu}(h:w.heap[b]? =some (qn #[v0,v1,v2,v3,v4,v5,v6,v7,v8] t (0,0))):
 w.cell? ⟨b,0,none⟩=some v0∧w.cell? ⟨b,1,none⟩=some v1∧w.cell? ⟨b,2,none⟩=some v2∧w.cell? ⟨b,3,none⟩=some v3∧w.cell? ⟨b,4,none⟩=some v4∧w.cell? ⟨b,5,none⟩=some v5∧w.cell? ⟨b,6,none⟩=some v6∧w.cell? ⟨b,7,none⟩=some v7∧w.cell? ⟨b,8,none⟩=some v8:=
 ⟨(aJ h 0),(aJ h 1),(aJ h 2),(aJ h 3),(aJ h 4),(aJ h 5),(aJ h 6),(aJ h 7),(aJ h 8)⟩
theorem bP{w:qo}{b:Nat}{v0 v1 v2 v3 v4 v5 v6 v7 v8 v9 v10 v11:qp}{t:qu}(h:w.heap[b]? =some (qn #[v0,v1,v2,v3,v4,v5,v6,v7,v8,v9,v10,v11] t (0,0))):
 w.cell? ⟨b,0,none⟩=some v0∧w.cell? ⟨b,1,none⟩=some v1∧w.cell? ⟨b,2,none⟩=some v2∧w.cell? ⟨b,3,none⟩=some v3∧w.cell? ⟨b,4,none⟩=some v4∧w.cell? ⟨b,5,none⟩=some v5∧w.cell? ⟨b,6,none⟩=some v6∧w.cell? ⟨b,7,none⟩=some v7∧w.cell? ⟨b,8,none⟩=some v8∧w.cell? ⟨b,9,none⟩=some v9∧w.cell? ⟨b,10,none⟩=some v10∧w.cell? ⟨b,11,none⟩=some v11:=
 ⟨(aJ h 0),(aJ h 1),(aJ h 2),(aJ h 3),(aJ h 4),(aJ h 5),(aJ h 6),(aJ h 7),(aJ h 8),(aJ h 9),(aJ h 10),(aJ h 11)⟩
end TopW
namespace Sl
variable{κ α β:Type}{key:α→κ}{val:α→β}{mk:κ→β→α}{kl:κ→κ→Prop}
structure Fy(kl:κ→κ→Prop):Prop where
 VU: ∀x,¬kl x x
 trans: ∀x y z,kl x y→kl y z→kl x z
 or: ∀x y,kl x y∨x=y∨kl y x
theorem Fy.asymm(H:Fy kl){x y:κ}(h:kl x y): ¬kl y x:=fun h'=>H.VU _ (H.trans _ _ _ h h')
structure KV(key:α→κ)(val:α→β)(mk:κ→β→α):Prop where
 kk: ∀x y,key (mk x y)=x
 vv: ∀x y,val (mk x y)=y
 pair: ∀a,mk (key a) (val a)=a
def bg(key:α→κ)(kl:κ→κ→Prop)(L:List α):Prop:=L.Pairwise fun a b=>kl (key a) (key b)
def look [DecidableEq κ](key:α→κ)(val:α→β)(L:List α)(x:κ):Option β:=(L.find? fun a=>decide (key a=x)).map val
theorem key_inj(H:Fy kl){L:List α}(h:bg key kl L){a b:α}(ha:a∈L)(hb:b∈L)(e:key a=key b):a=b:=by
 induction L with
 |nil=>simp at ha
 |cons x L ih=>
  obtain⟨h1,h2⟩:=xw.1 h;rcases qG.1 ha with ha1|ha1
  ·rcases qG.1 hb with hb1|hb1
   ·rw[ha1,hb1]
   ·have:=h1 b hb1;rw[←ha1,e]at this;exact qZ this (H.VU _)
  ·rcases qG.1 hb with hb1|hb1
   ·have:=h1 a ha1;rw[←hb1,e]at this;exact qZ this (H.VU _)
   ·exact ih h2 ha1 hb1
theorem dc [DecidableEq κ](H:Fy kl)(V:KV key val mk){L:List α}(h:bg key kl L)(x:κ)(i:β):look key val L x=some i↔mk x i∈L:=by
 unfold look;constructor
 ·intro e;obtain⟨a,ha,rfl⟩:=xG.1 e;have h1:=List.mem_of_find?_eq_some ha;have h2:=List.find?_some ha;simp only[qC]at h2;subst h2;rw[V.pair];exact h1
 ·intro hm
  cases hf:L.find? (fun a=>decide (key a=x))with
  |none=>
   have:=List.find?_eq_none.1 hf _ hm
   simp[V.kk]at this
  |some a=>
   have h1:=List.mem_of_find?_eq_some hf;have h2:=List.find?_some hf;simp only[qC]at h2;have:=key_inj H h h1 hm (by rw[h2,V.kk]);rw[this];simp[V.vv]
theorem kV [DecidableEq κ]{L:List α}(x:κ):look key val L x=none↔ ∀a∈L,key a≠x:=by
 unfold look;rw[Option.map_eq_none_iff,List.find?_eq_none];simp
theorem zT(H:Fy kl){L L':List α}(h:bg key kl L)(h':bg key kl L')(e: ∀a,a∈L↔a∈L'):L=L':=by
 induction L generalizing L' with
 |nil=>
  cases L' with
  |nil=>rfl
  |cons b L'=>exact qZ ((e b).2 qc) qc
 |cons a L ih=>
  cases L' with
  |nil=>exact qZ ((e a).1 qc) qc
  |cons b L'=>
   obtain⟨h1,h2⟩:=xw.1 h;obtain⟨h3,h4⟩:=xw.1 h'
   have oW:a=b:=by
    rcases qG.1 ((e a).1 qc)with rfl|ha
    ·rfl
    ·rcases qG.1 ((e b).2 qc)with rfl|hb
     ·rfl
     ·exact qZ (h3 a ha) (H.asymm (h1 b hb))
   subst oW
   congr 1
   refine ih h2 h4 fun x=>⟨fun hx=>?_,fun hx=>?_⟩
   ·rcases qG.1 ((e x).1 (by simp[hx]))with rfl|hx'
    ·exact qZ (h1 x hx) (H.VU _)
    ·exact hx'
   ·rcases qG.1 ((e x).2 (by simp[hx]))with rfl|hx'
    ·exact qZ (h3 x hx) (H.VU _)
    ·exact hx'
section
variable [∀x y,Decidable (kl x y)]
def low(key:α→κ)(kl:κ→κ→Prop) [∀x y,Decidable (kl x y)](L:List α)(x:κ):List α:=L.takeWhile fun a=>decide (kl (key a) x)
def high(key:α→κ)(kl:κ→κ→Prop) [∀x y,Decidable (kl x y)](L:List α)(x:κ):List α:=L.dropWhile fun a=>decide (kl (key a) x)
def ins(key:α→κ)(kl:κ→κ→Prop) [∀x y,Decidable (kl x y)](L:List α)(a:α):List α:=low key kl L (key a)++a::high key kl L (key a)
theorem jF(L:List α)(x:κ):low key kl L x++high key kl L x=L:=List.takeWhile_append_dropWhile
theorem rE(L:List α)(a x:α):x∈ins key kl L a↔x=a∨x∈L:=by
 have h:=jF (key:=key) (kl:=kl) L (key a)
 have:x∈L↔x∈low key kl L (key a)∨x∈high key kl L (key a):=by
  conv=>lhs;rw[←h]
  exact xa
 unfold ins;rw[xa,qG,this];constructor
 ·rintro(h|h|h)
  ·exact .inr (.inl h)
  ·exact .inl h
  ·exact .inr (.inr h)
 ·rintro(h|h|h)
  ·exact .inr (.inl h)
  ·exact .inl h
  ·exact .inr (.inr h)
theorem Bn{L:List α}{x:κ}{a:α}(h:a∈low key kl L x):kl (key a) x:=by
 unfold low at h
 induction L with
 |nil=>simp at h
 |cons b L ih=>
  rw[List.takeWhile_cons]at h;split at h
  ·rename_i hb;rcases qG.1 h with rfl|h
   ·simpa using hb
   ·exact ih h
  ·simp at h
theorem vG(H:Fy kl){L:List α}(hL:bg key kl L){x:κ}{a:α}(h:a∈high key kl L x): ¬kl (key a) x:=by
 unfold high at h
 induction L with
 |nil=>simp at h
 |cons b L ih=>
  obtain⟨h1,h2⟩:=xw.1 hL;rw[List.dropWhile_cons]at h;split at h
  ·exact ih h2 h
  ·rename_i hb;simp only[qC]at hb;rcases qG.1 h with rfl|h
   ·exact hb
   ·exact fun hk=>hb (H.trans _ _ _ (h1 a h) hk)
theorem kW(H:Fy kl){L:List α}(h:bg key kl L){a:α}(hn: ∀b∈L,key b≠key a):bg key kl (ins key kl L a):=by
 have hlh:=jF (key:=key) (kl:=kl) L (key a);have hp:(low key kl L (key a)++high key kl L (key a)).Pairwise fun a b=>kl (key a) (key b):=by rw[hlh];exact h
 obtain⟨h1,h2,h3⟩:=List.pairwise_append.1 hp
 have VV: ∀b∈high key kl L (key a),kl (key a) (key b):=fun b hb=>by
  have hbL:b∈L:=by rw[←hlh];exact List.mem_append_right _ hb
  rcases H.or (key a) (key b)with h|h|h
  ·exact h
  ·exact qZ h.symm (hn b hbL)
  ·exact qZ h (vG H ‹bg key kl L› hb)
 refine List.pairwise_append.2 ⟨h1,xw.2 ⟨VV,h2⟩,fun b hb c hc=>?_⟩;rcases qG.1 hc with rfl|hc
 ·exact Bn hb
 ·exact h3 b hb c hc
end
theorem lJ{o o':Option β}(h: ∀i,o=some i↔o'=some i):o=o':=by
 cases o with
 |none=>cases o' with
  |none=>rfl
  |some j=>exact qZ ((h j).2 rfl) qc
 |some i=>exact((h i).1 rfl).symm
theorem vH [DecidableEq κ] [∀x y,Decidable (kl x y)](H:Fy kl)(V:KV key val mk){L:List α}(h:bg key kl L){a:α}(hn: ∀b∈L,key b≠key a):look key val (ins key kl L a)=fun z=>if z=key a then some (val a)else look key val L z:=by
 funext z;refine lJ fun i=>?_;rw[dc H V (kW H h hn),rE];by_cases hz:z=key a
 ·subst hz;rw[qH rfl];constructor
  ·rintro(e|e)
   ·rw[←e,V.vv]
   ·exact qZ (V.kk _ _) (hn _ e)
  ·intro e;injection e with e
   subst e;exact .inl (V.pair a)
 ·rw[qB hz,dc H V h];constructor
  ·rintro(e|e)
   ·exact qZ (by rw[←e,V.kk]) hz
   ·exact e
  ·exact .inr
def del [DecidableEq κ](key:α→κ)(L:List α)(x:κ):List α:=L.filter fun a=> !decide (key a=x)
theorem eD{L:List α}(h:bg key kl L)(p:α→Bool):bg key kl (L.filter p):=h.sublist List.filter_sublist
theorem um [DecidableEq κ](H:Fy kl)(V:KV key val mk){L:List α}(h:bg key kl L)(p:α→Bool)(z:κ):look key val (L.filter p) z=(look key val L z).filter fun i=>p (mk z i):=by
 refine lJ fun i=>?_;rw[dc H V (eD h p),List.mem_filter,Option.filter_eq_some_iff,dc H V h]
theorem vI [DecidableEq κ](H:Fy kl)(V:KV key val mk){L:List α}(h:bg key kl L)(x:κ):look key val (del key L x)=fun z=>if z=x then none else look key val L z:=by
 funext z;refine lJ fun i=>?_;unfold del;rw[dc H V (eD h _),List.mem_filter,V.kk];by_cases hz:z=x
 ·rw[qH hz];simp[hz]
 ·rw[qB hz,dc H V h];simp[hz]
theorem zU [DecidableEq κ](H:Fy kl){L:List α}(h:bg key kl L){k:Nat}{a:α}(hk:L[k]? =some a):del key L (key a)=L.take k++L.drop (k+1):=by
 induction L generalizing k with
 |nil=>simp at hk
 |cons b L ih=>
  obtain⟨h1,h2⟩:=xw.1 h;unfold del
  cases k with
  |zero=>
   have:b=a:=by simpa using hk
   subst this;simp only[List.take_zero,xk,List.drop_succ_cons,List.drop_zero,Nat.zero_add];rw[List.filter_cons_of_neg qc,List.filter_eq_self.2];intro c hc;have:key c≠key b:=fun e=>H.VU (key b) (by have:=h1 c hc;rwa [e]at this)
   simp[this]
  |succ k=>
   have hk':L[k]? =some a:=by simpa using hk
   have bd:key b≠key a:=fun e=>H.VU (key b) (by have:=h1 a (xp hk');rwa [←e]at this);rw[List.filter_cons_of_pos (by simp[bd])];have:=ih h2 hk';unfold del at this;rw[this];rfl
theorem zV [DecidableEq α]: ∀{Jq L:List α},Jq.Nodup→(∀a∈Jq,a∈L)→Jq.length≤L.length
 |[],_,_,_=>by simp
 |a::Jq,L,h,hm=>by
  obtain⟨h1,h2⟩:=xC.1 h;have ha:=hm a qc;have h3:=zV (Jq:=Jq) (L:=L.erase a) h2 fun b hb=>(List.mem_erase_of_ne (fun e=>h1 (by rw[←e];exact hb))).2 (hm b (by simp[hb]));rw[List.length_erase_of_mem ha]at h3;have:0<L.length:=List.length_pos_of_mem ha;simp only[xf];omega
theorem JN(H:Fy kl){L Jq:List α}(h:bg key kl L)(hn:Jq.Nodup)(hm: ∀a,a∈Jq↔a∈L)(hs:Jq.Pairwise fun a b=> ¬kl (key b) (key a)):Jq=L:=by
 refine zT H ?_ h hm;unfold bg;have Sx:Jq.Pairwise (· ≠ ·):=hn;have h2:=List.pairwise_and_iff.2 ⟨hs,Sx⟩;refine List.Pairwise.imp_of_mem ?_ h2;rintro a b ha hb⟨h3,h4⟩;rcases H.or (key a) (key b)with e|e|e
 ·exact e
 ·exact qZ (key_inj H h ((hm a).1 ha) ((hm b).1 hb) e) h4
 ·exact qZ e h3
def place [DecidableEq κ](key:α→κ)(L:List α)(x:κ):Option Nat:=L.findIdx? fun a=>decide (key a=x)
end Sl
namespace ExtW
open Go.RowKit
structure Pt where
 o:Int
 n:Int
 a:Int
 f:Int
deriving DecidableEq
def Whole(at_ n m:Int):Prop:=0≤at_∧1≤n∧n≤m∧at_≤m-n
instance (a n m:Int):Decidable (Whole a n m):=by unfold Whole;infer_instance
def One(x:Pt):Prop:=Whole x.o x.n 8192∧Whole x.f x.n 1024∧0≤x.a∧x.a<16384
instance (x:Pt):Decidable (One x):=by unfold One;infer_instance
def Joins(p x:Pt):Prop:=p.o+p.n=x.o∧p.a=x.a∧p.f+p.n=x.f
instance (p x:Pt):Decidable (Joins p x):=by unfold Joins;infer_instance
def Next(p x:Pt):Prop:=p.o+p.n≤x.o∧ ¬Joins p x
instance (p x:Pt):Decidable (Next p x):=by unfold Next;infer_instance
def gp:List Pt→Prop
 |[]=>True
 |[x]=>One x
 |x::y::l=>One x∧Next x y∧gp (y::l)
instance MR:(l:List Pt)→Decidable (gp l)
 |[]=>by unfold gp;infer_instance
 |[x]=>by unfold gp;infer_instance
 |x::y::l=>by have:=MR (y::l);unfold gp;infer_instance
def Good(l:List Pt):Prop:=l.length≤64∧gp l
instance (l:List Pt):Decidable (Good l):=by unfold Good;infer_instance
def MS(l:List Pt)(i:Nat):Prop:= ∀x,l[i]? =some x→One x∧ ∀p,0<i→l[i-1]? =some p→Next p x
theorem gq: ∀l:List Pt,gp l↔ ∀i,i<l.length→MS l i
 |[]=>by simp[gp]
 |[x]=>by
  simp only[gp];constructor
  ·intro h i hi y hy;obtain rfl:i=0:=by simpa using hi
   obtain rfl:x=y:=by simpa using hy
   exact⟨h,fun p h0=>qZ h0 Y⟩
  ·intro h
   exact(h 0 qc x rfl).1
 |x::y::l=>by
  have ih:=gq (y::l);simp only[gp];rw[ih];constructor
  ·rintro⟨h1,h2,h3⟩i hi z hz
   match i with
   |0=>
    obtain rfl:x=z:=by simpa using hz
    exact⟨h1,fun p h0=>qZ h0 Y⟩
   |1=>
    obtain rfl:y=z:=by simpa using hz
    refine⟨(h3 0 qc y rfl).1,fun p _ hp=>?_⟩;obtain rfl:x=p:=by simpa using hp
    exact h2
   |i+2=>
    have:=h3 (i+1) (by simpa using hi) z (by simpa using hz);refine⟨this.1,fun p _ hp=>this.2 p Y (by simpa using hp)⟩
  ·intro h;refine⟨(h 0 qc x rfl).1,(h 1 qc y rfl).2 x Y rfl,fun i hi z hz=>?_⟩;have:=h (i+1) (by simpa using hi) z (by simpa using hz);refine⟨this.1,fun p h0 hp=>this.2 p Y ?_⟩
   match i,h0 with
   |i+1,_=>simpa using hp
theorem One.small{x:Pt}(h:One x):0≤x.o∧1≤x.n∧x.n≤1024∧x.o+x.n≤8192∧0≤x.a∧x.a<16384∧0≤x.f∧x.f+x.n≤1024:=by
 unfold One Whole at h;omega
end ExtW
namespace ExtW
def eY(out:List Pt)(x:Pt):List Pt:=
 match out.getLast? with
 |some p=>if Joins p x then out.dropLast++[⟨p.o,p.n+x.n,p.a,p.f⟩]else out++[x]
 |none=>out++[x]
def cE(l:List Pt):List Pt:=l.foldl eY []
theorem tg(out:List Pt)(p x:Pt)(h:Joins p x):eY (out++[p]) x=out++[⟨p.o,p.n+x.n,p.a,p.f⟩]:=by
 unfold eY;simp[h]
theorem rF(out:List Pt)(p x:Pt)(h: ¬Joins p x):eY (out++[p]) x=out++[p]++[x]:=by
 unfold eY;simp[h]
theorem lK(out:List Pt):out=[]∨ ∃l p,out=l++[p]:=by
 rcases List.eq_nil_or_concat out with h|⟨l,p,h⟩
 ·exact .inl h
 ·exact .inr ⟨l,p,by simpa using h⟩
def look:List Pt→Int→Option (Int×Int)
 |[],_=>none
 |x::l,i=>if x.o≤i∧i<x.o+x.n then some (x.a,x.f+(i-x.o))else look l i
def aQ:Int→List Pt→Int→Prop
 |lo,[],hi=>lo≤hi
 |lo,x::l,hi=>lo≤x.o∧1≤x.n∧aQ (x.o+x.n) l hi
theorem aQ.le: ∀{lo:Int} {l:List Pt} {hi:Int},aQ lo l hi→lo≤hi
 |_,[],_,h=>h
 |_,_::_,_,h=>by have:=aQ.le h.2.2;have:=h.1;have:=h.2.1;omega
theorem aQ.mono{lo lo':Int}{l:List Pt}{hi:Int}(h:aQ lo l hi)(k:lo'≤lo):aQ lo' l hi:=by
 cases l with
 |nil=>exact Int.le_trans k h
 |cons x l=>exact⟨Int.le_trans k h.1,h.2⟩
theorem aQ.up: ∀{lo:Int} {l:List Pt} {hi hi':Int},aQ lo l hi→hi≤hi'→aQ lo l hi'
 |_,[],_,_,h,k=>Int.le_trans h k
 |_,_::_,_,_,h,k=>⟨h.1,h.2.1,aQ.up h.2.2 k⟩
theorem aQ.append: ∀{lo:Int} {l:List Pt} {mi:Int} {l':List Pt} {hi:Int},aQ lo l mi→aQ mi l' hi→aQ lo (l++l') hi
 |_,[],_,_,_,h,k=>k.mono h
 |_,_::_,_,_,_,h,k=>⟨h.1,h.2.1,aQ.append h.2.2 k⟩
theorem zW: ∀{lo:Int} {l:List Pt} {hi:Int},aQ lo l hi→ ∀i,hi≤i→look l i=none
 |_,[],_,_,_,_=>rfl
 |_,x::l,hi,h,i,hi'=>by
  have h1:=h.1;have h2:=h.2.1;have h3:=h.2.2.le;rw[look,qB Y];exact zW h.2.2 i hi'
theorem iJ: ∀(l l':List Pt) (i:Int),look (l++l') i=(look l i).or (look l' i)
 |[],_,_=>by simp[look]
 |x::l,l',i=>by
  simp only[xd,look];split
  ·rfl
  ·exact iJ l l' i
theorem vJ: ∀(l out:List Pt),(∀i,i<(out++l).length→MS (out++l) i)→l.foldl eY out=out++l
 |[],out,_=>by simp
 |x::l,out,h=>by
  have hx:(out++x::l)[out.length]? =some x:=qc
  have hs:eY out x=out++[x]:=by
   rcases lK out with rfl|⟨o',p,rfl⟩
   ·rfl
   ·refine rF _ _ _ fun hj=>?_;have:=(h (o'++[p]).length qc x hx).2 p qc qc;exact this.2 hj
  rw[List.foldl_cons,hs,vJ l (out++[x]) (by simpa using h)];simp
theorem Fz{l:List Pt}(h:gp l):cE l=l:=by
 have:=vJ l [] (by simpa using (gq l).1 h);simpa [cE]using this
theorem rG: ∀{l:List Pt},gp l→ ∀lo,(∀x,l.head?=some x→lo≤x.o)→lo≤8192→aQ lo l 8192
 |[],_,lo,_,h=>h
 |[x],h,lo,h1,_=>by
  have:=One.small (show One x from h)
  exact⟨h1 x rfl,this.2.1,by show x.o+x.n≤8192;omega⟩
 |x::y::l,h,lo,h1,_=>by
  obtain⟨a,b,c⟩:=h;have:=a.small;refine⟨h1 x rfl,this.2.1,rG c _ (fun z hz=>?_) Y⟩;simp only[List.head?_cons,Option.some.injEq]at hz;subst hz;exact b.1
theorem ga: ∀{l:List Pt},gp l→ ∀x∈l,One x
 |[x],h,y,hy=>by obtain rfl:y=x:=by simpa using hy
                 exact h
 |x::y::l,h,z,hz=>by
  rcases qG.1 hz with rfl|hz
  ·exact h.1
  ·exact ga h.2.2 z hz
theorem iK{l:List Pt}(h:Good l):aQ 0 l 8192:=
 rG h.2 0 (fun x hx=>(ga h.2 x (List.mem_of_mem_head? hx)).1.1) Y
def cF:List Pt→Int→List Pt
 |[],_=>[]
 |x::l,s=>if x.o<s then⟨x.o,min x.n (s-x.o),x.a,x.f⟩::cF l s else cF l s
def dN:List Pt→Int→List Pt
 |[],_=>[]
 |x::l,e=>if max 0 (e-x.o)<x.n then⟨x.o+max 0 (e-x.o),x.n-max 0 (e-x.o),x.a,x.f+max 0 (e-x.o)⟩::dN l e else dN l e
theorem CF: ∀(l:List Pt) (s i:Int),look (cF l s) i=if i<s then look l i else none
 |[],s,i=>by simp[cF,look]
 |x::l,s,i=>by
  have ih:=CF l s i;by_cases h:x.o<s
  ·rw[cF,qH h,look,ih];simp only;by_cases h2:i<s
   ·rw[qH h2,qH h2,look];by_cases h3:x.o≤i∧i<x.o+x.n
    ·rw[qH h3,qH Y]
    ·rw[qB h3,qB Y]
   ·rw[qB h2,qB h2,qB Y]
  ·rw[cF,qB h,ih];by_cases h2:i<s
   ·rw[qH h2,qH h2,look,qB Y]
   ·rw[qB h2,qB h2]
theorem CG: ∀(l:List Pt) (e i:Int),look (dN l e) i=if e≤i then look l i else none
 |[],e,i=>by simp[dN,look]
 |x::l,e,i=>by
  have ih:=CG l e i;by_cases h:max 0 (e-x.o)<x.n
  ·rw[dN,qH h,look,ih];simp only;by_cases h2:e≤i
   ·rw[qH h2,qH h2,look];by_cases h3:x.o≤i∧i<x.o+x.n
    ·rw[qH h3,qH Y]
     congr 2;omega
    ·rw[qB h3,qB Y]
   ·rw[qB h2,qB h2,qB Y]
  ·rw[dN,qB h,ih];by_cases h2:e≤i
   ·rw[qH h2,qH h2,look,qB Y]
   ·rw[qB h2,qB h2]
theorem vK: ∀{lo:Int} {l:List Pt} {hi:Int} (_:aQ lo l hi) (s:Int),lo≤s→aQ lo (cF l s) s
 |_,[],_,_,_,h=>h
 |lo,x::l,hi,h,s,hs=>by
  have h1:=h.1;have h2:=h.2.1;by_cases k:x.o<s
  ·rw[cF,qH k];refine⟨h1,by show 1≤min x.n (s-x.o);omega,?_⟩;show aQ (x.o+min x.n (s-x.o)) (cF l s) s;by_cases m:x.o+x.n≤s
   ·exact(vK h.2.2 s m).mono Y
   ·have:cF l s=[]:=by
     have: ∀(l:List Pt) (lo hi:Int),aQ lo l hi→s≤lo→cF l s=[]:=by
      intro l
      induction l with
      |nil=>intros;rfl
      |cons y l ih=>
       intro lo hi a b;have a1:=a.1;have a2:=a.2.1;rw[cF,qB Y];exact ih _ _ a.2.2 Y
     exact this l _ _ h.2.2 Y
    rw[this];show x.o+min x.n (s-x.o)≤s;omega
  ·rw[cF,qB k]
   have:cF l s=[]:=by
    have: ∀(l:List Pt) (lo hi:Int),aQ lo l hi→s≤lo→cF l s=[]:=by
     intro l
     induction l with
     |nil=>intros;rfl
     |cons y l ih=>
      intro lo hi a b;have a1:=a.1;have a2:=a.2.1;rw[cF,qB Y];exact ih _ _ a.2.2 Y
    exact this l _ _ h.2.2 Y
   rw[this];exact hs
theorem vL: ∀{lo:Int} {l:List Pt} {hi:Int} (_:aQ lo l hi) (e:Int),e≤hi→aQ (max lo e) (dN l e) hi
 |lo,[],hi,h,e,k=>by
  have:lo≤hi:=h;show max lo e≤hi
  omega
 |lo,x::l,hi,h,e,k=>by
  have h1:=h.1;have h2:=h.2.1;have h3:=h.2.2.le;have ih:=vL h.2.2 e k;by_cases m:max 0 (e-x.o)<x.n
  ·rw[dN,qH m];refine⟨by show max lo e≤x.o+max 0 (e-x.o);omega,by show 1≤x.n-max 0 (e-x.o);omega,?_⟩;show aQ (x.o+max 0 (e-x.o)+(x.n-max 0 (e-x.o))) _ _;exact ih.mono Y
  ·rw[dN,qB m];exact ih.mono Y
theorem CH: ∀{l:List Pt},(∀x∈l,One x)→ ∀s,∀x∈cF l s,One x
 |[],_,_,x,hx=>by simp[cF]at hx
 |y::l,h,s,x,hx=>by
  have hy:=(h y qc).small;have ih:=CH (l:=l) (fun z hz=>h z (by simp[hz])) s;by_cases k:y.o<s
  ·rw[cF,qH k]at hx;rcases qG.1 hx with rfl|hx
   ·unfold One Whole;simp only;omega
   ·exact ih x hx
  ·rw[cF,qB k]at hx;exact ih x hx
theorem CI: ∀{l:List Pt},(∀x∈l,One x)→ ∀s,∀x∈dN l s,One x
 |[],_,_,x,hx=>by simp[dN]at hx
 |y::l,h,s,x,hx=>by
  have hy:=(h y qc).small;have ih:=CI (l:=l) (fun z hz=>h z (by simp[hz])) s;by_cases k:max 0 (s-y.o)<y.n
  ·rw[dN,qH k]at hx;rcases qG.1 hx with rfl|hx
   ·unfold One Whole;simp only;omega
   ·exact ih x hx
  ·rw[dN,qB k]at hx;exact ih x hx
theorem nZ: ∀(l:List Pt) (s:Int),(cF l s).length≤l.length
 |[],_=>by simp[cF]
 |x::l,s=>by
  have:=nZ l s;rw[cF];split<;>simp<;>omega
theorem vg: ∀(l:List Pt) (s:Int),(dN l s).length≤l.length
 |[],_=>by simp[dN]
 |x::l,s=>by
  have:=vg l s;rw[dN];split<;>simp<;>omega
def eI(l:List Pt)(x:Pt):List Pt:=cF l x.o++[x]++dN l (x.o+x.n)
theorem mQ{l:List Pt}(h:Good l){x:Pt}(hx:One x):aQ 0 (eI l x) 8192:=by
 have hs:=hx.small;have h1:=vK (iK h) x.o Y;have h2:=vL (iK h) (x.o+x.n) Y;rw[show max 0 (x.o+x.n)=x.o+x.n by omega]at h2;unfold eI;rw[qW];exact h1.append ⟨Int.le_refl _,hs.2.1,h2⟩
theorem ti{l:List Pt}(h:Good l){x:Pt}(hx:One x): ∀y∈eI l x,One y:=by
 intro y hy;unfold eI at hy;simp only[qW,xa,qS]at hy;rcases hy with hy|rfl|hy
 ·exact CH (ga h.2) _ y hy
 ·exact hx
 ·exact CI (ga h.2) _ y hy
theorem JO(l:List Pt)(x:Pt)(i:Int)(hx:1≤x.n):look (eI l x) i=if x.o≤i∧i<x.o+x.n then some (x.a,x.f+(i-x.o))else look l i:=by
 unfold eI;rw[qW,iJ,List.singleton_append,look,CF,CG];by_cases h:x.o≤i∧i<x.o+x.n
 ·rw[qH h,qB Y,qH h];rfl
 ·rw[qB h,qB h];by_cases h2:i<x.o
  ·rw[qH h2,qB Y];simp
  ·rw[qB h2,qH Y];simp
theorem JP{out:List Pt}{x:Pt}{mi:Int}(h:aQ 0 out mi)(ho: ∀y∈out,One y)(hc:gp out)(hx:One x)(hm:mi≤x.o)(i:Int):
 aQ 0 (eY out x) (x.o+x.n)∧(∀y∈eY out x,One y)∧gp (eY out x)∧look (eY out x) i=look (out++[x]) i:=by
 have Cz:=hx.small;have MT:aQ 0 (out++[x]) (x.o+x.n):=h.append ⟨hm,Cz.2.1,Int.le_refl _⟩;rcases lK out with rfl|⟨l,p,rfl⟩
 ·exact⟨MT,by simpa [eY]using hx,hx,rfl⟩
 ·have hp:=ho p qc;have JQ:=hp.small;by_cases hj:Joins p x
  ·rw[tg _ _ _ hj];have hj':=hj;unfold Joins at hj';have aby:One ⟨p.o,p.n+x.n,p.a,p.f⟩:=by unfold One Whole;simp only;omega
   refine⟨?_,?_,?_,?_⟩
   ·have: ∀(l:List Pt) (lo:Int),aQ lo (l++[p]) mi→aQ lo (l++[⟨p.o,p.n+x.n,p.a,p.f⟩]) (x.o+x.n):=by
     intro l
     induction l with
     |nil=>intro lo a;exact⟨a.1,by show 1≤p.n+x.n;omega,by show p.o+(p.n+x.n)≤x.o+x.n;omega⟩
     |cons y l ih=>intro lo a;exact⟨a.1,a.2.1,ih _ a.2.2⟩
    exact this l 0 h
   ·intro y hy;simp only[xa,qS]at hy;rcases hy with hy|rfl
    ·exact ho y (by simp[hy])
    ·exact aby
   ·rw[gq]at hc⊢;intro i hi y hy;by_cases VW:i<l.length
    ·have e1:(l++[p])[i]? =some y:=by
      rw[xD VW]at hy⊢;exact hy
     have:=hc i (by simp;omega) y e1;refine⟨this.1,fun q h0 hq=>this.2 q h0 ?_⟩;rw[xD Y]at hq⊢;exact hq
    ·have e:i=l.length:=by simp at hi;omega
     subst e;have e2:y=⟨p.o,p.n+x.n,p.a,p.f⟩:=by simpa using hy.symm
     subst e2;have:=hc l.length qc p qc;refine⟨aby,fun q h0 hq=>?_⟩;have h3:=this.2 q h0 (by rw[xD Y]at hq⊢;exact hq);exact h3
   ·simp only[iJ,look,qW,List.singleton_append];by_cases c1:p.o≤i∧i<p.o+p.n
    ·rw[qH c1,qH Y]
    ·rw[qB c1];by_cases c2:x.o≤i∧i<x.o+x.n
     ·rw[qH c2,qH Y]
      congr 3<;>omega
     ·rw[qB c2,qB Y]
  ·rw[rF _ _ _ hj];refine⟨MT,?_,?_,rfl⟩
   ·intro y hy;simp only[xa,qS]at hy;rcases hy with hy|rfl
    ·exact ho y (by simpa using hy)
    ·exact hx
   ·rw[gq]at hc⊢;intro i hi y hy;by_cases VW:i<(l++[p]).length
    ·rw[xD VW]at hy;have:=hc i VW y hy;refine⟨this.1,fun q h0 hq=>this.2 q h0 ?_⟩;rw[xD Y]at hq;exact hq
    ·have e:i=(l++[p]).length:=by simp at hi VW⊢;omega
     subst e;have e2:y=x:=by simpa using hy.symm
     subst e2;refine⟨hx,fun q h0 hq=>?_⟩
     have e3:p=q:=by
      rw[xD qc]at hq;simpa using hq
     subst e3
     have: ∀(l:List Pt) (lo:Int),aQ lo (l++[p]) mi→p.o+p.n≤mi:=by
      intro l
      induction l with
      |nil=>intro lo a;exact a.2.2
      |cons y l ih=>intro lo a;exact ih _ a.2.2
     have:=this l 0 h;exact⟨Y,hj⟩
theorem zX: ∀(l out:List Pt) (mi hi:Int),aQ 0 out mi→(∀y∈out,One y)→gp out→aQ mi l hi→(∀y∈l,One y)→ ∀i,
 aQ 0 (l.foldl eY out) hi∧(∀y∈l.foldl eY out,One y)∧gp (l.foldl eY out)∧look (l.foldl eY out) i=look (out++l) i
 |[],out,mi,hi,h1,h2,h3,h4,_,i=>⟨h1.up h4,h2,h3,qc⟩
 |x::l,out,mi,hi,h1,h2,h3,h4,h5,i=>by
  obtain⟨a,b,c,d⟩:=JP h1 h2 h3 (h5 x qc) h4.1 i;obtain⟨a',b',c',d'⟩:=zX l (eY out x) _ hi a b c h4.2.2 (fun y hy=>h5 y (by simp[hy])) i;refine⟨a',b',c',?_⟩;rw[List.foldl_cons,d',iJ,d,←iJ];simp
theorem tj{l:List Pt}(h:aQ 0 l 8192)(ho: ∀y∈l,One y):aQ 0 (cE l) 8192∧(∀y∈cE l,One y)∧gp (cE l)∧ ∀i,look (cE l) i=look l i:=by
 have key:=zX l [] 0 8192 (Int.le_refl _) qc (by simp[gp]) h ho;exact⟨(key 0).1,(key 0).2.1,(key 0).2.2.1,fun i=>(key i).2.2.2⟩
def jh(at_ tt:Int):List Pt:=if at_<tt then [⟨at_,tt-at_,-1,0⟩]else []
def eJ(off e:Int)(s:List Pt×Int)(x:Pt):List Pt×Int:=
 if max x.o off<min (x.o+x.n) e then(s.1++jh s.2 (max x.o off)++[⟨max x.o off,min (x.o+x.n) e-max x.o off,x.a,x.f+max x.o off-x.o⟩],min (x.o+x.n) e)else s
def gI(off e:Int)(l:List Pt):List Pt×Int:=l.foldl (eJ off e) ([],off)
def Hu(off e:Int)(l:List Pt):List Pt:=(gI off e l).1++jh (gI off e l).2 e
def tl(g:Int→Option (Int×Int)):Int→List Pt→Int→Prop
 |lo,[],hi=>lo=hi
 |lo,x::l,hi=>x.o=lo∧1≤x.n∧(∀j,lo≤j→j<lo+x.n→(x.a= -1∧g j=none)∨(0≤x.a∧g j=some (x.a,x.f+(j-lo))))∧tl g (lo+x.n) l hi
theorem tl.append{g:Int→Option (Int×Int)}: ∀{lo:Int} {l:List Pt} {mi:Int} {l':List Pt} {hi:Int},tl g lo l mi→tl g mi l' hi→tl g lo (l++l') hi
 |_,[],_,_,_,h,k=>by obtain rfl:_=_:=h;exact k
 |_,_::_,_,_,_,h,k=>⟨h.1,h.2.1,h.2.2.1,tl.append h.2.2.2 k⟩
theorem vM(off e:Int): ∀(l out:List Pt) (at_:Int),(l.foldl (eJ off e) (out,at_)).1.length≤out.length+2*l.length
 |[],out,_=>by simp
 |x::l,out,at_=>by
  rw[List.foldl_cons];have hh: ∀a b,(jh a b).length≤1:=fun a b=>by unfold jh;split<;>simp
  by_cases c:max x.o off<min (x.o+x.n) e
  ·have e1:eJ off e (out,at_) x=(out++jh at_ (max x.o off)++[⟨max x.o off,min (x.o+x.n) e-max x.o off,x.a,x.f+max x.o off-x.o⟩],min (x.o+x.n) e):=qH c;rw[e1];refine qM (vM off e l _ _) ?_;have:=hh at_ (max x.o off)
   simp only[qY,xf,List.length_nil];omega
  ·have e1:eJ off e (out,at_) x=(out,at_):=qB c;rw[e1];refine qM (vM off e l _ _) ?_;simp only[xf];omega
def mF(l:List Pt):Int:=match l.getLast? with|some x=>x.o+x.n|none=>0
def afW(l:List Pt):Int:=if Good l then mF l else 0
def MF(ma mf mn mt tt:Int):Prop:=(0≤ma∧ma<16384)∧(0≤tt∧tt<16384)∧Whole mf mn 1024∧Whole mt mn 1024
instance (ma mf mn mt tt:Int):Decidable (MF ma mf mn mt tt):=by unfold MF;infer_instance
end ExtW
namespace InoP
open ExtW (Pt mF)
structure dw where
 i:Int
 k:Int
 l:Int
 o:Int
 s:Int
 p:List Pt
deriving DecidableEq
def bg(L:List dw):Prop:=L.Pairwise fun a b=>a.i<b.i
def find(L:List dw)(i:Int):Option dw:=L.find? fun a=>decide (a.i=i)
def oX(L:List dw)(x:dw):List dw:=L.map fun a=>if a.i=x.i then x else a
def del(L:List dw)(i:Int):List dw:=L.filter fun a=> !decide (a.i=i)
theorem gJ{L:List dw}{i:Int}{x:dw}(h:find L i=some x):x∈L∧x.i=i:=
 ⟨List.mem_of_find?_eq_some h,by simpa using List.find?_some h⟩
theorem zY{L:List dw}{i:Int}:find L i=none↔ ∀a∈L,a.i≠i:=by
 unfold find;rw[List.find?_eq_none];simp
theorem uo: ∀{L:List dw},bg L→ ∀{x:dw},x∈L→find L x.i=some x
 |[],_,x,hx=>by simp at hx
 |a::L,h,x,hx=>by
  obtain⟨h1,h2⟩:=xw.1 h;unfold find;rw[List.find?_cons];rcases qG.1 hx with rfl|hx
  ·simp
  ·have:=h1 x hx;rw[show decide (a.i=x.i)=false from qD Y];exact uo h2 hx
theorem JR(L:List dw)(x:dw)(h:find L x.i=none):find (L++[x])=fun z=>if z=x.i then some x else find L z:=by
 funext z;unfold find at*;rw[List.find?_append];by_cases hz:z=x.i
 ·subst hz;rw[h,qH rfl];simp
 ·rw[qB hz];have:List.find? (fun a=>decide (a.i=z)) [x]=none:=by simp[Ne.symm hz]
  rw[this];simp
theorem MU(L:List dw)(x y:dw)(h:find L x.i=some y):find (oX L x)=fun z=>if z=x.i then some x else find L z:=by
 funext z;unfold find oX at*
 induction L with
 |nil=>simp at h
 |cons a L ih=>
  rw[List.map_cons,List.find?_cons];rw[List.find?_cons]at h;by_cases ha:a.i=x.i
  ·rw[qH ha];by_cases hz:z=x.i
   ·rw[qH hz,show decide (x.i=z)=true from qR hz.symm]
   ·rw[qB hz,show decide (x.i=z)=false from qD (fun e=>hz e.symm)];rw[List.find?_cons,show decide (a.i=z)=false from qD (fun e=>hz (by rw[←e,ha]))];clear ih h
    induction L with
    |nil=>rfl
    |cons b L ih=>
     rw[List.map_cons,List.find?_cons,List.find?_cons];by_cases hb:b.i=x.i
     ·rw[qH hb,show decide (x.i=z)=false from qD (fun e=>hz e.symm),show decide (b.i=z)=false from qD (fun e=>hz (by rw[←e,hb]))];exact ih
     ·rw[qB hb]
      cases decide (b.i=z)with
      |true=>rfl
      |false=>exact ih
  ·rw[show decide (a.i=x.i)=false from qD ha]at h;rw[qB ha,List.find?_cons];by_cases hz:a.i=z
   ·rw[show decide (a.i=z)=true from qR hz,qB (by rw[←hz];exact ha)]
   ·rw[show decide (a.i=z)=false from qD hz];exact ih h
theorem MV(L:List dw)(i:Int):find (del L i)=fun z=>if z=i then none else find L z:=by
 funext z;unfold find del
 induction L with
 |nil=>simp
 |cons a L ih=>
  by_cases ha:a.i=i
  ·rw[List.filter_cons_of_neg (by simp[ha]),ih,List.find?_cons];by_cases hz:z=i
   ·rw[qH hz,qH hz]
   ·rw[qB hz,qB hz,show decide (a.i=z)=false from qD (fun e=>hz (by rw[←e,ha]))]
  ·rw[List.filter_cons_of_pos (by simp[ha]),List.find?_cons,List.find?_cons,ih];by_cases hz:z=i
   ·rw[show decide (a.i=z)=false from qD (by rw[hz];exact ha)]
   ·simp only[qB hz]
theorem MW(L:List dw)(x:dw):(oX L x).map (·.i)=L.map (·.i):=by
 unfold oX;rw[List.map_map];refine List.map_congr_left fun a _=>?_;simp only[Function.comp];split
 ·rename_i h;exact h.symm
 ·rfl
theorem lL(L:List dw):bg L↔(L.map (·.i)).Pairwise (· < ·):=by unfold bg;rw[List.pairwise_map]
theorem JS{L:List dw}(h:bg L)(x:dw):bg (oX L x):=by rw[lL,MW,←lL];exact h
theorem JT{L:List dw}(h:bg L)(i:Int):bg (del L i):=h.sublist List.filter_sublist
theorem Sz(L:List dw)(x:dw):(oX L x).length=L.length:=by unfold oX;simp
theorem Hv(L:List dw)(i:Int):(del L i).length≤L.length:=List.length_filter_le _ _
theorem Hw{L:List dw}{x a:dw}(h:a∈oX L x):a=x∨a∈L:=by
 unfold oX at h;obtain⟨b,hb,e⟩:=List.mem_map.1 h;split at e
 ·exact .inl e.symm
 ·exact .inr (e▸hb)
theorem Hx{L:List dw}{i:Int}{a:dw}(h:a∈del L i):a∈L∧a.i≠i:=by
 unfold del at h;have:=List.mem_filter.1 h;exact⟨this.1,by simpa using this.2⟩
structure kX(x:dw):Prop where
 kind:x.k=1∨x.k=2
 l:0≤x.l∧x.l≤8
 o:0≤x.o∧x.o≤128
 s:0≤x.s∧x.s≤8192
 p:ExtW.Good x.p
 e:mF x.p≤x.s
 dir:x.k=1→x.o=0∧x.s=0∧x.p=[]
structure im(L:List dw)(next:Int):Prop where
 dU:bg L
 all: ∀x∈L,kX x
 num: ∀x∈L,1≤x.i∧x.i<next
 len:L.length≤64
 next:2≤next∧next≤2147483647
theorem im.oX{L:List dw}{next:Int}(h:im L next){x y:dw}(hf:find L x.i=some y)(hx:kX x):im (oX L x) next where
 dU:=JS h.dU x
 all a ha:=by
  rcases Hw ha with rfl|ha
  ·exact hx
  ·exact h.all a ha
 num a ha:=by
  rcases Hw ha with rfl|ha
  ·obtain⟨h1,h2⟩:=gJ hf;rw[←h2];exact h.num _ h1
  ·exact h.num a ha
 len:=by rw[Sz];exact h.len
 next:=h.next
theorem im.del{L:List dw}{next:Int}(h:im L next)(i:Int):im (del L i) next where
 dU:=JT h.dU i
 all a ha:=h.all a (Hx ha).1
 num a ha:=h.num a (Hx ha).1
 len:=qM (Hv L i) h.len
 next:=h.next
theorem im.JU{L:List dw}{next:Int}(h:im L next):find L next=none:=
 zY.2 fun a ha=>by have:=h.num a ha;omega
theorem FA(i k:Int)(hk:k=1∨k=2):kX ⟨i,k,0,0,0,[]⟩:=
 ⟨hk,qc,qc,qc,(by decide:ExtW.Good []),(by decide:mF []≤0),fun _=>⟨rfl,rfl,rfl⟩⟩
theorem im.snoc{L:List dw}{next:Int}(h:im L next){k:Int}(hk:k=1∨k=2)(hl:L.length<64)(hn:next<2147483647):im (L++[⟨next,k,0,0,0,[]⟩]) (next+1) where
 dU:=by
  unfold bg;rw[List.pairwise_append];refine⟨h.dU,qc,fun a ha b hb=>?_⟩;simp only[qS]at hb;subst hb;exact(h.num a ha).2
 all a ha:=by
  rcases xa.1 ha with ha|ha
  ·exact h.all a ha
  ·simp only[qS]at ha;subst ha;exact FA _ _ hk
 num a ha:=by
  rcases xa.1 ha with ha|ha
  ·have:=h.num a ha;omega
  ·simp only[qS]at ha;have:=h.next;subst ha;show 1≤next∧next<next+1
   omega
 len:=by simp;omega
 next:=by have:=h.next;omega
def root:dw:=⟨1,1,1,0,0,[]⟩
theorem JV:im [root] 2 where
 dU:=List.pairwise_singleton _ _
 all a ha:=by
  simp only[qS]at ha;subst ha;exact⟨.inl rfl,qa,qa,qa,qa,qa,fun _=>⟨rfl,rfl,rfl⟩⟩
 num a ha:=by
  simp only[qS]at ha;subst ha;decide
 len:=qc
 next:=qa
theorem zU{L:List dw}(h:bg L){k:Nat}{y:dw}(hk:L[k]? =some y):del L y.i=L.take k++L.drop (k+1):=by
 obtain⟨vN,hky⟩:=xb.1 hk;have e:L=L.take k++y::L.drop (k+1):=by rw[←hky,List.getElem_cons_drop,List.take_append_drop]
 have hp:bg (L.take k++y::L.drop (k+1)):=e▸h;unfold bg at hp;rw[List.pairwise_append,xw]at hp;obtain⟨_,⟨h2,_⟩,h3⟩:=hp;have h4:del L y.i=del (L.take k++y::L.drop (k+1)) y.i:=qX (fun l=>del l y.i) e;rw[h4];unfold del;rw[List.filter_append,List.filter_cons_of_neg qc];rw[List.filter_eq_self.2 fun a ha=>?_,List.filter_eq_self.2 fun a ha=>?_]
 ·have:=h2 a ha;simp;omega
 ·have:=h3 a ha y qc;simp;omega
end InoP
namespace ExtW
open Go.RowKit
theorem JW(a n m:Int)(hm:m=8192∨m=1024)(w:qo):
 qw qx 260 #[U Z a,U Z n,U Z m] w fun e J=>e=qm (qk (decide (Whole a n m)))∧w=J:=by
 have key: ∀b:Bool,(decide (Whole a n m))=b→qw qx 260 #[U Z a,U Z n,U Z m] w fun e J=>e=qm (qk b)∧w=J:=by
  intro b hb;by_cases h1:0≤a
  ·by_cases h2:1≤n
   ·by_cases h3:n≤m
    ·have h5:IntKind.i64.wrap (m-n)=m-n:=qO (m-n) Y;by_cases h4:a≤m-n
     ·obtain rfl:b=true:=by rw[←hb];exact qR ⟨h1,h2,h3,h4⟩
      clear hb;go_enter func260,ntmps260;go_wp2
      go_ret;exact⟨rfl,rfl⟩
     ·obtain rfl:b=false:=by rw[←hb];exact qD fun h=>h4 h.2.2.2
      clear hb;go_enter func260,ntmps260;go_wp2
      go_ret;exact⟨rfl,rfl⟩
    ·obtain rfl:b=false:=by rw[←hb];exact qD fun h=>h3 h.2.2.1
     clear hb;go_enter func260,ntmps260;go_wp2
     go_ret;exact⟨rfl,rfl⟩
   ·obtain rfl:b=false:=by rw[←hb];exact qD fun h=>h2 h.2.1
    clear hb;go_enter func260,ntmps260;go_wp2
    go_ret;exact⟨rfl,rfl⟩
  ·obtain rfl:b=false:=by rw[←hb];exact qD fun h=>h1 h.1
   clear hb;go_enter func260,ntmps260;go_wp2
   go_ret;exact⟨rfl,rfl⟩
 exact key _ rfl
def Pt.v(x:Pt):qp:=ql #[U Z x.o,U Z x.n,U Z x.a,U Z x.f]
theorem eZ(a n m:Int)(b:Bool)(hm:m=8192∨m=1024)(hb:decide (Whole a n m)=b)(w:qo):
 qw qx 260 #[U Z a,U Z n,U Z m] w fun e J=>e=qm (qk b)∧w=J:=by
 rw[←hb];exact JW a n m hm w
theorem rH(x:Pt)(w:qo):
 qw qx 326 #[x.v] w fun e J=>e=qm (qk (decide (One x)))∧qz w.heap.size w J:=by
 obtain⟨o,n,a,f⟩:=x
 have key: ∀b:Bool,(decide (One ⟨o,n,a,f⟩))=b→qw qx 326 #[ql #[U Z o,U Z n,U Z a,U Z f]] w fun e J=>e=qm (qk b)∧qz w.heap.size w J:=by
  intro b hb
  cases h1:decide (Whole o n 8192)with
  |false=>
   obtain rfl:b=false:=by rw[←hb];exact qD fun h=>qZ h.1 (of_decide_eq_false h1)
   have H1:=Hd h1;clear hb h1;go_enter func326,ntmps326;go_wp2_with(go_at_call_of 260 (Value.int IntKind.i64 8192);refine(eZ _ _ _ _ (.inl rfl) H1.o _).mono ?_;rintro e J ⟨rfl,rfl⟩)
   go_ret
   exact⟨rfl,aa w _⟩
  |true=>
   cases h2:decide (Whole f n 1024)with
   |false=>
    obtain rfl:b=false:=by rw[←hb];exact qD fun h=>qZ h.2.1 (of_decide_eq_false h2)
    have H1:=Hd h1;have H2:=Hd h2;clear hb h1 h2;go_enter func326,ntmps326
    go_wp2_with(first
     |(go_at_call_of 260 (Value.int IntKind.i64 8192);refine(eZ _ _ _ _ (.inl rfl) H1.o _).mono ?_;rintro e J ⟨rfl,rfl⟩)
     |(go_at_call_of 260 (Value.int IntKind.i64 1024);refine(eZ _ _ _ _ (.inr rfl) H2.o _).mono ?_;rintro e J ⟨rfl,rfl⟩))
    go_ret
    exact⟨rfl,aa w _⟩
   |true=>
    by_cases h3:0≤a
    ·by_cases h4:a<16384
     ·obtain rfl:b=true:=by rw[←hb];exact qR ⟨xr h1,xr h2,h3,h4⟩
      have H1:=Hd h1;have H2:=Hd h2;clear hb h1 h2;go_enter func326,ntmps326
      go_wp2_with(first
       |(go_at_call_of 260 (Value.int IntKind.i64 8192);refine(eZ _ _ _ _ (.inl rfl) H1.o _).mono ?_;rintro e J ⟨rfl,rfl⟩)
       |(go_at_call_of 260 (Value.int IntKind.i64 1024);refine(eZ _ _ _ _ (.inr rfl) H2.o _).mono ?_;rintro e J ⟨rfl,rfl⟩))
      go_ret;exact⟨rfl,aa w _⟩
     ·obtain rfl:b=false:=by rw[←hb];exact qD fun h=>h4 h.2.2.2
      have h4':decide (a<16384)=false:=qD h4;have H1:=Hd h1;have H2:=Hd h2;clear hb h1 h2;go_enter func326,ntmps326
      go_wp2_with(first
       |(go_at_call_of 260 (Value.int IntKind.i64 8192);refine(eZ _ _ _ _ (.inl rfl) H1.o _).mono ?_;rintro e J ⟨rfl,rfl⟩)
       |(go_at_call_of 260 (Value.int IntKind.i64 1024);refine(eZ _ _ _ _ (.inr rfl) H2.o _).mono ?_;rintro e J ⟨rfl,rfl⟩))
      go_ret;exact⟨rfl,aa w _⟩
    ·obtain rfl:b=false:=by rw[←hb];exact qD fun h=>h3 h.2.2.1
     have H1:=Hd h1;have H2:=Hd h2;clear hb h1 h2;go_enter func326,ntmps326
     go_wp2_with(first
      |(go_at_call_of 260 (Value.int IntKind.i64 8192);refine(eZ _ _ _ _ (.inl rfl) H1.o _).mono ?_;rintro e J ⟨rfl,rfl⟩)
      |(go_at_call_of 260 (Value.int IntKind.i64 1024);refine(eZ _ _ _ _ (.inr rfl) H2.o _).mono ?_;rintro e J ⟨rfl,rfl⟩))
     go_ret;exact⟨rfl,aa w _⟩
 exact key _ rfl
theorem JX(p x:Pt)(h1: -1000000≤p.o∧p.o≤1000000)(h2: -1000000≤p.n∧p.n≤1000000)(h3: -1000000≤p.f∧p.f≤1000000)(w:qo):
 qw qx 327 #[p.v,x.v] w fun e J=>e=qm (qk (decide (Joins p x)))∧qz w.heap.size w J:=by
 obtain⟨o,n,a,f⟩:=p;obtain⟨o2,n2,a2,f2⟩:=x
 have key: ∀b:Bool,(decide (Joins ⟨o,n,a,f⟩ ⟨o2,n2,a2,f2⟩))=b→qw qx 327 #[ql #[U Z o,U Z n,U Z a,U Z f],ql #[U Z o2,U Z n2,U Z a2,U Z f2]] w fun e J=>e=qm (qk b)∧qz w.heap.size w J:=by
  intro b hb;have h4:IntKind.i64.wrap (o+n)=o+n:=qO (o+n) (by simp only at h1 h2 h3;omega);have h5:IntKind.i64.wrap (f+n)=f+n:=qO (f+n) (by simp only at h1 h2 h3;omega);clear h1 h2 h3;by_cases g1:o+n=o2
  ·have g1':(o+n==o2)=true:=by rw[beq_iff_eq];exact g1
   by_cases g2:a=a2
   ·have g2':(a==a2)=true:=by rw[beq_iff_eq];exact g2
    by_cases g3:f+n=f2
    ·have g3':(f+n==f2)=true:=by rw[beq_iff_eq];exact g3
     obtain rfl:b=true:=by rw[←hb];exact qR ⟨g1,g2,g3⟩
     clear hb g1 g2 g3;go_enter func327,ntmps327;go_wp2
     go_ret;exact⟨rfl,(aa w _).trans ((aa (w.alloc _) _).mono qc)⟩
    ·have g3':(f+n==f2)=false:=by rw[qP];exact g3
     obtain rfl:b=false:=by rw[←hb];exact qD fun h=>g3 h.2.2
     clear hb g1 g2 g3;go_enter func327,ntmps327;go_wp2
     go_ret;exact⟨rfl,(aa w _).trans ((aa (w.alloc _) _).mono qc)⟩
   ·have g2':(a==a2)=false:=by rw[qP];exact g2
    obtain rfl:b=false:=by rw[←hb];exact qD fun h=>g2 h.2.1
    clear hb g1 g2;go_enter func327,ntmps327;go_wp2
    go_ret;exact⟨rfl,(aa w _).trans ((aa (w.alloc _) _).mono qc)⟩
  ·have g1':(o+n==o2)=false:=by rw[qP];exact g1
   obtain rfl:b=false:=by rw[←hb];exact qD fun h=>g1 h.1
   clear hb g1;go_enter func327,ntmps327;go_wp2
   go_ret;exact⟨rfl,(aa w _).trans ((aa (w.alloc _) _).mono qc)⟩
 exact key _ rfl
def et(B:Nat)(oa:Option qt)(l:List Pt)(w:qo):Prop:=
 ∀i x,l[i]? =some x→ ∃a,oa=some a∧a.block<B∧w.cell? (a.add (i*4))=some (U Z x.o)∧w.cell? ⟨(a.add (i*4)).block,(a.add (i*4)).off+1,none⟩=some (U Z x.n)∧
  w.cell? ⟨(a.add (i*4)).block,(a.add (i*4)).off+2,none⟩=some (U Z x.a)∧w.cell? ⟨(a.add (i*4)).block,(a.add (i*4)).off+3,none⟩=some (U Z x.f)
theorem et.below{B:Nat}{oa:Option qt}{l:List Pt}{w J:qo}(h:et B oa l w)(hb:qz B w J):et B oa l J:=by
 intro i x hx;obtain⟨a,h1,h2,h3,h4,h5,h6⟩:=h i x hx;have eo: ∀j,(a.add j).block<B:=fun j=>by unfold Addr.add;split<;>exact h2
 exact⟨a,h1,h2,(hb.cell (eo _)).trans h3,(hb.cell (p:=⟨_,_,none⟩) (eo (i*4))).trans h4,(hb.cell (p:=⟨_,_,none⟩) (eo (i*4))).trans h5,(hb.cell (p:=⟨_,_,none⟩) (eo (i*4))).trans h6⟩
theorem et.mono{B C:Nat}{oa:Option qt}{l:List Pt}{w:qo}(h:et B oa l w)(hb:B≤C):et C oa l w:=by
 intro i x hx;obtain⟨a,h1,h2,h3⟩:=h i x hx;exact⟨a,h1,xH h2 hb,h3⟩
theorem pH(x:Pt)(b:Bool)(hb:decide (One x)=b)(w:qo):
 qw qx 326 #[ql #[U Z x.o,U Z x.n,U Z x.a,U Z x.f]] w fun e J=>e=qm (qk b)∧qz w.heap.size w J:=by
 rw[←hb];exact rH x w
theorem rI(p x:Pt)(b:Bool)(hb:decide (Joins p x)=b)(hp:One p)(w:qo):
 qw qx 327 #[ql #[U Z p.o,U Z p.n,U Z p.a,U Z p.f],ql #[U Z x.o,U Z x.n,U Z x.a,U Z x.f]] w fun e J=>e=qm (qk b)∧qz w.heap.size w J:=by
 have:=hp.small;rw[←hb];exact JX p x Y Y Y w
theorem cG(B:Nat)(oa:Option qt)(cap:Nat)(l:List Pt)(hl:l.length≤9223372036854775807)(w:qo)(hB:B≤w.heap.size)(h:et B oa l w):
 qw qx 259 #[qh oa l.length cap] w fun e J=>e=qm (qk (decide (Good l)))∧qz w.heap.size w J:=by
 have HP:=Hd h;have HL:=Hd hB;clear h hB;by_cases hlen:64<l.length
 ·have HG:Hid (decide (Good l)=false):=Hd (qD fun h=>by have:=h.1;omega);go_enter func259,ntmps259;go_wp2_with fail
  go_ret;exact⟨by rw[HG.o];rfl,Below.refl _ _⟩
 ·have VX:l.length≤64:=by omega
  have ea:=Hd VX;clear hlen hl;go_enter func259,ntmps259;go_wp2_with fail
  go_loopw [10] (fun i wr=> ∃k:Nat,k≤l.length∧i=U Z (k:Int)∧(∀j,j<k→MS l j)∧qz w.heap.size w wr) (fun i _=>((l.length:Int)-intOf i).toNat)
  case atStart=>exact⟨0,Y,rfl,fun j hj=>qZ hj Y,Below.refl _ _⟩
  case round=>
   obtain⟨k,hk,rfl,mR,dz⟩:=hrel;have MX:=Hd mR;have HB:=Hd dz;clear mR dz;by_cases aN:k<l.length
   ·obtain⟨x,hx⟩: ∃x,l[k]? =some x:=⟨_,qN aN⟩;obtain⟨a,rfl,oW,c0,c1,c2,c3⟩:=(HP.o.below (HB.o.mono HL.o)) k x hx;have HX:=Hd hx;clear hx;by_cases h1:One x
    ·have H1:Hid (decide (One x)=true):=Hd (qR h1);have H1':=Hd h1;clear h1;by_cases hk0:k=0
     ·have hz:decide (0<k)=false:=qD Y
      have HN:Hid (∀j,j<k+1→MS l j):=Hd fun j hj y hy=>by
       obtain rfl:j=k:=Y;rw[HX.o]at hy;obtain rfl:x=y:=by simpa using hy
       exact⟨H1'.o,fun p h0=>qZ h0 Y⟩
      clear hk0;go_wp2_with fail
      refine gn (fun J=>(J.cell? ⟨wr.heap.size,0,none⟩=some (U Z x.o)∧J.cell? ⟨wr.heap.size,1,none⟩=some (U Z x.n)∧J.cell? ⟨wr.heap.size,2,none⟩=some (U Z x.a)∧J.cell? ⟨wr.heap.size,3,none⟩=some (U Z x.f))∧qz wr.heap.size wr J) qd qd ?_ ?_
      ·exact⟨⟨qc,qc,qc,qc⟩,(aa wr _).drew⟩
      repeat first
       |(refine cM ?_ ?_;(·first|rfl|(go_simp;done));simp only[pS,aS,sZ,sS])
       |(refine du (v:=?_) ?_ ?_ ?_
         rotate_left
         ·first|rfl|(go_simp;done)
         ·intro wq hq;go_simp
          with_reducible rfl
         simp only[pS,aS,sZ,sS])
       |(refine dF (v:=?_) (f:=?_) (args:=?_) ?_ ?_ ?_ ?_
         rotate_left 3
         ·first|rfl|(go_simp;done)
         ·intro wq;go_simp;constructor
          ·rfl
          ·rfl
         ·intro wq hq
          first
           |(refine(pH x _ H1.o _).mono ?_
             rintro e w1⟨rfl,hb1⟩;constructor
             ·rfl
             ·exact⟨⟨ah hb1 hq.1.1,ah hb1 hq.1.2.1,ah hb1 hq.1.2.2.1,ah hb1 hq.1.2.2.2⟩,ai hq.2 hb1⟩)
         simp only[pS,aS,sZ,sS])
      refine dv ?_;intro w2 hw2;obtain⟨CJ,hb2⟩:=hw2;go_wp2
      exact⟨⟨k+1,Y,qc,HN.o,ai HB.o hb2⟩,by simp[intOf];omega⟩
     ·obtain⟨m,hm⟩: ∃m,k=m+1:=⟨k-1,Y⟩;have hw:IntKind.i64.wrap ((k:Int)-1)=(m:Int):=by rw[qO _ Y];omega
      have hz:decide (0<k)=true:=qR Y;obtain⟨p,hp⟩: ∃p,l[m]? =some p:=⟨_,qN Y⟩;have uq:=Hd (MX.o m Y p hp);obtain⟨a',ha',_,d0,d1,d2,d3⟩:=(HP.o.below (HB.o.mono HL.o)) m p hp;obtain rfl:a=a':=by simpa using ha'
      clear ha';have HQ:=Hd hp;clear hp;have JQ:=uq.o.1.small;have hw2:IntKind.i64.wrap (p.o+p.n)=p.o+p.n:=qO _ Y;have HM:=Hd hm;have hm0:(0:Int)≤(m:Int):=Y;have hm1:(m:Int)<(l.length:Int):=Y;have hm2:m<l.length:=Y;by_cases h2:p.o+p.n≤x.o
      ·have hz2:decide (x.o<p.o+p.n)=false:=qD Y;by_cases h3:Joins p x
       ·have HJ:Hid (decide (Joins p x)=true):=Hd (qR h3);have HG:Hid (decide (Good l)=false):=Hd (qD fun h=>qZ h3 ((((gq l).1 h.2 k aN) x HX.o).2 p Y (by rw[hm];exact HQ.o)).2);clear h3 h2 JQ hm;go_wp2_with fail
        refine gn (fun J=>((J.cell? ⟨wr.heap.size,0,none⟩=some (U Z x.o)∧J.cell? ⟨wr.heap.size,1,none⟩=some (U Z x.n)∧J.cell? ⟨wr.heap.size,2,none⟩=some (U Z x.a)∧J.cell? ⟨wr.heap.size,3,none⟩=some (U Z x.f))∧(J.cell? (a.add (m*4))=some (U Z p.o)∧J.cell? ⟨(a.add (m*4)).block,(a.add (m*4)).off+1,none⟩=some (U Z p.n)∧J.cell? ⟨(a.add (m*4)).block,(a.add (m*4)).off+2,none⟩=some (U Z p.a)∧J.cell? ⟨(a.add (m*4)).block,(a.add (m*4)).off+3,none⟩=some (U Z p.f)))∧qz wr.heap.size wr J) qd qd ?_ ?_
        ·exact⟨⟨⟨qc,qc,qc,qc⟩,⟨ah (aa wr _).drew d0,ah (aa wr _).drew d1,ah (aa wr _).drew d2,ah (aa wr _).drew d3⟩⟩,(aa wr _).drew⟩
        repeat first
         |(refine cM ?_ ?_;(·first|rfl|(go_simp;done));simp only[pS,aS,sZ,sS])
         |(refine du (v:=?_) ?_ ?_ ?_
           rotate_left
           ·first|rfl|(go_simp;done)
           ·intro wq hq;go_simp
            with_reducible rfl
           simp only[pS,aS,sZ,sS])
         |(refine dF (v:=?_) (f:=?_) (args:=?_) ?_ ?_ ?_ ?_
           rotate_left 3
           ·first|rfl|(go_simp;done)
           ·intro wq;go_simp;constructor
            ·rfl
            ·rfl
           ·intro wq hq
            first
             |(go_at_call 326;refine(pH x _ H1.o _).mono ?_
               rintro e w1⟨rfl,hb1⟩;constructor
               ·rfl
               ·exact⟨⟨⟨ah hb1 hq.1.1.1,ah hb1 hq.1.1.2.1,ah hb1 hq.1.1.2.2.1,ah hb1 hq.1.1.2.2.2⟩,⟨ah hb1 hq.1.2.1,ah hb1 hq.1.2.2.1,ah hb1 hq.1.2.2.2.1,ah hb1 hq.1.2.2.2.2⟩⟩,ai hq.2 hb1⟩)
             |(go_at_call 327;refine(rI p x _ HJ.o uq.o.1 _).mono ?_
               rintro e w1⟨rfl,hb1⟩;constructor
               ·rfl
               ·exact⟨⟨⟨ah hb1 hq.1.1.1,ah hb1 hq.1.1.2.1,ah hb1 hq.1.1.2.2.1,ah hb1 hq.1.1.2.2.2⟩,⟨ah hb1 hq.1.2.1,ah hb1 hq.1.2.2.1,ah hb1 hq.1.2.2.2.1,ah hb1 hq.1.2.2.2.2⟩⟩,ai hq.2 hb1⟩)
           simp only[pS,aS,sZ,sS])
        refine dv ?_;intro w2 hw2;obtain⟨CJ,hb2⟩:=hw2;go_wp2
        go_ret;exact⟨by rw[HG.o];rfl,ai HB.o hb2⟩
       ·have HJ:Hid (decide (Joins p x)=false):=Hd (qD h3)
        have HN:Hid (∀j,j<k+1→MS l j):=Hd fun j hj y hy=>by
         by_cases JY:j<k
         ·exact MX.o j JY y hy
         ·obtain rfl:j=k:=by omega
          rw[HX.o]at hy;obtain rfl:x=y:=by simpa using hy
          refine⟨H1'.o,fun q _ hq=>?_⟩;rw[hm]at hq;have hq':=HQ.o.symm.trans hq;obtain rfl:p=q:=by simpa using hq'
          exact⟨h2,h3⟩
        clear h3 h2 JQ hm;go_wp2_with fail
        refine gn (fun J=>((J.cell? ⟨wr.heap.size,0,none⟩=some (U Z x.o)∧J.cell? ⟨wr.heap.size,1,none⟩=some (U Z x.n)∧J.cell? ⟨wr.heap.size,2,none⟩=some (U Z x.a)∧J.cell? ⟨wr.heap.size,3,none⟩=some (U Z x.f))∧(J.cell? (a.add (m*4))=some (U Z p.o)∧J.cell? ⟨(a.add (m*4)).block,(a.add (m*4)).off+1,none⟩=some (U Z p.n)∧J.cell? ⟨(a.add (m*4)).block,(a.add (m*4)).off+2,none⟩=some (U Z p.a)∧J.cell? ⟨(a.add (m*4)).block,(a.add (m*4)).off+3,none⟩=some (U Z p.f)))∧qz wr.heap.size wr J) qd qd ?_ ?_
        ·exact⟨⟨⟨qc,qc,qc,qc⟩,⟨ah (aa wr _).drew d0,ah (aa wr _).drew d1,ah (aa wr _).drew d2,ah (aa wr _).drew d3⟩⟩,(aa wr _).drew⟩
        repeat first
         |(refine cM ?_ ?_;(·first|rfl|(go_simp;done));simp only[pS,aS,sZ,sS])
         |(refine du (v:=?_) ?_ ?_ ?_
           rotate_left
           ·first|rfl|(go_simp;done)
           ·intro wq hq;go_simp
            with_reducible rfl
           simp only[pS,aS,sZ,sS])
         |(refine dF (v:=?_) (f:=?_) (args:=?_) ?_ ?_ ?_ ?_
           rotate_left 3
           ·first|rfl|(go_simp;done)
           ·intro wq;go_simp;constructor
            ·rfl
            ·rfl
           ·intro wq hq
            first
             |(go_at_call 326;refine(pH x _ H1.o _).mono ?_
               rintro e w1⟨rfl,hb1⟩;constructor
               ·rfl
               ·exact⟨⟨⟨ah hb1 hq.1.1.1,ah hb1 hq.1.1.2.1,ah hb1 hq.1.1.2.2.1,ah hb1 hq.1.1.2.2.2⟩,⟨ah hb1 hq.1.2.1,ah hb1 hq.1.2.2.1,ah hb1 hq.1.2.2.2.1,ah hb1 hq.1.2.2.2.2⟩⟩,ai hq.2 hb1⟩)
             |(go_at_call 327;refine(rI p x _ HJ.o uq.o.1 _).mono ?_
               rintro e w1⟨rfl,hb1⟩;constructor
               ·rfl
               ·exact⟨⟨⟨ah hb1 hq.1.1.1,ah hb1 hq.1.1.2.1,ah hb1 hq.1.1.2.2.1,ah hb1 hq.1.1.2.2.2⟩,⟨ah hb1 hq.1.2.1,ah hb1 hq.1.2.2.1,ah hb1 hq.1.2.2.2.1,ah hb1 hq.1.2.2.2.2⟩⟩,ai hq.2 hb1⟩)
           simp only[pS,aS,sZ,sS])
        refine dv ?_;intro w2 hw2;obtain⟨CJ,hb2⟩:=hw2;go_wp2
        exact⟨⟨k+1,Y,qc,HN.o,ai HB.o hb2⟩,by simp[intOf];omega⟩
      ·have hz2:decide (x.o<p.o+p.n)=true:=qR Y;have HG:Hid (decide (Good l)=false):=Hd (qD fun h=>h2 ((((gq l).1 h.2 k aN) x HX.o).2 p Y (by rw[hm];exact HQ.o)).1);clear h2 JQ hm;go_wp2_with fail
       refine gn (fun J=>((J.cell? ⟨wr.heap.size,0,none⟩=some (U Z x.o)∧J.cell? ⟨wr.heap.size,1,none⟩=some (U Z x.n)∧J.cell? ⟨wr.heap.size,2,none⟩=some (U Z x.a)∧J.cell? ⟨wr.heap.size,3,none⟩=some (U Z x.f))∧(J.cell? (a.add (m*4))=some (U Z p.o)∧J.cell? ⟨(a.add (m*4)).block,(a.add (m*4)).off+1,none⟩=some (U Z p.n)∧J.cell? ⟨(a.add (m*4)).block,(a.add (m*4)).off+2,none⟩=some (U Z p.a)∧J.cell? ⟨(a.add (m*4)).block,(a.add (m*4)).off+3,none⟩=some (U Z p.f)))∧qz wr.heap.size wr J) qd qd ?_ ?_
       ·exact⟨⟨⟨qc,qc,qc,qc⟩,⟨ah (aa wr _).drew d0,ah (aa wr _).drew d1,ah (aa wr _).drew d2,ah (aa wr _).drew d3⟩⟩,(aa wr _).drew⟩
       repeat first
        |(refine cM ?_ ?_;(·first|rfl|(go_simp;done));simp only[pS,aS,sZ,sS])
        |(refine du (v:=?_) ?_ ?_ ?_
          rotate_left
          ·first|rfl|(go_simp;done)
          ·intro wq hq;go_simp
           with_reducible rfl
          simp only[pS,aS,sZ,sS])
        |(refine dF (v:=?_) (f:=?_) (args:=?_) ?_ ?_ ?_ ?_
          rotate_left 3
          ·first|rfl|(go_simp;done)
          ·intro wq;go_simp;constructor
           ·rfl
           ·rfl
          ·intro wq hq
           first
            |(go_at_call 326;refine(pH x _ H1.o _).mono ?_
              rintro e w1⟨rfl,hb1⟩;constructor
              ·rfl
              ·exact⟨⟨⟨ah hb1 hq.1.1.1,ah hb1 hq.1.1.2.1,ah hb1 hq.1.1.2.2.1,ah hb1 hq.1.1.2.2.2⟩,⟨ah hb1 hq.1.2.1,ah hb1 hq.1.2.2.1,ah hb1 hq.1.2.2.2.1,ah hb1 hq.1.2.2.2.2⟩⟩,ai hq.2 hb1⟩)
          simp only[pS,aS,sZ,sS])
       refine dv ?_;intro w2 hw2;obtain⟨CJ,hb2⟩:=hw2;go_wp2
       go_ret;exact⟨by rw[HG.o];rfl,ai HB.o hb2⟩
    ·have H1:Hid (decide (One x)=false):=Hd (qD h1);have HG:Hid (decide (Good l)=false):=Hd (qD fun h=>h1 (((gq l).1 h.2 k aN) x HX.o).1);clear h1;go_wp2_with fail
     refine gn (fun J=>(J.cell? ⟨wr.heap.size,0,none⟩=some (U Z x.o)∧J.cell? ⟨wr.heap.size,1,none⟩=some (U Z x.n)∧J.cell? ⟨wr.heap.size,2,none⟩=some (U Z x.a)∧J.cell? ⟨wr.heap.size,3,none⟩=some (U Z x.f))∧qz wr.heap.size wr J) qd qd ?_ ?_
     ·exact⟨⟨qc,qc,qc,qc⟩,(aa wr _).drew⟩
     repeat first
      |(refine cM ?_ ?_;(·first|rfl|(go_simp;done));simp only[pS,aS,sZ,sS])
      |(refine du (v:=?_) ?_ ?_ ?_
        rotate_left
        ·first|rfl|(go_simp;done)
        ·intro wq hq;go_simp
         with_reducible rfl
        simp only[pS,aS,sZ,sS])
      |(refine dF (v:=?_) (f:=?_) (args:=?_) ?_ ?_ ?_ ?_
        rotate_left 3
        ·first|rfl|(go_simp;done)
        ·intro wq;go_simp;constructor
         ·rfl
         ·rfl
        ·intro wq hq
         first
          |(refine(pH x _ H1.o _).mono ?_
            rintro e w1⟨rfl,hb1⟩;constructor
            ·rfl
            ·exact⟨⟨ah hb1 hq.1.1,ah hb1 hq.1.2.1,ah hb1 hq.1.2.2.1,ah hb1 hq.1.2.2.2⟩,ai hq.2 hb1⟩)
        simp only[pS,aS,sZ,sS])
     refine dv ?_;intro w2 hw2;obtain⟨CJ,hb2⟩:=hw2;go_wp2
     go_ret;exact⟨by rw[HG.o];rfl,ai HB.o hb2⟩
   ·obtain rfl:k=l.length:=by omega
    have HG:Hid (decide (Good l)=true):=Hd (qR ⟨ea.o,(gq l).2 MX.o⟩);go_wp2_with fail
    go_ret;exact⟨by rw[HG.o];rfl,HB.o⟩
end ExtW
namespace DirP
structure En where
 d:Int
 s:ByteArray
 i:Int
deriving DecidableEq
instance:Inhabited En:=⟨⟨0,ByteArray.empty,0⟩⟩
def En.key(a:En):Int×ByteArray:=(a.d,a.s)
def mkE(x:Int×ByteArray)(i:Int):En:=⟨x.1,x.2,i⟩
theorem MY: ∀l:List UInt8,Op.bytesLess l l=false
 |[]=>rfl
 |a::l=>by simp[Op.bytesLess,MY l]
theorem CL: ∀x y z:List UInt8,Op.bytesLess x y=true→Op.bytesLess y z=true→Op.bytesLess x z=true
 |_,[],_,h,_=>by simp[Op.bytesLess]at h
 |_,_::_,[],_,h=>by simp[Op.bytesLess]at h
 |[],_::_,_::_,_,_=>rfl
 |a::x,b::y,c::z,h1,h2=>by
  simp only[Op.bytesLess,Bool.or_eq_true,qC,qF,beq_iff_eq,UInt8.lt_iff_toNat_lt]at*;rcases h1 with h1|⟨rfl,h1⟩<;>rcases h2 with h2|⟨rfl,h2⟩
  ·exact .inl Y
  ·exact .inl h1
  ·exact .inl h2
  ·exact .inr ⟨rfl,CL x y z h1 h2⟩
theorem VY: ∀x y:List UInt8,Op.bytesLess x y=true∨x=y∨Op.bytesLess y x=true
 |[],[]=> .inr (.inl rfl)
 |[],_::_=> .inl rfl
 |_::_,[]=> .inr (.inr rfl)
 |a::x,b::y=>by
  rcases VY x y with h|h|h
  ·by_cases e:a=b
   ·subst e;exact .inl (by simp[Op.bytesLess,h])
   ·rcases Nat.lt_or_gt_of_ne (fun h=>e (UInt8.toNat_inj.1 h))with h1|h1
    ·exact .inl (by simp[Op.bytesLess,UInt8.lt_iff_toNat_lt,h1])
    ·exact .inr (.inr (by simp[Op.bytesLess,UInt8.lt_iff_toNat_lt,h1]))
  ·by_cases e:a=b
   ·subst e;subst h;exact .inr (.inl rfl)
   ·rcases Nat.lt_or_gt_of_ne (fun h=>e (UInt8.toNat_inj.1 h))with h1|h1
    ·exact .inl (by simp[Op.bytesLess,UInt8.lt_iff_toNat_lt,h1])
    ·exact .inr (.inr (by simp[Op.bytesLess,UInt8.lt_iff_toNat_lt,h1]))
  ·by_cases e:a=b
   ·subst e;exact .inr (.inr (by simp[Op.bytesLess,h]))
   ·rcases Nat.lt_or_gt_of_ne (fun h=>e (UInt8.toNat_inj.1 h))with h1|h1
    ·exact .inl (by simp[Op.bytesLess,UInt8.lt_iff_toNat_lt,h1])
    ·exact .inr (.inr (by simp[Op.bytesLess,UInt8.lt_iff_toNat_lt,h1]))
def Xv(s t:ByteArray):Bool:=Op.bytesLess s.toList t.toList
theorem mS{s t:ByteArray}(h:s.toList=t.toList):s=t:=by
 rw[xq,xq]at h;cases s;cases t
 congr 1
 exact Array.toList_inj.1 h
theorem Xw(s:ByteArray):Xv s s=false:=MY _
theorem MZ{s t u:ByteArray}(h:Xv s t=true)(k:Xv t u=true):Xv s u=true:=CL _ _ _ h k
theorem abz(s t:ByteArray):Xv s t=true∨s=t∨Xv t s=true:=by
 rcases VY s.toList t.toList with h|h|h
 ·exact .inl h
 ·exact .inr (.inl (mS h))
 ·exact .inr (.inr h)
def kl(x y:Int×ByteArray):Prop:=x.1<y.1∨(x.1=y.1∧Xv x.2 y.2=true)
instance (x y:Int×ByteArray):Decidable (kl x y):=by unfold kl;infer_instance
theorem Na:Sl.Fy kl where
 VU x:=by unfold kl;rw[Xw];simp
 trans x y z h k:=by
  unfold kl at*;rcases h with h|⟨h,h'⟩<;>rcases k with k|⟨k,k'⟩
  ·exact .inl Y
  ·exact .inl Y
  ·exact .inl Y
  ·exact .inr ⟨Y,MZ h' k'⟩
 or x y:=by
  unfold kl;obtain⟨a,s⟩:=x;obtain⟨b,t⟩:=y;simp only;rcases Int.lt_trichotomy a b with h|h|h
  ·exact .inl (.inl h)
  ·subst h;rcases abz s t with h|h|h
   ·exact .inl (.inr ⟨rfl,h⟩)
   ·subst h;exact .inr (.inl rfl)
   ·exact .inr (.inr (.inr ⟨rfl,h⟩))
  ·exact .inr (.inr (.inl h))
theorem dKV:Sl.KV En.key En.i mkE:=⟨fun _ _=>rfl,fun _ _=>rfl,fun _=>rfl⟩
abbrev bg(L:List En):Prop:=Sl.bg En.key kl L
def lk(L:List En)(x:Int×ByteArray):Option Int:=Sl.look En.key En.i L x
def ins(L:List En)(a:En):List En:=Sl.ins En.key kl L a
def del(L:List En)(x:Int×ByteArray):List En:=Sl.del En.key L x
def low(L:List En)(x:Int×ByteArray):List En:=Sl.low En.key kl L x
theorem Bo(L:List En)(x:Int×ByteArray):lk L x=none↔ ∀a∈L,a.key≠x:=Sl.kV x
theorem Xx{L:List En}(h:bg L)(x:Int×ByteArray)(i:Int):lk L x=some i↔(⟨x.1,x.2,i⟩:En)∈L:=Sl.dc Na dKV h x i
theorem Xy{L:List En}(h:bg L){a:En}(hn:lk L a.key=none):lk (ins L a)=fun z=>if z=a.key then some a.i else lk L z:=Sl.vH Na dKV h ((Bo L _).1 hn)
theorem Xz{L:List En}(h:bg L)(x:Int×ByteArray):lk (del L x)=fun z=>if z=x then none else lk L z:=Sl.vI Na dKV h x
def cT(L:List En)(d:Int):Nat:=L.countP fun a=>decide (a.d=d)
theorem Bp(L:List En)(a:En)(d:Int):cT (ins L a) d=cT L d+if a.d=d then 1 else 0:=by
 have h:cT (Sl.low En.key kl L a.key++Sl.high En.key kl L a.key) d=cT L d:=by rw[Sl.jF]
 rw[←h];unfold ins Sl.ins cT;simp only[List.countP_append,List.countP_cons,qC];omega
theorem XA{L:List En}(h:bg L){k:Nat}{a:En}(hk:L[k]? =some a):del L a.key=L.take k++L.drop (k+1):=Sl.zU Na h hk
theorem SA{L:List En}(hL:bg L){x:Int×ByteArray}{i:Int}(h:lk L x=some i)(d:Int):cT (del L x) d+(if x.1=d then 1 else 0)=cT L d:=by
 have hm:=(Xx hL x i).1 h;obtain⟨k,hk,hx⟩:=List.getElem_of_mem hm;have h1:=XA hL (k:=k) (a:=⟨x.1,x.2,i⟩) (by rw[qN hk,hx]);rw[show(⟨x.1,x.2,i⟩:En).key=x from rfl]at h1
 have h2:L=L.take k++(⟨x.1,x.2,i⟩:En)::L.drop (k+1):=by
  rw[←hx,List.getElem_cons_drop,List.take_append_drop]
 have h3:cT L d=cT (L.take k++(⟨x.1,x.2,i⟩:En)::L.drop (k+1)) d:=qX (fun l=>cT l d) h2;rw[h1,h3];unfold cT;simp only[List.countP_append,List.countP_cons,qC];omega
theorem Nb{L:List En}{x:Int×ByteArray}(h:lk L x=none):del L x=L:=by
 unfold del Sl.del;refine List.filter_eq_self.2 fun a ha=>?_;have:=(Bo L x).1 h a ha;simp[this]
theorem Hv(L:List En)(x:Int×ByteArray):(del L x).length≤L.length:=List.length_filter_le _ _
end DirP
namespace cN
structure Ha where
 c:Int
 n:Int
 i:Int
deriving DecidableEq
def Ha.key(a:Ha):Int×Int:=(a.c,a.n)
def kl(x y:Int×Int):Prop:=x.1<y.1∨(x.1=y.1∧x.2<y.2)
instance (x y:Int×Int):Decidable (kl x y):=by unfold kl;infer_instance
theorem tn(x:Int×Int): ¬kl x x:=by unfold kl;omega
theorem Nc{x y:Int×Int}(h:kl x y): ¬kl y x:=by unfold kl at*;omega
theorem vO{x y z:Int×Int}(h:kl x y)(h':kl y z):kl x z:=by unfold kl at*;omega
theorem VZ(x y:Int×Int):kl x y∨x=y∨kl y x:=by
 obtain⟨a,b⟩:=x;obtain⟨c,d⟩:=y;unfold kl;simp only[Prod.mk.injEq];omega
def bg(L:List Ha):Prop:=L.Pairwise fun a b=>kl a.key b.key
def look(L:List Ha)(x:Int×Int):Option Int:=(L.find? fun a=>decide (a.key=x)).map (·.i)
theorem key_inj{L:List Ha}(h:bg L){a b:Ha}(ha:a∈L)(hb:b∈L)(e:a.key=b.key):a=b:=by
 induction L with
 |nil=>simp at ha
 |cons x L ih=>
  obtain⟨h1,h2⟩:=xw.1 h;rcases qG.1 ha with ha1|ha1
  ·rcases qG.1 hb with hb1|hb1
   ·rw[ha1,hb1]
   ·have:=h1 b hb1;rw[←ha1,e]at this;exact qZ this (tn _)
  ·rcases qG.1 hb with hb1|hb1
   ·have:=h1 a ha1;rw[←hb1,e]at this;exact qZ this (tn _)
   ·exact ih h2 ha1 hb1
theorem dc{L:List Ha}(h:bg L)(x:Int×Int)(i:Int):look L x=some i↔(⟨x.1,x.2,i⟩:Ha)∈L:=by
 unfold look;constructor
 ·intro e;obtain⟨a,ha,rfl⟩:=xG.1 e;have h1:=List.mem_of_find?_eq_some ha;have h2:=List.find?_some ha;simp only[qC]at h2;subst h2;exact h1
 ·intro hm
  cases hf:L.find? (fun a=>decide (a.key=x))with
  |none=>
   have:=List.find?_eq_none.1 hf _ hm
   simp[Ha.key]at this
  |some a=>
   have h1:=List.mem_of_find?_eq_some hf;have h2:=List.find?_some hf;simp only[qC]at h2;have:=key_inj h h1 hm (by rw[h2];rfl);rw[this];rfl
theorem kV{L:List Ha}(x:Int×Int):look L x=none↔ ∀a∈L,a.key≠x:=by
 unfold look;rw[Option.map_eq_none_iff,List.find?_eq_none];simp
theorem zT{L L':List Ha}(h:bg L)(h':bg L')(e: ∀a,a∈L↔a∈L'):L=L':=by
 induction L generalizing L' with
 |nil=>
  cases L' with
  |nil=>rfl
  |cons b L'=>exact qZ ((e b).2 qc) qc
 |cons a L ih=>
  cases L' with
  |nil=>exact qZ ((e a).1 qc) qc
  |cons b L'=>
   obtain⟨h1,h2⟩:=xw.1 h;obtain⟨h3,h4⟩:=xw.1 h'
   have oW:a=b:=by
    rcases qG.1 ((e a).1 qc)with rfl|ha
    ·rfl
    ·rcases qG.1 ((e b).2 qc)with rfl|hb
     ·rfl
     ·exact qZ (h3 a ha) (Nc (h1 b hb))
   subst oW
   congr 1
   refine ih h2 h4 fun x=>⟨fun hx=>?_,fun hx=>?_⟩
   ·rcases qG.1 ((e x).1 (by simp[hx]))with rfl|hx'
    ·exact qZ (h1 x hx) (tn _)
    ·exact hx'
   ·rcases qG.1 ((e x).2 (by simp[hx]))with rfl|hx'
    ·exact qZ (h3 x hx) (tn _)
    ·exact hx'
def low(L:List Ha)(x:Int×Int):List Ha:=L.takeWhile fun a=>decide (kl a.key x)
def high(L:List Ha)(x:Int×Int):List Ha:=L.dropWhile fun a=>decide (kl a.key x)
def ins(L:List Ha)(a:Ha):List Ha:=low L a.key++a::high L a.key
theorem jF(L:List Ha)(x:Int×Int):low L x++high L x=L:=List.takeWhile_append_dropWhile
theorem rE(L:List Ha)(a x:Ha):x∈ins L a↔x=a∨x∈L:=by
 have h:=jF L a.key
 have:x∈L↔x∈low L a.key∨x∈high L a.key:=by
  conv=>lhs;rw[←h]
  exact xa
 unfold ins;rw[xa,qG,this];constructor
 ·rintro(h|h|h)
  ·exact .inr (.inl h)
  ·exact .inl h
  ·exact .inr (.inr h)
 ·rintro(h|h|h)
  ·exact .inr (.inl h)
  ·exact .inl h
  ·exact .inr (.inr h)
theorem Bn{L:List Ha}{x:Int×Int}{a:Ha}(h:a∈low L x):kl a.key x:=by
 unfold low at h
 induction L with
 |nil=>simp at h
 |cons b L ih=>
  rw[List.takeWhile_cons]at h;split at h
  ·rename_i hb;rcases qG.1 h with rfl|h
   ·simpa using hb
   ·exact ih h
  ·simp at h
theorem vG{L:List Ha}(hL:bg L){x:Int×Int}{a:Ha}(h:a∈high L x): ¬kl a.key x:=by
 unfold high at h
 induction L with
 |nil=>simp at h
 |cons b L ih=>
  obtain⟨h1,h2⟩:=xw.1 hL;rw[List.dropWhile_cons]at h;split at h
  ·exact ih h2 h
  ·rename_i hb;simp only[qC]at hb;rcases qG.1 h with rfl|h
   ·exact hb
   ·exact fun hk=>hb (vO (h1 a h) hk)
theorem kW{L:List Ha}(h:bg L){a:Ha}(hn:look L a.key=none):bg (ins L a):=by
 have hlh:=jF L a.key;have hp:(low L a.key++high L a.key).Pairwise fun a b=>kl a.key b.key:=by rw[hlh];exact h
 obtain⟨h1,h2,h3⟩:=List.pairwise_append.1 hp
 have VV: ∀b∈high L a.key,kl a.key b.key:=fun b hb=>by
  have hbL:b∈L:=by rw[←hlh];exact List.mem_append_right _ hb
  rcases VZ a.key b.key with h|h|h
  ·exact h
  ·exact qZ h.symm ((kV _).1 hn b hbL)
  ·exact qZ h (vG ‹bg L› hb)
 refine List.pairwise_append.2 ⟨h1,xw.2 ⟨VV,h2⟩,fun b hb c hc=>?_⟩;rcases qG.1 hc with rfl|hc
 ·exact Bn hb
 ·exact h3 b hb c hc
theorem lJ{o o':Option Int}(h: ∀i,o=some i↔o'=some i):o=o':=by
 cases o with
 |none=>cases o' with
  |none=>rfl
  |some j=>exact qZ ((h j).2 rfl) qc
 |some i=>exact((h i).1 rfl).symm
theorem vH{L:List Ha}(h:bg L){a:Ha}(hn:look L a.key=none):look (ins L a)=fun z=>if z=a.key then some a.i else look L z:=by
 funext z;refine lJ fun i=>?_;rw[dc (kW h hn),rE];by_cases hz:z=a.key
 ·subst hz;rw[qH rfl];constructor
  ·rintro(e|e)
   ·rw[←e]
   ·exact qZ rfl ((kV _).1 hn ⟨a.c,a.n,i⟩ e)
  ·intro e;injection e with e
   subst e;exact .inl rfl
 ·rw[qB hz,dc h];constructor
  ·rintro(e|e)
   ·exact qZ (by rw[←e];rfl) hz
   ·exact e
  ·exact .inr
def del(L:List Ha)(x:Int×Int):List Ha:=L.filter fun a=> !decide (a.key=x)
theorem eD{L:List Ha}(h:bg L)(p:Ha→Bool):bg (L.filter p):=h.sublist List.filter_sublist
theorem um{L:List Ha}(h:bg L)(p:Ha→Bool)(z:Int×Int):look (L.filter p) z=(look L z).filter fun i=>p ⟨z.1,z.2,i⟩:=by
 refine lJ fun i=>?_;rw[dc (eD h p),List.mem_filter,Option.filter_eq_some_iff,dc h]
theorem vI{L:List Ha}(h:bg L)(x:Int×Int):look (del L x)=fun z=>if z=x then none else look L z:=by
 funext z;refine lJ fun i=>?_;unfold del;rw[dc (eD h _),List.mem_filter];have hk:(⟨z.1,z.2,i⟩:Ha).key=z:=rfl;rw[hk];by_cases hz:z=x
 ·rw[qH hz];simp[hz]
 ·rw[qB hz,dc h];simp[hz]
def count(L:List Ha)(c:Int):Nat:=L.countP fun a=>decide (a.c=c)
end cN
namespace PackW
open Go.RowKit
structure cH(B b:Nat)(l:List UInt8)(sp:Bool)(w:qo):Prop where
 base:B≤b
 ex: ∃p v,(p=qi none∨p=qi (some ⟨b,0,none⟩))∧w.heap[b]? =some (qn #[p,v,qk sp] 465 (0,0))∧w.ownsRow B 5 1 v l.length (Lib.byteCells l)∧v.ownBlock≠some b
theorem Nd:(prog.info? 5).map (fun i=>(i.zero,i.size,i.bytes))=some (some (.int .u8 0),1,1):=qd
theorem vP:(prog.info? 140).map (fun i=>i.size)=some 2:=qd
theorem XB:liesAt qx prog.depth 465 (3/ prog.cellsOf 465) 0 140 1=true:=qd
theorem pI(b:Nat)(w:qo)(h0:w.cell? ⟨b,0,none⟩=some (qi (some ⟨b,0,none⟩))):
 qw qx 76 #[qi (some ⟨b,0,none⟩)] w fun e J=>e=qm (qj #[])∧w=J:=by
 obtain⟨j,hj,_⟩:=xG.1 vP;go_enter func76,ntmps76;go_wp2
 rw[Lib.run_neq_ptr_same w _ underlying137 hj];go_wp2
 go_end0
 exact⟨rfl,rfl⟩
theorem mT(b:Nat)(w:qo)(h0:w.cell? ⟨b,0,none⟩=some (qi none))(SC:w.shape? b=some (465,3))(SD:w.frozen? ⟨b,0,none⟩=false):
 qw qx 76 #[qi (some ⟨b,0,none⟩)] w fun e J=>e=qm (qj #[])∧w.setCell ⟨b,0,none⟩ (qi (some ⟨b,0,none⟩))=J:=by
 obtain⟨j,hj,Wa⟩:=xG.1 vP;go_enter func76,ntmps76;go_wp2
 rw[Lib.run_to_unsafe w ⟨b,0,none⟩ underlying137 underlying226 hj (by rw[Wa];decide) SC (Nat.zero_lt_succ 2)];simp only[Result.andThen];rw[Oper.upon_value];go_wp2
 rw[run_callFunc_extern func120 qd qd qd (e:=Extern.AbiNoEscape.same) qd];rw[Lib.run_noEscape];simp only[Result.andThen];rw[Oper.upon_value];go_wp2
 rw[Lib.run_from_unsafe w ⟨b,0,none⟩ underlying226 underlying137 hj SC XB];simp only[Result.andThen];rw[Oper.upon_value];go_wp2
 go_end0
 exact⟨rfl,rfl⟩
theorem oc(B b:Nat)(l:List UInt8)(sp:Bool)(w:qo)(h:cH B b l sp w):
 qw qx 76 #[qi (some ⟨b,0,none⟩)] w fun e J=>e=qm (qj #[])∧
  (∃v,J.heap[b]? =some (qn #[qi (some ⟨b,0,none⟩),v,qk sp] 465 (0,0))∧J.ownsRow B 5 1 v l.length (Lib.byteCells l)∧v.ownBlock≠some b)∧Fr B b w J:=by
 obtain⟨hB,p,v,hp,eo,aT,bd⟩:=h;have c0:w.cell? ⟨b,0,none⟩=some p:=by rw[qI eo];rfl
 rcases hp with rfl|rfl
 ·have SC:w.shape? b=some (465,3):=by simp[World.shape?,eo]
  refine(mT b w c0 SC (xx eo 0)).mono ?_;rintro e J⟨rfl,rfl⟩;refine⟨rfl,⟨v,?_,?_,bd⟩,(Fr.refl B b w).setCell 0 hB _⟩
  ·rw[heap_setCell_same w b 0 _ _ _ eo];rfl
  ·exact ownsRow_setCell_other aT (a:=⟨b,0,none⟩) bd _
 ·refine(pI b w c0).mono ?_;rintro e J⟨rfl,rfl⟩;exact⟨rfl,⟨v,eo,aT,bd⟩,Fr.refl B b _⟩
theorem lM(l:List UInt8)(s:ByteArray):Lib.byteCells l++Lib.strCells s=Lib.byteCells (l++s.data.toList):=by
 simp[Lib.byteCells,Lib.strCells]
theorem iw(B b:Nat)(l:List UInt8)(sp:Bool)(s:ByteArray)(w:qo)(h:cH B b l sp w)(hlen:l.length+s.size≤140737488355328)(hBw:B≤w.heap.size):
 qw qx 49 #[qi (some ⟨b,0,none⟩),qg s] w fun e J=>e=qm (qj #[U Z s.size,.nilIface])∧cH B b (l++s.data.toList) sp J∧Fr B b w J:=by
 have hB:=h.base;obtain⟨i0,hi,hz0,hz1,hz2⟩:=info_parts Nd;go_enter func49,ntmps49;go_wp2_with(go_at_call 76;refine(oc B b l sp _ h).mono ?_)
 rintro e w1⟨rfl,⟨v,eo,aT,bd⟩,hb1⟩;have c0:w1.cell? ⟨b,0,none⟩=some (qi (some ⟨b,0,none⟩)):=by rw[qI eo];rfl
 have c1:w1.cell? ⟨b,1,none⟩=some v:=by rw[qI eo];rfl
 go_wp2_with(at_builtin;refine Lib.wpList_append_own_string _ rfl _ _ 138 9 rfl B 5 i0 underlying138 underlying9 hi hz0 hz1 hz2 _ _ _ rfl aT s rfl ?c3 ?c4 ?c5 ?_)
 case c3=>unfold maxLen;omega
 case c4=>omega
 case c5=>have:=hb1.size;omega
 intro v' w2 oY mU _;have aN:b<w1.heap.size:=qK eo
 have hb2:w2.heap[b]? =some (qn #[qi (some ⟨b,0,none⟩),v,qk sp] 465 (0,0)):=by
  rw[mU.block b aN (fun e=>bd e.symm)];exact eo
 have d1:w2.cell? ⟨b,1,none⟩=some v:=by rw[qI hb2];rfl
 have f1:w2.frozen? ⟨b,1,none⟩=false:=xx hb2 1
 obtain⟨ao,n',cap,rfl⟩: ∃ao n' cap,v'=qh ao n' cap:=by
  rcases oY.2 with⟨hv,_⟩|⟨g,cap,cur,hv,_⟩
  ·exact⟨_,_,_,hv⟩
  ·exact⟨_,_,_,hv⟩
 have zk:(Value.slice ao n' cap).ownBlock≠some b:=Lib.ownBlock_ne oY hb2 qa;go_wp2
 go_ret2
 refine⟨rfl,⟨hB,_,qh ao n' cap,.inr rfl,?_,?_,zk⟩,?_⟩
 ·rw[heap_setCell_same w2 b 1 _ _ _ hb2];rfl
 ·rw[←lM];have h3:=ownsRow_setCell_other oY (a:=⟨b,1,none⟩) zk (qh ao n' cap);simpa using h3
 ·exact(hb1.grown mU aT (by have:=hb1.size;omega)).setCell 1 hB _
theorem Hy(B b:Nat)(l:List UInt8)(sp:Bool)(w:qo)(h:cH B b l sp w):
 qw qx 332 #[qi (some ⟨b,0,none⟩)] w fun e J=>e=qm (U Z l.length)∧w=J:=by
 obtain⟨hB,p,v,hp,eo,aT,bd⟩:=h
 obtain⟨ao,cap,rfl⟩: ∃ao cap,v=qh ao l.length cap:=by
  rcases aT.2 with⟨hv,h0⟩|⟨g,cap,cur,hv,_⟩
  ·exact⟨none,0,by rw[hv,h0]⟩
  ·exact⟨_,_,hv⟩
 have c1:w.cell? ⟨b,1,none⟩=some (qh ao l.length cap):=by rw[qI eo];rfl
 clear hp eo aT bd;go_enter func332,ntmps332;go_wp2
 go_ret;exact⟨rfl,rfl⟩
theorem rJ(W:qo)(q:Option qt):(Builtin.unsafeString_ #[178,3] 9 #[qi q,U Z 0]).run qx W= .ok (qg .empty) W:=
 Lib.run_unsafeString_none W _ _ _ q
theorem mV(B b g cap:Nat)(p:qp)(sp:Bool)(l:List UInt8)(cur:Array qp)(w:qo)(h0:l≠[])(eo:w.heap[b]? =some (qn #[p,qh (some ⟨g,0,none⟩) l.length cap,qk sp] 465 (0,0)))
 (Wb:B≤g) (hg:w.heap[g]? =some (qn cur 5 (0,0))) (XC:l.length≤cap) (Bq:cap≤maxLen) (ff:cur.size=cap) (aT:w.ownsRow B 5 1 (qh (some ⟨g,0,none⟩) l.length cap) l.length (Lib.byteCells l)):
 qw qx 47 #[qi (some ⟨b,0,none⟩)] w fun e J=>e=qm (qg ⟨l.toArray⟩)∧Fr B b w J:=by
 have hl0:l.length≠0:=by simpa using h0
 have c1:w.drew.cell? ⟨b,1,none⟩=some (qh (some ⟨g,0,none⟩) l.length cap):=by
  have:w.drew.heap[b]? =some (qn #[p,qh (some ⟨g,0,none⟩) l.length cap,qk sp] 465 (0,0)):=eo;rw[qI this];rfl
 have hSD:(Builtin.unsafeSliceData_ #[138] 178 #[qh (some ⟨g,0,none⟩) l.length cap]).run qx w.drew= .ok (qi (some ⟨g,0,none⟩)) w.drew:=
  Lib.run_unsafeSliceData_row _ _ _ _ _ _ Y
 have hUS:(Builtin.unsafeString_ #[178,3] 9 #[qi (some ⟨g,0,none⟩),U Z l.length]).run qx w.drew= .ok (qg ⟨l.toArray⟩) (w.drew.freeze ⟨g,0,none⟩ l.length):=by
  refine Lib.run_unsafeString_row w.drew 178 3 9 5 underlying178 qd g cur.size (by have hg':w.drew.heap[g]? =some (qn cur 5 (0,0)):=hg;simp[World.shape?,hg']) l h0 Y (by unfold maxLen at Bq;omega) ?_;intro j x hx;exact aT.cells (g:=g) rfl j (.int .u8 x.toNat) (by simp[Lib.byteCells,hx])
 have HG:=Hd hg;clear eo hg aT;go_enter func47,ntmps47;go_wp2
 go_region
 all_goals (go_wp2;go_ret;exact⟨rfl,((Fr.refl B b w).drew).freeze (w:=w.drew) HG.o Wb⟩)
theorem FB(B b:Nat)(p:qp)(sp:Bool)(w:qo)(eo:w.heap[b]? =some (qn #[p,qh none 0 0,qk sp] 465 (0,0))):
 qw qx 47 #[qi (some ⟨b,0,none⟩)] w fun e J=>e=qm (qg ⟨#[]⟩)∧Fr B b w J:=by
 have hUS:=rJ
 have c1:w.drew.cell? ⟨b,1,none⟩=some (qh none 0 0):=by
  have:w.drew.heap[b]? =some (qn #[p,qh none 0 0,qk sp] 465 (0,0)):=eo;rw[qI this];rfl
 have hSD:(Builtin.unsafeSliceData_ #[138] 178 #[qh none 0 0]).run qx w.drew= .ok (qi none) w.drew:=rfl;clear eo;go_enter func47,ntmps47;go_wp2
 go_region
 all_goals (go_wp2;go_ret;exact⟨rfl,(Fr.refl B b w).drew⟩)
theorem zl(B b g:Nat)(p:qp)(sp:Bool)(cur:Array qp)(w:qo)(hBw:B≤w.heap.size)(eo:w.heap[b]? =some (qn #[p,qh (some ⟨g,0,none⟩) 0 0,qk sp] 465 (0,0)))(hg:w.heap[g]? =some (qn cur 5 (0,0))):
 qw qx 47 #[qi (some ⟨b,0,none⟩)] w fun e J=>e=qm (qg ⟨#[]⟩)∧Fr B b w J:=by
 have hUS:=rJ;have aN:b<w.heap.size:=qK eo
 have c1:w.drew.cell? ⟨b,1,none⟩=some (qh (some ⟨g,0,none⟩) 0 0):=by
  have:w.drew.heap[b]? =some (qn #[p,qh (some ⟨g,0,none⟩) 0 0,qk sp] 465 (0,0)):=eo;rw[qI this];rfl
 have hSD:(Builtin.unsafeSliceData_ #[138] 178 #[qh (some ⟨g,0,none⟩) 0 0]).run qx w.drew= .ok (qi (some ⟨w.drew.heap.size,0,none⟩)) (w.drew.alloc (.view ⟨g,0,none⟩ 5)):=
  Lib.run_unsafeSliceData_zero w.drew _ _ 5 underlying178 ⟨g,0,none⟩ 0 (5,cur.size) (by have hg':w.drew.heap[g]? =some (qn cur 5 (0,0)):=hg;simp[World.shape?,hg'])
 have c2:(w.drew.alloc (.view ⟨g,0,none⟩ 5)).cell? ⟨b,1,none⟩=some (qh (some ⟨g,0,none⟩) 0 0):=by
  have:(w.drew.alloc (.view ⟨g,0,none⟩ 5)).heap[b]? =_:=(Lib.alloc_old w.drew _ b aN).trans eo;rw[qI this];rfl
 have c3:(w.alloc (.view ⟨g,0,none⟩ 5)).drew.cell? ⟨b,1,none⟩=some (qh (some ⟨g,0,none⟩) 0 0):=c2;have c0:w.cell? ⟨b,1,none⟩=some (qh (some ⟨g,0,none⟩) 0 0):=c1;clear eo hg;go_enter func47,ntmps47;go_wp2
 go_region
 all_goals (go_wp2;go_ret;exact⟨rfl,((Fr.refl B b w).drew).alloc hBw _⟩)
theorem CM(B b g cap:Nat)(p:qp)(sp:Bool)(w:qo)(hc0:cap≠0)(eo:w.heap[b]? =some (qn #[p,qh (some ⟨g,0,none⟩) 0 cap,qk sp] 465 (0,0))):
 qw qx 47 #[qi (some ⟨b,0,none⟩)] w fun e J=>e=qm (qg ⟨#[]⟩)∧Fr B b w J:=by
 have hUS:=rJ
 have c1:w.drew.cell? ⟨b,1,none⟩=some (qh (some ⟨g,0,none⟩) 0 cap):=by
  have:w.drew.heap[b]? =some (qn #[p,qh (some ⟨g,0,none⟩) 0 cap,qk sp] 465 (0,0)):=eo;rw[qI this];rfl
 have hSD:(Builtin.unsafeSliceData_ #[138] 178 #[qh (some ⟨g,0,none⟩) 0 cap]).run qx w.drew= .ok (qi (some ⟨g,0,none⟩)) w.drew:=
  Lib.run_unsafeSliceData_row _ _ _ _ _ _ hc0
 clear hc0 eo;go_enter func47,ntmps47;go_wp2
 go_region
 all_goals (go_wp2;go_ret;exact⟨rfl,(Fr.refl B b w).drew⟩)
theorem FC(B b:Nat)(l:List UInt8)(sp:Bool)(w:qo)(h:cH B b l sp w)(hBw:B≤w.heap.size):
 qw qx 47 #[qi (some ⟨b,0,none⟩)] w fun e J=>e=qm (qg ⟨l.toArray⟩)∧Fr B b w J:=by
 obtain⟨hB,p,v,hp,eo,aT,bd⟩:=h
 cases l with
 |nil=>
  rcases aT.2 with⟨rfl,_⟩|⟨g,cap,cur,rfl,Wb,hg,_,_,_,_⟩
  ·exact FB B b p sp w eo
  ·by_cases hc0:cap=0
   ·subst hc0;exact zl B b g p sp cur w hBw eo hg
   ·exact CM B b g cap p sp w hc0 eo
 |cons x r=>
  rcases aT.2 with⟨_,hz⟩|⟨g,cap,cur,rfl,Wb,hg,XC,Bq,ff,_⟩
  ·simp at hz
  ·exact mV B b g cap p sp (x::r) cur w qc eo Wb hg XC Bq (by simpa using ff) aT
end PackW
namespace ShiftP
def eK(v size:Nat):List UInt8:=(List.range size).map fun i=>UInt8.ofNat (v/ 2^(8*(size-1-i)))
theorem cO(v n:Nat):(eK v n).length=n:=by simp[eK]
theorem vQ(v n i:Nat)(h:i<n):(eK v n)[i]? =some (UInt8.ofNat (v/ 2^(8*(n-1-i)))):=by simp[eK,h]
theorem zZ(v n:Nat):eK v (n+1)=eK (v/ 256) n++[UInt8.ofNat v]:=by
 apply List.ext_getElem?;intro i;by_cases h:i<n
 ·rw[vQ _ _ _ Y,xD (by rw[cO];exact h),vQ _ _ _ h];have:n+1-1-i=(n-1-i)+1:=Y;rw[this,Nat.mul_succ,Nat.pow_add,Nat.mul_comm,←Nat.div_div_eq_div_mul]
 ·by_cases h2:i=n
  ·subst h2;rw[vQ _ _ _ Y,List.getElem?_append_right (by rw[cO];omega),cO];simp
  ·rw[List.getElem?_eq_none (by rw[cO];omega),List.getElem?_eq_none (by simp[cO];omega)]
def ef(l:List UInt8):Nat:=l.foldl (fun a c=>a*256+c.toNat) 0
theorem tp(l:List UInt8)(c:UInt8):ef (l++[c])=ef l*256+c.toNat:=by simp[ef]
theorem Nf(l:List UInt8)(a:Nat):l.foldl (fun a c=>a*256+c.toNat) a<(a+1)*256^l.length:=by
 induction l generalizing a with
 |nil=>simp
 |cons c l ih=>
  rw[List.foldl_cons,xf,Nat.pow_succ];have h:=ih (a*256+c.toNat);have hc:=c.toNat_lt;have h2:(a*256+c.toNat+1)*256^l.length≤((a+1)*256)*256^l.length:=Nat.mul_le_mul_right _ Y;rw[Nat.mul_comm (256^l.length),←Nat.mul_assoc];omega
theorem rK(l:List UInt8):ef l<256^l.length:=by
 have:=Nf l 0;simpa [ef]using this
theorem Aa(v n:Nat):ef (eK v n)=v%256^n:=by
 induction n generalizing v with
 |zero=>simp[eK,ef,Nat.mod_one]
 |succ n ih=>
  rw[zZ,tp,ih,Nat.pow_succ,Nat.mul_comm (256^n),Nat.mod_mul];simp;omega
end ShiftP
namespace TopW
def afY(P:qv)(l:Nat)(rest:Code)(Q:Exit→Act→qo→Prop):Exit→Act→qo→Prop
 | .goto l',a,w=>l'=l∧rest.wp P (Exit.noGoto Q) a w
 |e,a,w=>Q e a w
theorem lN{P:qv}{a:Act}{w:qo}{Q:Exit→Act→qo→Prop}{c rest:Code}(l:Nat)(hf:findLabel c l=some rest)
 (h:c.wp P (afY P l rest Q) a w):(Code.scope c).wp P Q a w:=by
 refine wp_scope_jumps l (fun a w=>rest.wp P (Exit.noGoto Q) a w) (fun _ _=>0) hf (wp_mono h ?_) ?_
 ·intro e a w hq;cases e<;>exact hq
 ·intro a w hJ;refine wp_mono hJ ?_;intro e a w hq;cases e
  case goto=>exact False.elim hq
  all_goals exact hq
