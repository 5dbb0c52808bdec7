/- Part 8 of the texts that the law's walk needs. -/
import Derived.Test.YtimabpfjjpjfjaaGreatDoorM00
import Derived.Shelf.GgSortFunc.InsertionK
set_option maxHeartbeats 3200000
set_option maxRecDepth 100000
set_option linter.all false
open Go renaming Value→qp
open Go.Value renaming slice→qh
open Go.Value (int)
open Go.IntKind (i64)
namespace Go.Proofs.YtimabpfjjpjfjaaGreatDoor
open Tryz
section
open Go.RowKit Go.Sort Go.Shelf
section
variable{α:Type}{enc:α→List qp}{k:Nat}{T:TypeId}
theorem Di(hk: ∀x,(enc x).length=k): ∀l:List α,(l.flatMap enc).length=l.length*k
 |[]=>by simp
 |x::l=>by rw[qU,qY,Di hk l,hk,xf,Nat.add_mul];omega
theorem flat_get(hk: ∀x,(enc x).length=k)(k0:0<k): ∀(l:List α) (t:Nat),(l.flatMap enc)[t]? =(l[t/ k]?).bind fun x=>(enc x)[t%k]?
 |[],t=>by simp
 |x::l,t=>by
  rw[qU];by_cases h:t<k
  ·rw[xD (by rw[hk];exact h),Nat.div_eq_of_lt h,Nat.mod_eq_of_lt h];simp
  ·rw[List.getElem?_append_right (by rw[hk];omega),hk,flat_get hk k0 l (t-k)]
   have h1:t/ k=(t-k)/ k+1:=by
    conv=>lhs;rw[show t=(t-k)+k by omega]
    rw[Nat.add_div_right _ k0]
   have h2:t%k=(t-k)%k:=by
    conv=>lhs;rw[show t=(t-k)+k by omega]
    rw[Nat.add_mod_right]
   rw[h1,h2];simp
def RowK(T:TypeId)(enc:α→List qp)(k B:Nat)(w:World)(v:qp)(l:List α):Prop:=w.ownsRow B T k v l.length (l.flatMap enc)
variable{B:Nat}{w:World}{v:qp}{l:List α}
theorem RowK.nil(B:Nat)(w:World):RowK T enc k B w (qh none 0 0) ([]:List α):=World.ownsRow_nil _ _ _ _
theorem RowK.form(h:RowK T enc k B w v l): ∃oa cap,v=qh oa l.length cap∧l.length≤cap∧cap≤maxLen∧(oa=none→l.length=0∧cap=0):=by
 rcases h.2 with⟨rfl,h0⟩|⟨g,cap,cur,rfl,_,_,h1,h2,_⟩
 ·exact⟨none,0,by rw[h0],Y,qc,fun _=>⟨h0,rfl⟩⟩
 ·exact⟨_,_,rfl,h1,h2,fun e=>by cases e⟩
theorem RowK.grow{J:World}(h:RowK T enc k B w v l)(hb:Below w.heap.size w J):RowK T enc k B J v l:=
 World.ownsRow.kept h (row:=none) ⟨hb.os,hb.tape,hb.output,hb.size,fun k hk _=>hb.block k hk⟩ (by
  cases hv:v.ownBlock with
  |none=>exact .inl rfl
  |some k=>exact .inr qc)
theorem RowK.mono{C:Nat}(h:RowK T enc k B w v l)(hb:C≤B):RowK T enc k C w v l:=by
 refine⟨h.1,?_⟩;rcases h.2 with h2|⟨g,cap,cur,h1,h2,h3⟩
 ·exact .inl h2
 ·exact .inr ⟨g,cap,cur,h1,qM hb h2,h3⟩
theorem RowK.snoc{oa:Option Addr}{n cap:Nat}{cs:Array qp}(x:α)(hx:cs.toList=enc x)(hn:n=l.length)(h:w.ownsRow B T k (qh oa (n+1) cap) (n+1) (l.flatMap enc++cs.toList)):RowK T enc k B w (qh oa (n+1) cap) (l++[x]):=by
 subst hn;unfold RowK;rw[qY,xy,List.flatMap_singleton,←hx];exact h
theorem RowK.at{oa:Option Addr}{n cap:Nat}(hk: ∀x,(enc x).length=k)(k0:0<k)(h:RowK T enc k B w (qh oa n cap) l){i:Nat}{x:α}(hx:l[i]? =some x):
 ∃g,oa=some ⟨g,0,none⟩∧B≤g∧g<w.heap.size∧ ∀(j:Nat) (u:qp),(enc x)[j]? =some u→w.cell? ⟨g,i*k+j,none⟩=some u:=by
 have hi:i<l.length:=(xb.1 hx).1;rcases h.2 with⟨e,h0⟩|⟨g,cap',cur,e,h1,h2,h3,h4,h5,h6⟩
 ·omega
 ·simp only[Value.slice.injEq]at e;obtain⟨rfl,rfl,rfl⟩:=e;refine⟨g,rfl,h1,qK h2,fun j u hj=>?_⟩;have JY:j<k:=by have:=(xb.1 hj).1;rwa [hk]at this
  have aN:i*k+j<l.length*k:=xH (Nat.add_lt_add_left JY _) (by rw[←Nat.succ_mul];exact Nat.mul_le_mul_right _ hi)
  have e1:(l.flatMap enc)[i*k+j]? =some u:=by
   rw[flat_get hk k0,Nat.mul_comm i k,Nat.mul_add_div k0,Nat.div_eq_of_lt JY,Nat.add_zero,Nat.mul_add_mod,Nat.mod_eq_of_lt JY,hx];exact hj
  rw[←h6,List.getElem?_take,qH aN]at e1;rw[qI h2];simpa using e1
variable [Inhabited α]
theorem wF(hk: ∀x,(enc x).length=k)(k0:0<k)(d:Array α):(flatK enc k d).toList=d.toList.flatMap enc:=by
 apply List.ext_getElem?;intro t;rw[flat_get hk k0];by_cases h:t<d.size*k
 ·have hd:t/ k<d.size:=Nat.div_lt_of_lt_mul (by rwa [Nat.mul_comm]);have hm:t%k<k:=Nat.mod_lt _ k0
  have h1:(flatK enc k d).toList[t]? =some (flatK enc k d)[t]! :=by
   rw[Array.getElem?_toList,getElem!_pos _ t (by rw[size_flatK];exact h),Array.getElem?_eq_getElem (by rw[size_flatK];exact h)]
  rw[h1,get_flatK enc k d t h,Array.getElem?_toList,Array.getElem?_eq_getElem hd,getElem!_pos d _ hd];simp only[Option.bind_some];rw[qN (by rw[hk];exact hm),getElem!_pos _ _ (by rw[hk];exact hm)]
 ·rw[List.getElem?_eq_none (by simp only[Array.length_toList,size_flatK];omega),List.getElem?_eq_none (by
   simp only[Array.length_toList];exact(Nat.le_div_iff_mul_le k0).2 Y)]
  rfl
theorem RowK.holds{g n cap:Nat}(hk: ∀x,(enc x).length=k)(k0:0<k)(h:RowK T enc k B w (qh (some ⟨g,0,none⟩) n cap) l):HoldsK enc k w g 0 l.toArray:=by
 intro j hj;rw[size_flatK]at hj;have hj':j<l.length*k:=by simpa using hj
 rcases h.2 with⟨e,h0⟩|⟨g',cap',cur,e,h1,h2,h3,h4,h5,h6⟩
 ·cases e
 ·simp only[Value.slice.injEq,Option.some.injEq,Addr.mk.injEq,and_true]at e;obtain⟨rfl,hn,rfl⟩:=e;have hq:(flatK enc k l.toArray).toList=l.flatMap enc:=by simpa using wF hk k0 l.toArray
  have e1:(l.flatMap enc)[j]? =some (flatK enc k l.toArray)[j]! :=by
   rw[←hq,Array.getElem?_toList,getElem!_pos _ j (by rw[size_flatK];simpa using hj'),Array.getElem?_eq_getElem (by rw[size_flatK];simpa using hj')]
  rw[←h6,List.getElem?_take,qH hj']at e1;refine⟨?_,xx h2 _⟩;rw[qI h2,Nat.zero_add];simpa using e1
theorem RowK.sorted{g n cap m:Nat}{os:Array Obj}{d:Array α}(hk: ∀x,(enc x).length=k)(k0:0<k)(h:RowK T enc k B w (qh (some ⟨g,0,none⟩) n cap) l)(hd:d.size=l.length):
 RowK T enc k B (sortWorldK enc k w g 0 m d os) (qh (some ⟨g,0,none⟩) n cap) d.toList∧ax g w (sortWorldK enc k w g 0 m d os):=by
 rcases h.2 with⟨e,h0⟩|⟨g',cap',cur,e,h1,h2,h3,h4,h5,h6⟩
 ·cases e
 ·simp only[Value.slice.injEq,Option.some.injEq,Addr.mk.injEq,and_true]at e;obtain⟨rfl,hn,rfl⟩:=e;have aN:=qK h2;have hq:=wF hk k0 d;refine⟨⟨by rw[Di hk],.inr ⟨g,cap,putCells id 0 (flatK enc k d) cur,by rw[hn,Array.length_toList];simp[hd],h1,?_,by rw[Array.length_toList,hd];exact h3,h4,by simp[putCells,h5],?_⟩⟩,?_⟩
  ·unfold sortWorldK putRowK Sort.grow;show((putRow id (Sort.ahead w m) g 0 (flatK enc k d)).heap++os)[g]? =_;rw[Array.getElem?_append_left (by simpa using aN)];simp[putRow,mapBlock,onCells,Sort.ahead,Array.getElem?_modify,h2]
  ·rw[←hq]
   have hs:(flatK enc k d).size≤cur.size:=by
    rw[size_flatK,h5,hd];exact Nat.mul_le_mul_right _ h3
   apply List.ext_getElem?;intro j;by_cases hj:j<d.toList.length*k
   ·rw[List.getElem?_take,qH hj,Array.getElem?_toList,Array.getElem?_toList];have hj2:j<(flatK enc k d).size:=by rw[size_flatK];simpa using hj
    have hjd:j<d.size*k:=by simpa using hj
    simp[putCells,hjd,show j<cur.size by omega]
   ·rw[List.getElem?_take,qB hj,List.getElem?_eq_none];simp only[Array.length_toList,size_flatK];simpa using hj
  ·refine⟨rfl,rfl,rfl,?_,fun i hi bd=>?_⟩
   ·simp[sortWorldK,putRowK]
   ·have:g≠i:=fun e=>bd (by rw[e]);unfold sortWorldK putRowK Sort.grow;show((putRow id (Sort.ahead w m) g 0 (flatK enc k d)).heap++os)[i]? =_;rw[Array.getElem?_append_left (by simpa using hi)];simp[putRow,mapBlock,Sort.ahead,Array.getElem?_modify,this]
