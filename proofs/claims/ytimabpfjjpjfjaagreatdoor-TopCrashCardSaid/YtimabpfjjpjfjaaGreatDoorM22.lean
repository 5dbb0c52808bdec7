/- Part 22 of the texts that the law's walk needs. -/
import Derived.Test.YtimabpfjjpjfjaaGreatDoorM08
import Derived.Shelf.SlSortCmp.WholeK
import Derived.Shelf.SlSortCmp.NoneTotal
set_option maxHeartbeats 3200000
set_option maxRecDepth 100000
set_option linter.all false
open Go.Value (int)
open Go.IntKind (i64)
namespace Go.Proofs.YtimabpfjjpjfjaaGreatDoor
open Tryz
section
open Go.RowKit Go.Shelf Go.Lib Go.Sort
section
variable{P:Program}{ρ:Ren}{α κ:Type} [Inhabited α]{key:α→κ}{kl:κ→κ→Prop}
theorem yt{lt:α→α→Bool}{d d':Array α}(hp:PermIn 0 d.size d d')(hs:SortedIn lt 0 d.size d'):d'.toList.Perm d.toList∧d'.toList.Pairwise fun a b=>lt b a=false:=by
 obtain⟨h1,_,h3⟩:=hp;refine⟨?_,List.pairwise_iff_getElem.2 fun i j hi hj hij=>?_⟩
 ·have e1:d'.extract 0 d.size=d':=by rw[←h1];simp
  rw[e1]at h3;simpa using h3
 ·have hj':j<d'.size:=by simpa using hj
  have hi':i<d'.size:=Y;have:=hs i j (Nat.zero_le _) hij Y;rw[getElem!_pos d' j hj',getElem!_pos d' i hi']at this;simpa using this
theorem PO(LL:SlLaysF0.n6 P ρ)(T:TypeId)(k:Nat)(k0:0<k)(aE: ∀w,(isAgg (ρ.t 24)).run P w= .ok true w)(zE: ∀w,(Go.sizeOf (ρ.t 24)).run P w= .ok k w)
 (enc:α→List Value) (hk: ∀x,(enc x).length=k) (h1: ∀x,∀v∈enc x,v.oneCell'=true) (cf:α→α→Int) (hO:SWO (ltOf cf)) (g:Nat)
 (eg: ∀args w,(callFunc g args).run P w= .ok (.enter g args) w)
 (YT: ∀x y W,Calls P g #[.agg (enc x).toArray,.agg (enc y).toArray] W fun e J=>e= .returned (int i64 (cf x y))∧ ∃q os',J=grow (W.drewN q) os')
 (H:Sl.Fy kl) (aN: ∀a b,ltOf cf a b=true↔kl (key a) (key b)) {L Jq:List α} (hL:Sl.bg key kl L) (hn:Jq.Nodup) (hm: ∀a,a∈Jq↔a∈L) (B:Nat) (v:Value) (w:World) (hB:B≤w.heap.size) (hr:RowK T enc k B w v Jq) (hlen:Jq.length<4611686018427387904):
 Calls P (ρ.f 6) #[v,.func (.func g) #[] #[]] w fun e J=>e= .returned (.tuple #[])∧RowK T enc k B J v L∧Below B w J:=by
 obtain⟨oa,cap,rfl,hc,hc2,iL⟩:=hr.form;by_cases h0:Jq.length=0
 ·have hJ:Jq=[]:=xe h0
  have hLe:L=[]:=by
   cases L with
   |nil=>rfl
   |cons a L=>have:=(hm a).2 qc;rw[hJ]at this;simp at this
  rw[h0];refine(AnyF.slices_SortFunc_none LL oa cap _ w).mono ?_;rintro e J⟨rfl,rfl⟩;refine⟨rfl,?_,Below.refl _ _⟩;rw[hJ]at hr;rw[hLe];exact hr
 ·cases oa with
  |none=>exact qZ (iL rfl).1 h0
  |some a=>
   have IG: ∃gb,a=⟨gb,0,none⟩∧gb<w.heap.size∧B≤gb:=by
    rcases hr.2 with⟨e,_⟩|⟨gb,cap',cur,e,hb1,hb2,_⟩
    ·cases e
    ·simp only[Value.slice.injEq,Option.some.injEq]at e;exact⟨gb,e.1,qK hb2,hb1⟩
   obtain⟨gb,rfl,CB,hBg⟩:=IG;have hH:=hr.holds hk k0;have dY:Jq.toArray.size=Jq.length:=qc;have acU:=AnyQ.slices_SortFunc LL k aE zE enc hk h1 cf hO g #[] gb 0 cap Jq.toArray w eg (fun m os dk _ x y=>by simpa using YT x y _) hH CB (by rw[dY];exact hlen);rw[dY]at acU;refine acU.mono ?_;rintro e J⟨rfl,d',n,os,hp,hs,rfl⟩;rw[←dY]at hp hs;obtain⟨q1,q2⟩:=yt hp hs
   have hd:d'.toList=L:=by
    refine Sl.JN H hL (q1.nodup_iff.2 (by simpa using hn)) (fun x=>by rw[q1.mem_iff];simpa using hm x) ?_;refine List.Pairwise.imp (fun{x y} h=>?_) q2;rw[←aN,h];simp
   have hd2:d'.size=Jq.length:=by
    have:=q1.length_eq;simpa using this
   obtain⟨r1,r2⟩:=hr.sorted (os:=os) (m:=n) hk k0 hd2;rw[hd]at r1;have hLJ:Jq.length=L.length:=by rw[←hd];simp[hd2]
   exact⟨rfl,r1,r2.below hBg hB⟩
