/- Part 10 of the texts that the law's walk needs. -/
import Derived.Test.YtimabpfjjpjfjaaGreatDoorM05
import Derived.Test.YtimabpfjjpjfjaaGreatDoorM08
set_option maxHeartbeats 3200000
set_option maxRecDepth 100000
set_option linter.all false
open Go renaming Addr→qt,World→qo
open Go.Value (int)
open Go.IntKind (i64)
namespace Go.Proofs.YtimabpfjjpjfjaaGreatDoor
open Tryz
section
open Go.RowKit
def rX(p:qt):Nat→qt
 |0=>p
 |j+1=>⟨p.block,p.off+(j+1),none⟩
theorem po(p:qt)(j:Nat):(rX p j).block=p.block:=by cases j<;>rfl
theorem Dj(a:qt)(i j:Nat):a.add (i+j)=rX (a.add i) j:=by
 cases j with
 |zero=>rfl
 |succ j=>exact ow a i j
section
variable{α:Type}{enc:α→List Value}{k:Nat}{T:TypeId}
def uX(enc:α→List Value)(k B:Nat)(oa:Option qt)(l:List α)(w:qo):Prop:=
 ∀i x,l[i]? =some x→ ∃a,oa=some a∧a.block<B∧ ∀j u,(enc x)[j]? =some u→w.cell? (rX (a.add (i*k)) j)=some u
theorem uX.below{B:Nat}{oa:Option qt}{l:List α}{w J:qo}(h:uX enc k B oa l w)(hb:Below B w J):uX enc k B oa l J:=by
 intro i x hx;obtain⟨a,h1,h2,h3⟩:=h i x hx;refine⟨a,h1,h2,fun j u hj=>?_⟩;rw[←h3 j u hj];exact hb.cell (by rw[po,bA];exact h2)
theorem uX.mono{B C:Nat}{oa:Option qt}{l:List α}{w:qo}(h:uX enc k B oa l w)(hb:B≤C):uX enc k C oa l w:=by
 intro i x hx;obtain⟨a,h1,h2,h3⟩:=h i x hx;exact⟨a,h1,xH h2 hb,h3⟩
theorem uX.grow{oa:Option qt}{l:List α}{w J:qo}(h:uX enc k w.heap.size oa l w)(hb:Below w.heap.size w J):uX enc k J.heap.size oa l J:=(h.below hb).mono hb.size
theorem uX.nil(B:Nat)(oa:Option qt)(w:qo):uX enc k B oa ([]:List α) w:=fun i x hx=>by simp at hx
theorem uX.take{B:Nat}{oa:Option qt}{l:List α}{w:qo}(h:uX enc k B oa l w)(n:Nat):uX enc k B oa (l.take n) w:=fun i x hx=>by
 rw[List.getElem?_take]at hx;split at hx
 ·exact h i x hx
 ·cases hx
theorem uX.only{B c:Nat}{oa:Option qt}{l:List α}{w J:qo}(h:uX enc k B oa l w)(ho:ax c w J)(hB:B≤w.heap.size)(bd: ∀a,oa=some a→a.block≠c):uX enc k B oa l J:=by
 intro i x hx;obtain⟨a,h1,h2,h3⟩:=h i x hx;refine⟨a,h1,h2,fun j u hj=>?_⟩;have hb:J.heap[a.block]? =w.heap[a.block]? :=ho.block _ Y (fun e=>bd a h1 (by injection e));rw[←h3 j u hj];unfold World.cell?;rw[po,bA,hb]
theorem RowK.sU{B:Nat}{w:qo}{oa:Option qt}{n cap:Nat}{l:List α}(hk: ∀x,(enc x).length=k)(k0:0<k)(h:RowK T enc k B w (.slice oa n cap) l):uX enc k w.heap.size oa l w:=by
 intro i x hx;obtain⟨g,rfl,hB,hg,hc⟩:=h.at hk k0 hx;refine⟨_,rfl,hg,fun j u hj=>?_⟩;have:=hc j u hj
 have e:rX ((⟨g,0,none⟩:qt).add (i*k)) j=⟨g,i*k+j,none⟩:=by
  rw[←Dj];unfold Addr.add;split<;>simp_all
 rw[e];exact this
