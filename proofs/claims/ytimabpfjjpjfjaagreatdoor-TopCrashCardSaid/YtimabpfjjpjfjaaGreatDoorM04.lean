/- Part 4 of the texts that the law's walk needs. -/
import Derived.Test.YtimabpfjjpjfjaaGreatDoorM03
import Derived.WideKeyEntry
set_option maxHeartbeats 3200000
set_option maxRecDepth 100000
set_option linter.all false
open Go renaming World→qo
open Go.Value (int)
open Go.IntKind (i64)
namespace Go.Proofs.YtimabpfjjpjfjaaGreatDoor
open Tryz
section
open Go.RowKit Go.MapKept Go.WideShapes Go.ChangeMaps
open Go.Maps (Keyed)
open Go.WideElems (Fit)
open Go.WideMaps (KeyLaw)
section
variable{κ β:Type}{mk:κ→Value}{ok:κ→Prop}{mv:β→Value}{P:Program}{k t e:TypeId}
theorem an.fit{w:qo}{b n:Nat}{g:κ→Option β}(h:an mk ok mv w b n g)(M:MK P k mk ok)(hn:n≤maxLen):
 ∃es clock,w.heap[b]? =some (.map es clock)∧es.size≤n∧Stamped es clock∧mX mk ok mv es g∧Fit P k (fun _=>some ((.nil:DataW Unit),([]:List MemPlace))) es clock:=by
 obtain⟨es,clock,hb,hs,S,E⟩:=h;refine⟨es,clock,hb,hs,S,E,⟨qM hs hn,S,fun x hx=>?_⟩⟩;obtain⟨l,hl⟩:=E.keys M x hx;exact⟨(l,.nil),by unfold Go.WideElems.rd;rw[hl];rfl⟩
theorem an.entry [DecidableEq κ]{w:qo}{b n:Nat}{g:κ→Option β}(h:an mk ok mv w b n g)(M:MK P k mk ok)(KL:KeyLaw P k)(ht:P.underlying t=some (.map k e))(y0:β)(hz: ∀u:qo,(zeroValue e).run P u= .ok (mv y0) u)(hn:n<maxLen)(x:κ)(bI:ok x):
 ∃(st:Nat) (w1:qo),(Instr.mapEntry t (.map (some b)) (mk x)).run P w= .ok (.tuple #[mv ((g x).getD y0),goInt st]) w1∧an mk ok mv w1 b (n+1) (fun q=>if q=x then some ((g x).getD y0)else g q)∧ax b w w1∧w1.heap.size=w.heap.size∧
  ∀(w2:qo) (y:β),w2.heap[b]? =w1.heap[b]? → ∃w3,(Instr.entryStore t (.map (some b)) (goInt st) (mv y)).run P w2= .ok () w3∧an mk ok mv w3 b (n+1) (fun q=>if q=x then some y else g q)∧ax b w2 w3∧w3.heap.size=w2.heap.size:=by
 have h0:=h;obtain⟨es,clock,hb,hs,S,E,F⟩:=h.fit M Y;obtain⟨l,hl⟩:=M.key x bI;obtain⟨v0,st,es1,clock1,hE,_,hS⟩:=Go.WideElems.entry_then_store KL ht hz hb F hl
 have sT: ∀(w2:qo) (y:β),w2.heap[b]? =(setBlock w b (.map es1 clock1)).heap[b]? → ∃w3,(Instr.entryStore t (.map (some b)) (goInt st) (mv y)).run P w2= .ok () w3∧an mk ok mv w3 b (n+1) (fun q=>if q=x then some y else g q)∧ax b w2 w3∧w3.heap.size=w2.heap.size:=by
  intro w2 y hw2;rw[heap_setBlock_same hb]at hw2;obtain⟨es',clock',r1,r2⟩:=hS w2 (mv y) hw2;obtain⟨J,q1,q2,_,_⟩:=an.store h0 M ht x y bI;rw[r2]at q1;injection q1 with _ q1
  refine⟨_,r1,?_,bH _ _ _,by simp[setBlock]⟩;refine q2.of_block ?_;rw[←q1,heap_setBlock_same hw2,heap_setBlock_same hb]
 rcases tr M E w bI with⟨h1,h2,h3⟩|⟨j,e0,y,h1,h2,h3,h4,h5⟩
 ·have dV:(Instr.mapEntry t (.map (some b)) (mk x)).run P w= .ok (.tuple #[mv y0,goInt clock]) (setBlock w b (.map (es.push ⟨mk x,mv y0,clock⟩) (clock+1))):=by
   simp[Instr.mapEntry,run_underlying ht,MapKept.run_getObj_map hb,M.keyed.check w false hl,h1,hz,MapKept.run_setObj_map _ hb,Result.andThen,setBlock]
  rw[hE]at dV;injection dV with hv hw
  refine⟨st,_,?_,?_,bH _ _ _,by simp[setBlock],sT⟩
  ·rw[hE,h3];injection hv with hv
   have:v0=mv y0:=(List.cons.inj (qX Array.toList hv)).1;rw[this];rfl
  ·rw[hw];exact⟨_,_,heap_setBlock_same hb _,by simp;omega,stamped_push S h2,by rw[h3];exact E.push bI h2 _⟩
 ·have hj:es[j]? =some e0:=by simpa using h2
  have abN:es.modify j (fun e'=>{e' with key:=mk x})=es:=by
   apply Array.ext';rw[Array.toList_modify,modify_eq_set _ _ _ _ h2];have:({e0 with key:=mk x}:MapEntry)=e0:=by rw[←h3]
   rw[this];exact Go.WideElems.set_self _ _ _ h2
  have dV:(Instr.mapEntry t (.map (some b)) (mk x)).run P w= .ok (.tuple #[mv y,goInt e0.born]) (setBlock w b (.map es clock)):=by
   simp[Instr.mapEntry,run_underlying ht,MapKept.run_getObj_map hb,M.keyed.check w false hl,h1,hj,h3,M.keyed.stays w hl,abN,MapKept.run_setObj_map _ hb,Result.andThen,setBlock]
  rw[hE]at dV;injection dV with hv hw
  refine⟨st,_,?_,?_,bH _ _ _,by simp[setBlock],sT⟩
  ·rw[hE,h5];injection hv with hv
   have:v0=mv y:=(List.cons.inj (qX Array.toList hv)).1;rw[this];rfl
  ·rw[hw,h5];refine⟨es,clock,heap_setBlock_same hb _,Y,S,?_⟩
   have e1:(fun q=>if q=x then some ((some y).getD y0)else g q)=g:=by
    funext q;split
    ·rename_i e2;rw[e2,h5];rfl
    ·rfl
   rw[e1];exact E
