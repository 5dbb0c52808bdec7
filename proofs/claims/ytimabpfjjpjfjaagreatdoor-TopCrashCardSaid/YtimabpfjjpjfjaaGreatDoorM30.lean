/- Part 30 of the texts that the law's walk needs. -/
import Derived.Test.YtimabpfjjpjfjaaGreatDoorM07
import Derived.Test.YtimabpfjjpjfjaaGreatDoorM12
import Derived.Test.YtimabpfjjpjfjaaGreatDoorM28
set_option maxHeartbeats 3200000
set_option maxRecDepth 100000
set_option linter.all false
open Go.Value renaming pointer→qi
open Go.Value (int)
open Go.IntKind (i64)
namespace Go.Proofs.YtimabpfjjpjfjaaGreatDoor
open Tryz
namespace InoW
open Go.RowKit InoP ExtW Go.Maps Go.Sort Go.Shelf
variable{tb b:Nat}{L:List dw}{next:Int}
theorem ZA(m:Nat):AnyZI.SortsIn prog Tryz.uQ Fence.wide m:=
 ⟨fun blk off cap ss W hH hblk dY=>callsIn_wide.2 (AnyM.slices_Sort_int Tryz.AZ blk off cap ss W hH hblk dY),
  fun p cap W=>callsIn_wide.2 (AnyM.slices_Sort_int_none Tryz.AZ p cap W)⟩
theorem LD{ss:List Int}(hL:bg L)(h:ss.Perm (L.map (·.i))):ss.mergeSort (fun x y=>decide (x≤y))=L.map (·.i):=by
 have hk:=(lL L).1 hL;refine List.Perm.eq_of_pairwise (le:=fun a b:Int=>a≤b) (fun a b _ _ h1 h2=>Int.le_antisymm h1 h2) ?_ (hk.imp fun h=>by omega) ((List.mergeSort_perm _ _).trans h);refine(List.pairwise_mergeSort (le:=fun x y:Int=>decide (x≤y)) (fun a b c h1 h2=>?_) (fun a b=>?_) ss).imp fun h=>by simpa using h
 ·simp only[qC]at*;omega
 ·simp only[Bool.or_eq_true,qC];omega
theorem vt(w:World)(h:jf w tb b L next):
 Calls prog 14 #[qi (some ⟨tb,0,none⟩)] w fun e J=> ∃oa cap,e= .returned (.slice oa L.length cap)∧J.ownsRow w.heap.size 3 1 (.slice oa L.length cap) L.length (L.map fun x=>int i64 x.i)∧(oa=none→L.length=0∧cap=0)∧Below w.heap.size w J:=by
 refine(callsIn_wide (n:=6)).1 ?_;obtain⟨n,g,o⟩:=h.op;obtain⟨k1,k2⟩:=Ii h.cV o.no o.yes;obtain⟨D0,aT,Dg,iq,_⟩:=Ae o.m k1 k2 (by have:=h.cV.len;simp;omega);have rm:=aT.lt;have hlen:=h.cV.len;have dY:Maps.size D0=L.length:=by rw[iq];simp
 have adG:SeqGives Fence.wide 2 prog 35 #[qi (some ⟨w.heap.size,0,none⟩)] encZ (fun ss=>ss.Perm (intKeys D0)) (Maps.size D0) (w.alloc (.cells #[.map (some b)] 92)):=
  AnyZI.keys_gives (ρ:=Tryz.AY) {Tryz.WU with} Fence.wide _ trivial rfl Y w.heap.size b _ D0 _ qc qc (by
   obtain⟨es,clock,hb,Ft,hs,hD⟩:=aT;exact⟨es,clock,(Below.heap_alloc _ _ b rm).trans hb,Ft,hs,hD⟩)
 have cK: ∀mb W,CallsIn Fence.wide 5 prog 22 #[.map mb] W fun e J=>e= .returned (.func (.func 35) #[] #[qi (some ⟨W.heap.size,0,none⟩)])∧J=W.alloc (.cells #[.map mb] 92):=fun mb W=>AnyZI.keys_in Tryz.WU Fence.wide 5 trivial rfl mb W;have cS:=AnyZI.sorted_in Tryz.UK Fence.wide 5 trivial trivial trivial trivial rfl Y (ZA _) (enters_of func34 qd rfl) 35 #[qi (some ⟨w.heap.size,0,none⟩)] trivial (enters_of func35 qd rfl) _ _ (by rw[dY];unfold maxLen;omega) (by rw[dY];omega) _ adG;change CallsIn _ _ prog 21 _ _ _ at cS
 have hfK:Fence.wide.fn 22:=trivial;have hfS:Fence.wide.fn 21:=trivial;have h0:=h.m0.1;have HG:=Hd h.cV.dU;have HPM:=Hd Dg;have CK:=Hd cK;have CS:=Hd cS;clear h o k1 k2 aT Dg iq rm hlen dY adG cK cS;refine callsIn_of_wp func14 rfl trivial ?_ rfl;simp only[ntmps14,List.size_toArray,xf,List.length_nil,Nat.reduceAdd,Nat.reduceSub,Array.replicate_succ,Array.replicate_zero,List.push_toArray,List.append_toArray,xk,xd]
 gi_wp2_with (first
  |(gi_at_call 22;refine(CK.o _ _).mono ?_;rintro e J ⟨rfl,rfl⟩)
  |(gi_at_call 21;refine CS.o.mono ?_;rintro e J ⟨v,ss,rfl,hS,aW,rL,hb⟩;have HS:=Hd hS;have uS:=Hd aW;have XV:=Hd rL;have HB:=Hd hb;clear hS aW rL hb))
 go_ret;have Sr:ss.Perm (L.map (·.i)):=HS.o.trans HPM.o;have hlen:ss.length=L.length:=by have:=Sr.length_eq;simpa using this
 have aW:=uS.o;rw[LD HG.o Sr,hlen,List.map_map]at aW;obtain⟨oa,cap,rfl⟩:=fg aW;refine⟨oa,cap,rfl,ownsRow_base_a aW qc,fun e=>?_,((Below.refl _ w).alloc (Nat.le_refl _) _).trans (HB.o.mono qc)⟩;rcases aW.2 with⟨e1,h1⟩|⟨gg,cap',cur,e1,_⟩
 ·simp only[Value.slice.injEq]at e1;exact⟨h1,e1.2.2⟩
 ·subst e;simp at e1
