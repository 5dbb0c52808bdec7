/- Part 9 of the texts that the law's walk needs. -/
import Derived.Test.YtimabpfjjpjfjaaGreatDoorM01
import Derived.Test.YtimabpfjjpjfjaaGreatDoorM03
import Derived.Test.YtimabpfjjpjfjaaGreatDoorM08
set_option maxHeartbeats 3200000
set_option maxRecDepth 100000
set_option linter.all false
open Go.Value renaming int→U,pointer→qi
open Go.IntKind renaming i64→Z
open Go renaming World→qo,Calls→qw
open Go.Ending renaming returned→qm
namespace Go.Proofs.YtimabpfjjpjfjaaGreatDoor
open Tryz
namespace bq
open Go.RowKit cN
structure pn(L:List Ha)(ls:List Int):Prop where
 dU:bg L
 fits: ∀a∈L,0≤a.c∧a.c<8∧0≤a.n∧a.n<16384∧1≤a.i∧a.i≤2147483647
 Ah: ∀c,count L c≤16
 l8:ls.length=8
 lb: ∀x∈ls,0≤x∧x≤1099511627776
def nj(b:Nat)(ls:List Int):Array Value:=(Value.map (some b)::ls.map (U Z)).toArray
structure lT(w:qo)(hb b:Nat)(L:List Ha)(ls:List Int):Prop where
 head:w.heap[hb]? =some (.cells (nj b ls) 218 (0,0))
 map: ∃n,FJ w b n (cN.look L)
 cV:pn L ls
theorem lT.ne{w:qo}{hb b:Nat}{L:List Ha}{ls:List Int}(h:lT w hb b L ls):hb≠b:=by
 rintro rfl;obtain⟨n,es,clock,hm,_⟩:=h.map;rw[h.head]at hm;cases hm
theorem lT.lt{w:qo}{hb b:Nat}{L:List Ha}{ls:List Int}(h:lT w hb b L ls):hb<w.heap.size∧b<w.heap.size:=by
 obtain⟨n,hm⟩:=h.map;exact⟨qK h.head,an.lt hm⟩
theorem lT.grow{w J:qo}{hb b:Nat}{L:List Ha}{ls:List Int}(h:lT w hb b L ls)(k:Below w.heap.size w J):lT J hb b L ls:=
 ⟨(k.block hb h.lt.1).trans h.head,by obtain⟨n,hm⟩:=h.map;exact⟨n,an.ag hm k⟩,h.cV⟩
theorem lT.only{w J:qo}{hb b c:Nat}{L:List Ha}{ls:List Int}(h:lT w hb b L ls)(k:ax c w J)(h1:hb≠c)(h2:b≠c):lT J hb b L ls:=
 ⟨ax.heap k h.head h1,by obtain⟨n,hm⟩:=h.map;exact⟨n,an.only hm k h2⟩,h.cV⟩
theorem lT.m0{w:qo}{hb b:Nat}{L:List Ha}{ls:List Int}(h:lT w hb b L ls):w.cell? ⟨hb,0,none⟩=some (.map (some b)):=by
 rw[qI h.head];simp[nj]
theorem lT.aca{w:qo}{hb b:Nat}{L:List Ha}{ls:List Int}(h:lT w hb b L ls){c:Nat}(hc:c<8):w.cell? ⟨hb,1+c,none⟩=some (U Z (ls.getD c 0))∧w.frozen? ⟨hb,1+c,none⟩=false:=by
 have h8:=h.cV.l8;refine⟨?_,xx h.head _⟩;rw[qI h.head,Nat.add_comm];have:c<ls.length:=Y;simp[nj,List.getD,this]
theorem NP{ls:List Int}(h: ∀x∈ls,0≤x∧x≤1099511627776)(c:Nat):0≤ls.getD c 0∧ls.getD c 0≤1099511627776:=by
 by_cases hc:c<ls.length
 ·have:ls.getD c 0=ls[c]:=by simp[List.getD,hc]
  rw[this];exact h _ (List.getElem_mem hc)
 ·have:ls.getD c 0=0:=by simp[List.getD,hc]
  rw[this];omega
def Sm(n:Int):Bool:=decide (0≤n∧n<8)
theorem gy(n:Int)(b:Bool)(hb:Sm n=b)(w:qo):qw prog 340 #[U Z n] w fun e J=>e=qm (.bool b)∧w=J:=by
 by_cases h1:0≤n
 ·by_cases h2:n<8
  ·obtain rfl:b=true:=by rw[←hb];exact qR ⟨h1,h2⟩
   clear hb;go_enter func340,ntmps340;go_wp2
   go_ret;exact⟨rfl,rfl⟩
  ·obtain rfl:b=false:=by rw[←hb];exact qD fun h=>h2 h.2
   have h2':decide (n<8)=false:=qD h2;clear hb h2;go_enter func340,ntmps340;go_wp2
   go_ret;exact⟨rfl,rfl⟩
 ·obtain rfl:b=false:=by rw[←hb];exact qD fun h=>h1 h.1
  clear hb;go_enter func340,ntmps340;go_wp2
  go_ret;exact⟨rfl,rfl⟩
theorem NQ:pn [] (List.replicate 8 0) where
 dU:=List.Pairwise.nil
 fits:=qc
 Ah c:=by simp[count]
 l8:=qc
 lb x hx:=by have:=List.eq_of_mem_replicate hx;omega
theorem lO(w:qo):qw prog 73 #[] w fun e J=>e=qm (qi (some ⟨w.heap.size+1,0,none⟩))∧lT J (w.heap.size+1) w.heap.size [] (List.replicate 8 0)∧Below w.heap.size w J:=by
 have Ij:= @run_makeMap prog;have H0:Hid (FJ (w.alloc (.map #[] 0)) w.heap.size 0 (fun _=>none)):=Hd (an.made w);go_enter func73,ntmps73;go_wp2
 go_ret;refine⟨rfl,⟨?_,⟨0,an.congr (an.ag H0.o (aa _ _)) (by funext x;simp[cN.look])⟩,NQ⟩,ai (aa w _) (aa _ _)⟩;have:=qA (w.alloc (.map #[] 0)) (.cells (nj w.heap.size (List.replicate 8 0)) 218);rw[show(w.alloc (.map #[] 0)).heap.size=w.heap.size+1 by simp]at this;exact this
def yZ(L:List Ha)(c n:Int):Int:=(cN.look L (c,n)).getD 0
def BA(L:List Ha)(c n:Int):Bool:=(cN.look L (c,n)).isSome
theorem kJ(hb b:Nat)(L:List Ha)(ls:List Int)(c n:Int)(bI:lQ (c,n))(w:qo)(h:lT w hb b L ls):
 qw prog 186 #[qi (some ⟨hb,0,none⟩),U Z c,U Z n] w fun e J=>e=qm (.tuple #[U Z (yZ L c n),.bool (BA L c n)])∧w=J:=by
 obtain⟨N,hm⟩:=h.map;have HM:=Hd hm;have HK:=Hd bI;have h0:=h.m0;clear h hm bI
 cases hl:cN.look L (c,n)with
 |none=>
  have HG:=Hd hl;have HE:Hid (yZ L c n=0∧BA L c n=false):=Hd (by unfold yZ BA;rw[hl];exact⟨rfl,rfl⟩);clear hl;go_enter func186,ntmps186;go_wp2_with(at_lookup;go_loud (refine bE _ rfl _ _ 215 3 true rfl wh underlying215 _ (dR _) b N _ HM.o (by rfl) (c,n) HK.o (by rfl) HG.o ?_;unfold kg;simp only[if_true]))
  go_ret2
  exact⟨by rw[HE.o.1,HE.o.2];rfl,rfl⟩
 |some i=>
  have HG:=Hd hl;have HE:Hid (yZ L c n=i∧BA L c n=true):=Hd (by unfold yZ BA;rw[hl];exact⟨rfl,rfl⟩);clear hl;go_enter func186,ntmps186;go_wp2_with(at_lookup;go_loud (refine bD _ rfl _ _ 215 3 true rfl wh underlying215 _ (dR _) b N _ HM.o (by rfl) (c,n) HK.o (by rfl) i HG.o (U Z i) rfl ?_;simp only[if_true]))
  go_ret2
  exact⟨by rw[HE.o.1,HE.o.2];rfl,rfl⟩
def pM(L:List Ha)(c n:Int):Int:=if(cN.look L (c,n)).isSome then 0 else 68
theorem pn.filter{L:List Ha}{ls:List Int}(h:pn L ls)(p:Ha→Bool):pn (L.filter p) ls where
 dU:=eD h.dU p
 fits a ha:=h.fits a (List.mem_filter.1 ha).1
 Ah c:=by
  refine qM ?_ (h.Ah c);unfold count;exact(List.filter_sublist).countP_le
 l8:=h.l8
 lb:=h.lb
theorem Ks(hb b:Nat)(L:List Ha)(ls:List Int)(c n:Int)(bI:lQ (c,n))(w:qo)(h:lT w hb b L ls):
 qw prog 414 #[qi (some ⟨hb,0,none⟩),U Z c,U Z n] w fun e J=>e=qm (.tuple #[U Z (yZ L c n),U Z (pM L c n)])∧lT J hb b (del L (c,n)) ls∧ax b w J∧J.heap.size=w.heap.size:=by
 have HH:=Hd h;obtain⟨N,hm⟩:=h.map;have HM:=Hd hm;have HK:=Hd bI;have h0:=h.m0;clear h hm bI
 cases hl:cN.look L (c,n)with
 |none=>
  have HG:=Hd hl;have HE:Hid (yZ L c n=0∧pM L c n=68):=Hd (by unfold yZ pM;rw[hl];exact⟨rfl,rfl⟩)
  have HD:Hid (del L (c,n)=L):=Hd (by
   unfold del;refine List.filter_eq_self.2 fun a ha=>?_;have:=(kV (c,n)).1 hl a ha;simp[this])
  clear hl;go_enter func414,ntmps414;go_wp2_with(at_lookup;go_loud (refine bE _ rfl _ _ 215 3 true rfl wh underlying215 _ (dR _) b N _ HM.o (by rfl) (c,n) HK.o (by rfl) HG.o ?_;unfold kg;simp only[if_true]))
  go_ret2
  exact⟨by rw[HE.o.1,HE.o.2];rfl,by rw[HD.o];exact HH.o,ax.refl _ _,rfl⟩
 |some i=>
  have HG:=Hd hl;have HE:Hid (yZ L c n=i∧pM L c n=0):=Hd (by unfold yZ pM;rw[hl];exact⟨rfl,rfl⟩);clear hl;go_enter func414,ntmps414
  go_wp2_with(first
   |(at_lookup;go_loud (refine bD _ rfl _ _ 215 3 true rfl wh underlying215 _ (dR _) b N _ HM.o (by rfl) (c,n) HK.o (by rfl) i HG.o (U Z i) rfl ?_;simp only[if_true]))
   |(at_delete;go_loud (refine eS _ rfl _ _ 215 3 rfl wh underlying215 b N _ HM.o (by rfl) (c,n) HK.o (by rfl) ?_;intro w5 hm5 ho5 hs5;have ou:=Hd hm5;have eV:=Hd ho5;have br:=Hd hs5;clear hm5 ho5 hs5)))
  go_ret2
  exact⟨by rw[HE.o.1,HE.o.2];rfl,⟨ax.heap eV.o HH.o.head HH.o.ne,⟨N,an.congr ou.o (vI HH.o.cV.dU (c,n)).symm⟩,HH.o.cV.filter _⟩,eV.o,br.o⟩
def wG(c tick:Int):Bool:=decide (0≤c∧c<8∧0≤tick∧tick≤1099511627776)
def tx(c tick:Int):Int:=if wG c tick then 0 else 1
def tz(ls:List Int)(c tick:Int):List Int:=if wG c tick then ls.set c.toNat (max (ls.getD c.toNat 0) tick)else ls
theorem Kt(hb b:Nat)(L:List Ha)(ls:List Int)(c tick:Int)(w:qo)(h:lT w hb b L ls):
 qw prog 386 #[qi (some ⟨hb,0,none⟩),U Z c,U Z tick] w fun e J=>e=qm (U Z (tx c tick))∧lT J hb b L (tz ls c tick)∧ax hb w J∧J.heap.size=w.heap.size:=by
 have HH:=Hd h;by_cases hm:wG c tick=true
 ·obtain⟨q1,q2,q3,q4⟩:=xr hm;obtain⟨k,rfl⟩: ∃k:Nat,c=k:=⟨c.toNat,Y⟩;have hk:k<8:=Y;have HC:Hid (Sm k=true):=Hd (qR ⟨q1,q2⟩);have HE:Hid (tx k tick=0∧tz ls k tick=ls.set k (max (ls.getD k 0) tick)):=Hd (by unfold tx tz;rw[qH hm,qH hm];simp);obtain⟨p1,p2⟩:=h.aca hk;obtain⟨b1,b2⟩:=NP h.cV.lb k;have Te:Hid (0≤max (ls.getD k 0) tick∧max (ls.getD k 0) tick≤1099511627776):=Hd Y;generalize ls.getD k 0=m at*;clear h hm;go_enter func386,ntmps386;go_wp2_with(go_at_call 340;refine(gy _ _ HC.o _).mono ?_;rintro e w2 ⟨rfl,rfl⟩)
  go_region
  go_wp2
  go_ret;have hg:=HH.o.cV;refine⟨aO HE.o.1.symm,⟨?_,?_,?_⟩,((ax.refl hb w).setCell _ _).drew,qc⟩
  ·rw[HE.o.2];show(w.setCell _ _).heap[hb]? =_;rw[heap_setCell_same w hb (1+k) _ _ _ HH.o.head]
   congr 2
   unfold nj;apply Array.ext';simp[Nat.add_comm 1 k,List.map_set]
  ·obtain⟨n,hn⟩:=HH.o.map;exact⟨n,an.only hn ((ax.refl hb w).setCell _ _).drew (fun e=>HH.o.ne e.symm)⟩
  ·refine⟨hg.dU,hg.fits,hg.Ah,by rw[HE.o.2];simp[hg.l8],fun x hx=>?_⟩;rw[HE.o.2]at hx;rcases List.mem_or_eq_of_mem_set hx with hx|rfl
   ·exact hg.lb x hx
   ·exact Te.o
 ·have HE:Hid (tx c tick=1∧tz ls c tick=ls):=Hd (by unfold tx tz;rw[qB hm,qB hm];simp);have HP:Hid (¬(0≤c∧c<8∧0≤tick∧tick≤1099511627776)):=Hd (fun h=>hm (qR h));clear hm h
  cases hc:Sm c with
  |false=>
   have HC:=Hd hc;clear hc;go_enter func386,ntmps386;go_wp2_with(go_at_call 340;refine(gy _ _ HC.o _).mono ?_;rintro e w2 ⟨rfl,rfl⟩)
   go_ret
   exact⟨aO HE.o.1.symm,by rw[HE.o.2];exact HH.o,ax.refl _ _,rfl⟩
  |true=>
   have HC:=Hd hc;have vi:=xr hc;clear hc;by_cases ht:0≤tick
   ·have ht2: ¬tick≤1099511627776:=fun h=>HP.o ⟨vi.1,vi.2,ht,h⟩;have ht3:1099511627776<tick:=Y;clear vi ht2;go_enter func386,ntmps386;go_wp2_with(go_at_call 340;refine(gy _ _ HC.o _).mono ?_;rintro e w2 ⟨rfl,rfl⟩)
    go_ret;exact⟨aO HE.o.1.symm,by rw[HE.o.2];exact HH.o,ax.refl _ _,rfl⟩
   ·have ht3:tick<0:=by omega
    clear vi ht;go_enter func386,ntmps386;go_wp2_with(go_at_call 340;refine(gy _ _ HC.o _).mono ?_;rintro e w2 ⟨rfl,rfl⟩)
    go_ret;exact⟨aO HE.o.1.symm,by rw[HE.o.2];exact HH.o,ax.refl _ _,rfl⟩
