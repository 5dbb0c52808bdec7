/- Part 2 of the texts that the law's walk needs. -/
import Derived.Test.YtimabpfjjpjfjaaGreatDoorM00
import Derived.Lib.ConvBytes
import Derived.Laws.BytesArg
import Derived.IntWalk
set_option maxHeartbeats 3200000
set_option maxRecDepth 100000
set_option linter.all false
open Go renaming World→qo,TypeId→qu,Calls→qw
open Go.RowKit renaming Below→qz
open Go.Value renaming int→U,string→qg,tuple→qj,bool→qk,pointer→qi
open Go.IntKind renaming i64→Z
open Go.Ending renaming returned→qm
namespace Go.Proofs.YtimabpfjjpjfjaaGreatDoor
open Tryz
open Tryz renaming prog→qx
section
open Go.RowKit
def cg(w:qo)(g n:Nat)(f:Nat→UInt8):Prop:=
 ∀j,j<n→w.cell? ⟨g,j,none⟩=some (.int .u8 ((f j).toNat:Int))∧w.frozen? ⟨g,j,none⟩=false
theorem cg.congr{w:qo}{g n:Nat}{f f':Nat→UInt8}(h:cg w g n f)(e: ∀j,j<n→f j=f' j):cg w g n f':=by
 intro j hj;rw[←e j hj];exact h j hj
theorem cg.below{w J:qo}{g n B:Nat}{f:Nat→UInt8}(h:cg w g n f)(hb:qz B w J)(hg:g<B):cg J g n f:=by
 intro j hj;rw[hb.cell (p:=⟨g,j,none⟩) hg,hb.frozen (p:=⟨g,j,none⟩) hg];exact h j hj
theorem cg.drewN{w:qo}{g n:Nat}{f:Nat→UInt8}(h:cg w g n f)(k:Nat):cg (w.drewN k) g n f:=h
theorem cg.drew{w:qo}{g n:Nat}{f:Nat→UInt8}(h:cg w g n f):cg w.drew g n f:=h
theorem cg.set{w:qo}{g n:Nat}{f:Nat→UInt8}(h:cg w g n f)(i:Nat)(hi:i<n)(v:UInt8):
 cg (w.setCell ⟨g,i,none⟩ (.int .u8 (v.toNat:Int))) g n (fun j=>if j=i then v else f j):=by
 intro j hj;refine⟨?_,?_⟩
 ·by_cases e:j=i
  ·subst e;rw[World.cell?_setCell_same _ _ _ (h j hj).1];simp
  ·rw[World.cell?_setCell_other _ _ _ _ (fun he=>e (by injection he with _ h2;exact h2.symm))];simp only[qB e];exact(h j hj).1
 ·rw[World.frozen?_setCell];exact(h j hj).2
theorem cg.other{w:qo}{g n:Nat}{f:Nat→UInt8}(h:cg w g n f){a:Addr}(ha:g≠a.block)(v:Value):cg (w.setCell a v) g n f:=by
 intro j hj;rw[World.cell?_setCell_other _ _ _ _ (fun he=>ha (by rw[he])),World.frozen?_setCell];exact h j hj
theorem cg.mW{w:qo}{g n:Nat}{t:qu}{f:Nat→UInt8}(h:w.rowIs g t n (fun j=> .int .u8 ((f j).toNat:Int))):cg w g n f:=
 fun j hj=>⟨h.cell hj,h.frozen j⟩
theorem vR{P:Program}(w:qo)(t e:qu)(ht:P.underlying t=some (.slice e))(abA:(P.info? e).map (fun i=>(i.zero,i.size,i.bytes))=some (some (.int .u8 0),1,1))(n:Nat)(hn:n≤281474976710656):
 ∃w1,(Instr.makeSlice t (U Z (n:Int)) (U Z (n:Int))).run P w= .ok (.slice (some ⟨w.heap.size,0,none⟩) n n) w1∧cg w1 w.heap.size n (fun _=>0)∧qz w.heap.size w w1∧w.heap.size<w1.heap.size:=by
 refine⟨_,run_make_row' t e _ 1 ht abA rfl .i64 .i64 n Y Y w,?_,(Below.refl _ _).alloc (Nat.le_refl _) _,qc⟩;exact cg.mW (t:=e) (World.rowIs_made w _ n e)
def jI(n:Nat)(f:Nat→UInt8):ByteArray:=⟨((List.range n).map f).toArray⟩
theorem zn(n:Nat)(f:Nat→UInt8):(jI n f).data.toList=(List.range n).map f:=rfl
theorem oZ{P:Program}(w:qo)(src dst e:qu)(g n cap:Nat)(f:Nat→UInt8)(hs:P.underlying src=some (.slice e))(he:P.underlying e=some (.int .u8))(hd:P.underlying dst=some .string)
 (h:cg w g n f):(convert src dst (.slice (some ⟨g,0,none⟩) n cap)).run P w= .ok (qg (jI n f)) w:=by
 have:=run_convert_bytes_back (P:=P) w src dst e ⟨g,0,none⟩ cap ((List.range n).map f) hs he hd (fun j hj=>by
  simp at hj;have:=(h j hj).1;rw[show(⟨g,0,none⟩:Addr).add j=⟨g,j,none⟩ by unfold Addr.add;split<;>simp_all];simpa using this)
 rw[List.length_map,List.length_range]at this;exact this
end
namespace ShiftW
open Go.RowKit
def mG(v:Nat)(size:Int):ByteArray:=if 0≤size∧size≤8 then⟨(ShiftP.eK v size.toNat).toArray⟩else⟨#[]⟩
def Ng(v n j:Nat):UInt8:=UInt8.ofNat (v/ 2^(8*(n-1-j)))
theorem SE(v n k:Nat):((v:Int)/ 2^(8*(n-1-k)))%256=((Ng v n k).toNat:Int):=by
 unfold Ng;rw[UInt8.toNat_ofNat',Int.natCast_emod,Int.natCast_ediv,Int.natCast_pow];rfl
def CN(v n k j:Nat):UInt8:=if j<k then Ng v n j else 0
theorem Nh(v n k:Nat):(fun j=>if j=k then Ng v n k else CN v n k j)=CN v n (k+1):=by
 funext j;unfold CN;by_cases h:j=k
 ·subst h;simp
 ·by_cases h2:j<k
  ·rw[qB h,qH h2,qH Y]
  ·rw[qB h,qB h2,qB Y]
theorem JZ(v n j:Nat):0=CN v n 0 j:=by simp[CN]
theorem Ni(v n:Nat):jI n (CN v n n)=mG v n∨8<n:=by
 by_cases h:8<n
 ·exact .inr h
 ·refine .inl ?_;rw[mG,qH ⟨Y,Y⟩,jI,Int.toNat_natCast,ShiftP.eK]
  congr 2
  apply List.map_congr_left;intro i hi;simp[CN,Ng,List.mem_range.1 hi]
theorem XE(v n:Nat)(hv:v<2^64)(hn:n≤8)(w:qo):
 qw qx 391 #[.int .u64 v,U Z n] w fun e J=>e=qm (qg (mG v n))∧qz w.heap.size w J:=by
 obtain⟨w1,hmk,aW,dz,dY⟩:=vR (P:=qx) w 138 5 underlying138 qd n Y;have uS:=Hd aW;have aga:=Hd dz;have HV:=Hd hv;clear aW dz hv;go_enter func391,ntmps391;go_wp2_with fail
 go_loopw [17] (fun i wr=> ∃k:Nat,k≤n∧i=U Z k∧cg wr w.heap.size n (CN v n k)∧qz w.heap.size w wr) (fun i _=>n-(intOf i).toNat)
 case atStart=>exact⟨0,Y,rfl,uS.o.congr (fun j _=>JZ v n j),aga.o⟩
 case round=>
  obtain⟨k,hk,rfl,hr,hb⟩:=hrel;have HR:=Hd hr;have HB:=Hd hb;by_cases aN:k<n
  ·have hc1:=(hr k aN).1;have hf1:=(hr k aN).2;clear hr hb;have hx:=SE v n k;have HX:=Hd (Nh v n k);go_wp2
   go_roundw
   case rel=>exact⟨k+1,Y,by go_num,by rw[←HX.o];exact HR.o.set k aN _,HB.o.setCell (Nat.le_refl _) _⟩
   case measure=>simp[intOf];omega
  ·have FE:k=n:=by omega
   rw[FE]at hr;have hcv:=oZ (P:=qx) wr 138 9 5 w.heap.size n n _ underlying138 underlying5 underlying9 hr;have HF:=Hd (Ni v n);clear FE hr hb;go_wp2
   go_ret;refine⟨?_,HB.o⟩;rcases HF.o with h|h
   ·rw[h];rfl
   ·omega
theorem od(v:Nat)(hv:v<2^64)(size:Int)(w:qo):
 qw qx 391 #[.int .u64 v,U Z size] w fun e J=>e=qm (qg (mG v size))∧qz w.heap.size w J:=by
 by_cases h:0≤size∧size≤8
 ·obtain⟨n,rfl⟩:=xo h.1;exact XE v n hv Y w
 ·have HP:=Hd (show mG v size=⟨#[]⟩ by rw[mG,qB h]);clear hv;rcases(by omega:size<0∨8<size)with h|h
  ·go_enter func391,ntmps391;go_wp2
   go_ret;exact⟨by rw[HP.o];rfl,aK w⟩
  ·have h0:0≤size:=by omega
   go_enter func391,ntmps391;go_wp2
   go_ret;exact⟨by rw[HP.o];rfl,aK w⟩
def vS(s:ByteArray)(at_ size:Int):Prop:=0≤size∧size≤8∧0≤at_∧at_≤s.size∧size≤s.size-at_
instance (s:ByteArray) (at_ size:Int):Decidable (vS s at_ size):=by unfold vS;infer_instance
def pJ(s:ByteArray)(at_ n:Nat):Nat:=ShiftP.ef ((s.data.toList.drop at_).take n)
theorem Ka(s:ByteArray)(at_:Nat):pJ s at_ 0=0:=by simp[pJ,ShiftP.ef]
theorem Kb(s:ByteArray)(at_ k:Nat)(h:at_+k<s.size):pJ s at_ (k+1)=pJ s at_ k*256+s[at_+k].toNat:=by
 unfold pJ;have h1:k<(s.data.toList.drop at_).length:=by simp;omega
 rw[qL h1,ShiftP.tp];simp;rfl
theorem SF(s:ByteArray)(at_ k:Nat):pJ s at_ k<256^k:=by
 have h:=ShiftP.rK ((s.data.toList.drop at_).take k);exact xH h (xI Y (by simp;omega))
theorem Nj(s:ByteArray)(at_ k:Nat)(h:k<8):pJ s at_ k<72057594037927936:=
 xH (SF s at_ k) (show 256^k≤256^7 from xI Y Y)
theorem XF(v c:Nat)(hv:v<72057594037927936)(hc:c<256):bits BinOp.or IntKind.u64 (IntKind.u64.wrap ((v:Int)*256)) (IntKind.u64.wrap (c:Int))=((v*256+c:Nat):Int):=by
 rw[IntKind.wrap_u64,IntKind.wrap_u64,Int.emod_eq_of_lt Y Y,Int.emod_eq_of_lt Y Y,show(v:Int)*256=((v*256:Nat):Int) by simp,
  u64_or_nat _ _ Y Y,nat_join 8 _ _ Y Y]
theorem XG(s:ByteArray)(at_ n:Nat)(hs:s.size≤9223372036854775807)(h1:n≤8)(h2:at_≤s.size)(h3:n≤s.size-at_)(w:qo):
 qw qx 402 #[qg s,U Z at_,U Z n] w fun e J=>e=qm (qj #[.int .u64 (pJ s at_ n),qk true])∧w=J:=by
 have d1:decide ((n:Int)<0)=false:=qc;have d2:decide (8<(n:Int))=false:=by simp;omega
 have d3:decide ((at_:Int)<0)=false:=qc;have d4:decide ((s.size:Int)<(at_:Int))=false:=by simp;omega
 have d4':decide (s.size<at_)=false:=by simp;omega
 have d5:decide ((s.size:Int)-(at_:Int)<(n:Int))=false:=by simp;omega
 go_enter func402,ntmps402;go_wp2_with fail
 clear d1 d2 d3 d4 d4' d5
 go_loop [8,35] (fun v i=> ∃k:Nat,k≤n∧i=U Z k∧v= .int .u64 (pJ s at_ k:Nat)) (fun _ i=>n-(intOf i).toNat)
 case atStart=>exact⟨0,Y,rfl,by rw[Ka];rfl⟩
 case round=>
  obtain⟨k,hk,rfl,rfl⟩:=hrel;by_cases aN:k<n
  ·have hx:at_+k<s.size:=by omega
   have hs1:=Kb s at_ k hx
   have ho:=XF (pJ s at_ k) s[at_+k].toNat (Nj s at_ k Y) (UInt8.toNat_lt _);rw[←hs1]at ho;clear hs1;go_wp2
   go_round
   case rel=>exact⟨k+1,Y,by go_num,rfl⟩
   case measure=>simp[intOf];omega
  ·have FE:k=n:=by omega
   have HK:=Hd FE;clear FE;go_wp2
   go_ret2
   exact⟨by rw[HK.o];rfl,rfl⟩
def uT(s:ByteArray)(at_ size:Int):Value:=if vS s at_ size then qj #[.int .u64 (pJ s at_.toNat size.toNat:Nat),qk true]else qj #[.int .u64 0,qk false]
theorem oe(s:ByteArray)(at_ size:Int)(hs:s.size≤9223372036854775807)(w:qo):
 qw qx 402 #[qg s,U Z at_,U Z size] w fun e J=>e=qm (uT s at_ size)∧w=J:=by
 by_cases h:vS s at_ size
 ·have HR:=Hd (show uT s at_ size=qj #[.int .u64 (pJ s at_.toNat size.toNat:Nat),qk true] by rw[uT,qH h]);obtain⟨a,b,c,d,e⟩:=h;obtain⟨n,rfl⟩:=xo a;obtain⟨m,rfl⟩:=xo c;refine(XG s m n hs Y Y Y w).mono ?_;rintro e J⟨rfl,rfl⟩;exact⟨by rw[HR.o];rfl,rfl⟩
 ·have HR:=Hd (show uT s at_ size=qj #[.int .u64 0,qk false] by rw[uT,qB h]);unfold vS at h;rcases(by omega:size<0∨(0≤size∧8<size)∨((0≤size∧size≤8)∧at_<0)∨((0≤size∧size≤8)∧0≤at_∧s.size<at_)∨((0≤size∧size≤8)∧0≤at_∧at_≤s.size∧s.size-at_<size))with h1|⟨h1,h2⟩|⟨⟨h1,h2⟩,h3⟩|⟨⟨h1,h2⟩,h3,h4⟩|⟨⟨h1,h2⟩,h3,h4,h5⟩
  all_goals
   clear h;go_enter func402,ntmps402;go_wp2
   go_ret2
   exact⟨by rw[HR.o];rfl,rfl⟩
end ShiftW
namespace PackW
open Go.RowKit
open ShiftW (mG od)
def dC(n:Int):Prop:=n=1∨n=2∨n=4∨n=8
instance (n:Int):Decidable (dC n):=by unfold dC;infer_instance
theorem fx(n:Int)(h:dC n)(w:qo):qw qx 390 #[U Z n] w fun e J=>e=qm (qk true)∧w=J:=by
 rcases h with rfl|rfl|rfl|rfl
 all_goals
  go_enter func390,ntmps390;go_wp2
  go_ret;exact⟨rfl,rfl⟩
theorem vT(n:Int)(h: ¬dC n)(w:qo):qw qx 390 #[U Z n] w fun e J=>e=qm (qk false)∧w=J:=by
 unfold dC at h;have h1:(n==1)=false:=by rw[qP];omega
 have h2:(n==2)=false:=by rw[qP];omega
 have h3:(n==4)=false:=by rw[qP];omega
 have h4:(n==8)=false:=by rw[qP];omega
 clear h;go_enter func390,ntmps390;go_wp2
 go_ret;exact⟨rfl,rfl⟩
def MF(v n:Int):Prop:=dC n∧0≤v∧v<2^(8*n.toNat)
instance (v n:Int):Decidable (MF v n):=by unfold MF;infer_instance
theorem cH.Ab{B b:Nat}{l:List UInt8}{sp:Bool}{w:qo}(h:cH B b l sp w):cH B b l true (w.setCell ⟨b,2,none⟩ (qk true)):=by
 obtain⟨hB,p,v,hp,eo,aT,bd⟩:=h;refine⟨hB,p,v,hp,?_,ownsRow_setCell_other aT (a:=⟨b,2,none⟩) bd _,bd⟩;rw[heap_setCell_same w b 2 _ _ _ eo];rfl
theorem cH.Nk{B b:Nat}{l:List UInt8}{sp:Bool}{w:qo}(h:cH B b l sp w):w.cell? ⟨b,2,none⟩=some (qk sp):=by
 obtain⟨hB,p,v,hp,eo,aT,bd⟩:=h;rw[qI eo];rfl
theorem cH.free{B b:Nat}{l:List UInt8}{sp:Bool}{w:qo}(h:cH B b l sp w)(i:Nat):w.frozen? ⟨b,i,none⟩=false:=by
 obtain⟨hB,p,v,hp,eo,aT,bd⟩:=h;exact xx eo i
theorem cH.lt{B b:Nat}{l:List UInt8}{sp:Bool}{w:qo}(h:cH B b l sp w):b<w.heap.size:=by
 obtain⟨hB,p,v,hp,eo,aT,bd⟩:=h;exact qK eo
theorem cH.drew{B b:Nat}{l:List UInt8}{sp:Bool}{w:qo}(h:cH B b l sp w):cH B b l sp w.drew:=by
 obtain⟨hB,p,v,hp,eo,aT,bd⟩:=h;exact⟨hB,p,v,hp,eo,aT,bd⟩
theorem cH.drewN{B b:Nat}{l:List UInt8}{sp:Bool}{w:qo}(h:cH B b l sp w)(n:Nat):cH B b l sp (w.drewN n):=by
 obtain⟨hB,p,v,hp,eo,aT,bd⟩:=h;exact⟨hB,p,v,hp,eo,aT,bd⟩
theorem cH.ag{B b:Nat}{l:List UInt8}{sp:Bool}{w J:qo}(h:cH B b l sp w)(k:qz w.heap.size w J):cH B b l sp J:=by
 obtain⟨hB,p,v,hp,eo,aT,bd⟩:=h;exact⟨hB,p,v,hp,(k.block b (qK eo)).trans eo,aT.kept (row:=none) ⟨k.os,k.tape,k.output,k.size,fun i hi _=>k.block i hi⟩ (Classical.em _),bd⟩
theorem Nl(B b:Nat)(l:List UInt8)(sp:Bool)(v n:Nat)(hs:dC n)(h1:v<2^(8*n))(hv:v<9223372036854775808)(w:qo)(hp:cH B b l sp w)(hlen:l.length+8≤140737488355328)(hBw:B≤w.heap.size):
 qw qx 343 #[qi (some ⟨b,0,none⟩),U Z v,U Z n] w fun e J=>e=qm (qj #[])∧cH B b (l++ShiftP.eK v n) sp J∧Fr B b w J:=by
 have hu:IntKind.u64.wrap (v:Int)=(v:Int):=by rw[IntKind.wrap_u64];omega
 have hq:((v:Int)/ 2^(8*n) !=0)=false:=by
  have e:((v:Int)/ 2^(8*n))=((v/ 2^(8*n):Nat):Int):=by rw[Int.natCast_ediv,Int.natCast_pow];rfl
  rw[e,Nat.div_eq_of_lt h1];rfl
 have hn8:n≤8:=by unfold dC at hs;omega
 have hS:mG v n=⟨(ShiftP.eK v n).toArray⟩:=by
  rw[mG,qH ⟨Y,Y⟩];rfl
 have hl8:(mG v n).size≤8:=by
  rw[hS];simp[ByteArray.size,ShiftP.cO];exact hn8
 have hd:(mG v n).data.toList=ShiftP.eK v n:=by rw[hS]
 generalize hSS:mG v n=S at*;have HS:=Hd hSS;have HD:=Hd hd;have sR:=Hd hs;have HP:=Hd hp;have HV:=Hd (show v<2^64 by omega);clear hS hd hSS hp h1 hs hv
 have key: ∀W:qo,qz w.heap.size w W→qw qx 49 #[qi (some ⟨b,0,none⟩),qg S] W fun e J=>e=qm (qj #[U Z S.size,.nilIface])∧cH B b (l++ShiftP.eK v n) sp J∧Fr B b W J:=by
  intro W hW;have:=iw B b l sp S W (HP.o.ag hW) Y (qM hBw hW.size)
  rwa [HD.o]at this
 have KEY:=Hd key;clear key;go_enter func343,ntmps343;go_wp2_with(go_at_call 390;refine(fx _ sR.o _).mono ?_;rintro e w1 ⟨rfl,rfl⟩)
 all_goals
  go_region_with (first
   |(go_at_call 391;refine(od v HV.o _ _).mono ?_;rintro e w1 ⟨rfl,hb1⟩;rw[HS.o])
   |(go_at_call 49;refine(KEY.o _ (ai (aK w).drew hb1)).mono ?_;rintro e w2 ⟨rfl,hp2,hb2⟩))
 all_goals go_wp2
 all_goals go_end0
 all_goals exact⟨rfl,hp2,((Fr.refl B b w).drew.step hb1 hBw).trans hb2⟩
theorem Nn(B b:Nat)(l:List UInt8)(sp:Bool)(v n:Nat)(hs:dC n)(h1:v<2^(8*n))(hv:v<9223372036854775808)(w:qo)(hp:cH B b l sp w)(hlen:l.length+8≤140737488355328)(hBw:B≤w.heap.size):
 qw qx 389 #[qi (some ⟨b,0,none⟩),U Z v,U Z n] w fun e J=>e=qm (qj #[])∧cH B b (l++ShiftP.eK v n) sp J∧Fr B b w J:=by
 have hu:IntKind.u64.wrap (v:Int)=(v:Int):=by rw[IntKind.wrap_u64];omega
 have hq:((v:Int)/ 2^(8*n) !=0)=false:=by
  have e:((v:Int)/ 2^(8*n))=((v/ 2^(8*n):Nat):Int):=by rw[Int.natCast_ediv,Int.natCast_pow];rfl
  rw[e,Nat.div_eq_of_lt h1];rfl
 have hn8:n≤8:=by unfold dC at hs;omega
 have hS:mG v n=⟨(ShiftP.eK v n).toArray⟩:=by
  rw[mG,qH ⟨Y,Y⟩];rfl
 have hl8:(mG v n).size≤8:=by
  rw[hS];simp[ByteArray.size,ShiftP.cO];exact hn8
 have hd:(mG v n).data.toList=ShiftP.eK v n:=by rw[hS]
 generalize hSS:mG v n=S at*;have HS:=Hd hSS;have HD:=Hd hd;have sR:=Hd hs;have HP:=Hd hp;have HV:=Hd (show v<2^64 by omega);clear hS hd hSS hp h1 hs hv
 have key: ∀W:qo,qz w.heap.size w W→qw qx 49 #[qi (some ⟨b,0,none⟩),qg S] W fun e J=>e=qm (qj #[U Z S.size,.nilIface])∧cH B b (l++ShiftP.eK v n) sp J∧Fr B b W J:=by
  intro W hW;have:=iw B b l sp S W (HP.o.ag hW) Y (qM hBw hW.size)
  rwa [HD.o]at this
 have KEY:=Hd key;clear key;go_enter func389,ntmps389;go_wp2_with(go_at_call 390;refine(fx _ sR.o _).mono ?_;rintro e w1 ⟨rfl,rfl⟩)
 all_goals
  go_region_with (first
   |(go_at_call 391;refine(od v HV.o _ _).mono ?_;rintro e w1 ⟨rfl,hb1⟩;rw[HS.o])
   |(go_at_call 49;refine(KEY.o _ (ai (aK w).drew hb1)).mono ?_;rintro e w2 ⟨rfl,hp2,hb2⟩))
 all_goals go_wp2
 all_goals go_end0
 all_goals exact⟨rfl,hp2,((Fr.refl B b w).drew.step hb1 hBw).trans hb2⟩
end PackW
namespace PackW
open Go.RowKit
theorem SG(B b:Nat)(l:List UInt8)(sp:Bool)(v n:Int)(h: ¬MF v n)(hv:v<9223372036854775808)(w:qo)(hp:cH B b l sp w):
 qw qx 343 #[qi (some ⟨b,0,none⟩),U Z v,U Z n] w fun e J=>e=qm (qj #[])∧cH B b l true J∧Fr B b w J:=by
 have HP:=Hd hp;have hc:=hp.Nk;have hf:=hp.free 2;have hB:=hp.base;clear hp;by_cases hs:dC n
 ·have HS:=Hd hs;have hn:0≤n∧n≤8:=by unfold dC at hs;omega
  by_cases h0:v<0
  ·clear h hs;go_enter func343,ntmps343;go_wp2_with(go_at_call 390;refine(fx _ HS.o _).mono ?_;rintro e w1 ⟨rfl,rfl⟩)
   refine xB (results_none rfl _ _ _) rfl ?_;exact⟨rfl,HP.o.Ab,(Fr.refl B b _).setCell 2 hB _⟩
  ·obtain⟨x,rfl⟩:=xo (show 0≤v by omega);obtain⟨m,rfl⟩:=xo hn.1;have FF: ¬(x:Int)<2^(8*m):=fun hx=>h ⟨hs,Y,by simpa using hx⟩
   have hm8:m<8:=by
    refine Nat.lt_of_not_le fun h8=>FF ?_;have:(2:Nat)^64≤2^(8*m):=xI Y Y;have e:((2:Int)^(8*m))=((2^(8*m):Nat):Int):=by rw[Int.natCast_pow];rfl
    rw[e];omega
   have hq:((x:Int)/ 2^(8*m) !=0)=true:=by
    have e:((2:Int)^(8*m))=((2^(8*m):Nat):Int):=by rw[Int.natCast_pow];rfl
    rw[e]at FF⊢;rw[bne_iff_ne,←Int.natCast_ediv];have:=Nat.div_pos (a:=x) (b:=2^(8*m)) Y (Nat.pow_pos Y);omega
   have hu:IntKind.u64.wrap (x:Int)=(x:Int):=by rw[IntKind.wrap_u64];omega
   clear h hs hn h0 FF hv;go_enter func343,ntmps343;go_wp2_with(go_at_call 390;refine(fx _ HS.o _).mono ?_;rintro e w1 ⟨rfl,rfl⟩)
   refine xB (results_none rfl _ _ _) rfl ?_;exact⟨rfl,HP.o.Ab,(Fr.refl B b _).setCell 2 hB _⟩
 ·have HS:=Hd hs;clear h hs hv;go_enter func343,ntmps343;go_wp2_with(go_at_call 390;refine(vT _ HS.o _).mono ?_;rintro e w1 ⟨rfl,rfl⟩)
  refine xB (results_none rfl _ _ _) rfl ?_;exact⟨rfl,HP.o.Ab,(Fr.refl B b _).setCell 2 hB _⟩
theorem SH(B b:Nat)(l:List UInt8)(sp:Bool)(v n:Int)(h: ¬MF v n)(hv:v<9223372036854775808)(w:qo)(hp:cH B b l sp w):
 qw qx 389 #[qi (some ⟨b,0,none⟩),U Z v,U Z n] w fun e J=>e=qm (qj #[])∧cH B b l true J∧Fr B b w J:=by
 have HP:=Hd hp;have hc:=hp.Nk;have hf:=hp.free 2;have hB:=hp.base;clear hp;by_cases hs:dC n
 ·have HS:=Hd hs;have hn:0≤n∧n≤8:=by unfold dC at hs;omega
  by_cases h0:v<0
  ·clear h hs;go_enter func389,ntmps389;go_wp2_with(go_at_call 390;refine(fx _ HS.o _).mono ?_;rintro e w1 ⟨rfl,rfl⟩)
   refine xB (results_none rfl _ _ _) rfl ?_;exact⟨rfl,HP.o.Ab,(Fr.refl B b _).setCell 2 hB _⟩
  ·obtain⟨x,rfl⟩:=xo (show 0≤v by omega);obtain⟨m,rfl⟩:=xo hn.1;have FF: ¬(x:Int)<2^(8*m):=fun hx=>h ⟨hs,Y,by simpa using hx⟩
   have hm8:m<8:=by
    refine Nat.lt_of_not_le fun h8=>FF ?_;have:(2:Nat)^64≤2^(8*m):=xI Y Y;have e:((2:Int)^(8*m))=((2^(8*m):Nat):Int):=by rw[Int.natCast_pow];rfl
    rw[e];omega
   have hq:((x:Int)/ 2^(8*m) !=0)=true:=by
    have e:((2:Int)^(8*m))=((2^(8*m):Nat):Int):=by rw[Int.natCast_pow];rfl
    rw[e]at FF⊢;rw[bne_iff_ne,←Int.natCast_ediv];have:=Nat.div_pos (a:=x) (b:=2^(8*m)) Y (Nat.pow_pos Y);omega
   have hu:IntKind.u64.wrap (x:Int)=(x:Int):=by rw[IntKind.wrap_u64];omega
   clear h hs hn h0 FF hv;go_enter func389,ntmps389;go_wp2_with(go_at_call 390;refine(fx _ HS.o _).mono ?_;rintro e w1 ⟨rfl,rfl⟩)
   refine xB (results_none rfl _ _ _) rfl ?_;exact⟨rfl,HP.o.Ab,(Fr.refl B b _).setCell 2 hB _⟩
 ·have HS:=Hd hs;clear h hs hv;go_enter func389,ntmps389;go_wp2_with(go_at_call 390;refine(vT _ HS.o _).mono ?_;rintro e w1 ⟨rfl,rfl⟩)
  refine xB (results_none rfl _ _ _) rfl ?_;exact⟨rfl,HP.o.Ab,(Fr.refl B b _).setCell 2 hB _⟩
def rM(l:List UInt8)(v n:Int):List UInt8:=if MF v n then l++ShiftP.eK v.toNat n.toNat else l
def zq(sp:Bool)(v n:Int):Bool:=if MF v n then sp else true
def pa(l:List UInt8)(s:List UInt8):List UInt8:=if s.length<65536 then l++ShiftP.eK s.length 2++s else l++s
def vU(sp:Bool)(s:List UInt8):Bool:=if s.length<65536 then sp else true
def rN(l:List UInt8)(sp:Bool):ByteArray:=if sp=false∧l.length≤65536 then⟨l.toArray⟩else⟨#[]⟩
def rO(l:List UInt8)(sp:Bool):Int:=if sp=true then 11 else if l.length≤65536 then 0 else 2
theorem gK(B b:Nat)(l:List UInt8)(sp:Bool)(v n:Int)(hv:v<9223372036854775808)(w:qo)(hp:cH B b l sp w)(hlen:l.length+8≤140737488355328)(hBw:B≤w.heap.size):
 qw qx 342 #[qi (some ⟨b,0,none⟩),U Z v,U Z n] w fun e J=>e=qm (qj #[])∧cH B b (rM l v n) (zq sp v n) J∧Fr B b w J:=by
 have key:qw qx 389 #[qi (some ⟨b,0,none⟩),U Z v,U Z n] w fun e J=>e=qm (qj #[])∧cH B b (rM l v n) (zq sp v n) J∧Fr B b w J:=by
  by_cases h:MF v n
  ·rw[rM,zq,qH h,qH h];obtain⟨hs,h0,h1⟩:=h;obtain⟨x,rfl⟩:=xo h0;obtain⟨m,rfl⟩:=xo (show 0≤n by unfold dC at hs;omega)
   have h2:x<2^(8*m):=by
    have e:((2:Int)^(8*m))=((2^(8*m):Nat):Int):=by rw[Int.natCast_pow];rfl
    rw[Int.toNat_natCast,e]at h1;omega
   exact Nn B b l sp x m hs h2 Y w hp hlen hBw
  ·rw[rM,zq,qB h,qB h];exact SH B b l sp v n h hv w hp
 have KEY:=Hd key;clear key hv hp;go_enter func342,ntmps342;go_wp2_with(go_at_call 389;refine KEY.o.mono ?_;rintro e w1 ⟨rfl,hp1,hb1⟩)
 go_end0
 exact⟨rfl,hp1,hb1⟩
theorem kY(B b:Nat)(l:List UInt8)(sp:Bool)(s:ByteArray)(w:qo)(hp:cH B b l sp w)(hlen:l.length+s.size+8≤140737488355328)(hBw:B≤w.heap.size):
 qw qx 277 #[qi (some ⟨b,0,none⟩),qg s] w fun e J=>e=qm (qj #[])∧cH B b (pa l s.data.toList) (vU sp s.data.toList) J∧Fr B b w J:=by
 obtain⟨l1,sp1,e1,e2,e3,key⟩: ∃l1 sp1,l1++s.data.toList=pa l s.data.toList∧sp1=vU sp s.data.toList∧l1.length≤l.length+2∧
  qw qx 343 #[qi (some ⟨b,0,none⟩),U Z s.size,U Z 2] w fun e J=>e=qm (qj #[])∧cH B b l1 sp1 J∧Fr B b w J:=by
  have dY:s.data.toList.length=s.size:=qc;by_cases h:s.size<65536
  ·refine⟨l++ShiftP.eK s.size 2,sp,by rw[pa,dY,qH h],by rw[vU,dY,qH h],by simp[ShiftP.cO],?_⟩;exact Nl B b l sp s.size 2 (.inr (.inl rfl)) Y Y w hp Y hBw
  ·refine⟨l,true,by rw[pa,dY,qB h],by rw[vU,dY,qB h],Y,?_⟩;exact SG B b l sp s.size 2 (fun hm=>h (by have:=hm.2.2;simp at this;omega)) Y w hp
 have KEY:=Hd key;have E1:=Hd e1;have hB:=hp.base;subst e2;clear key e1 hp;go_enter func277,ntmps277
 go_wp2_with(first
  |(go_at_call 343;refine KEY.o.mono ?_;rintro e w1 ⟨rfl,hp1,hb1⟩)
  |(go_at_call 49;refine(iw B b l1 _ s _ qe Y (qM hBw hb1.size)).mono ?_;rintro e w2 ⟨rfl,hp2,hb2⟩))
 go_end0
 exact⟨rfl,by rw[←E1.o];exact hp2,hb1.trans hb2⟩
theorem No(B b:Nat)(l:List UInt8)(sp:Bool)(w:qo)(hp:cH B b l sp w)(hBw:B≤w.heap.size):
 qw qx 279 #[qi (some ⟨b,0,none⟩)] w fun e J=>e=qm (qj #[qg (rN l sp),U Z (rO l sp)])∧Fr B b w J:=by
 have HP:=Hd hp;have hc:=hp.Nk;clear hp
 cases sp with
 |true=>
  have H1:=Hd (show rN l true=⟨#[]⟩ by simp[rN]);have H2:=Hd (show rO l true=11 by simp[rO]);go_enter func279,ntmps279;go_wp2
  go_ret2
  exact⟨by rw[H1.o,H2.o];rfl,Fr.refl _ _ _⟩
 |false=>
  by_cases hl:l.length≤65536
  ·have H1:=Hd (show rN l false=⟨l.toArray⟩ by simp[rN,hl]);have H2:=Hd (show rO l false=0 by simp[rO,hl]);go_enter func279,ntmps279
   go_wp2_with(first
    |(go_at_call 332;refine(Hy B b l _ _ HP.o).mono ?_;rintro e w1 ⟨rfl,rfl⟩)
    |(go_at_call 47;refine(FC B b l _ _ HP.o hBw).mono ?_;rintro e w1 ⟨rfl,hb1⟩))
   go_ret2
   exact⟨by rw[H1.o,H2.o];rfl,hb1⟩
  ·have H1:=Hd (show rN l false=⟨#[]⟩ by simp[rN,hl]);have H2:=Hd (show rO l false=2 by simp[rO,hl]);go_enter func279,ntmps279
   go_wp2_with(first
    |(go_at_call 332;refine(Hy B b l _ _ HP.o).mono ?_;rintro e w1 ⟨rfl,rfl⟩))
   go_ret2
   exact⟨by rw[H1.o,H2.o];rfl,Fr.refl _ _ _⟩
theorem lO(w:qo):qw qx 275 #[] w fun e J=>e=qm (qi (some ⟨w.heap.size,0,none⟩))∧cH w.heap.size w.heap.size [] false J∧qz w.heap.size w J∧J.heap.size=w.heap.size+1:=by
 go_enter func275,ntmps275;go_wp2
 go_ret;refine⟨rfl,⟨Nat.le_refl _,_,_,.inl rfl,qA _ _,⟨rfl,.inl ⟨rfl,rfl⟩⟩,by simp[Value.ownBlock]⟩,aa w _,qc⟩
structure Fd where
 size:Int
 v:Int
 s:ByteArray
def XH(B:Nat)(oa:Option Addr)(n:Nat)(f:Nat→Fd)(w:qo):Prop:=
 ∀i,i<n→ ∃a,oa=some a∧a.block<B∧w.cell? (a.add (i*3))=some (U Z (f i).size)∧w.cell? ⟨(a.add (i*3)).block,(a.add (i*3)).off+1,none⟩=some (U Z (f i).v)∧w.cell? ⟨(a.add (i*3)).block,(a.add (i*3)).off+2,none⟩=some (qg (f i).s)
def abB(f:Nat→Fd):Nat→Nat
 |0=>0
 |n+1=>abB f n+(f n).s.size
def Fair(f:Nat→Fd)(n:Nat):Prop:=(∀i,i<n→(f i).s.size≤70000)∧abB f n≤300000∧n≤200
instance (f:Nat→Fd) (n:Nat):Decidable (Fair f n):=by unfold Fair;infer_instance
def lP(b:Nat)(s:ByteArray)(sp:Bool)(w:qo):Prop:=w.heap[b]? =some (.cells #[qg s,qk sp] 517 (0,0))
theorem lP.cell0{b:Nat}{s:ByteArray}{bad:Bool}{w:qo}(h:lP b s bad w):w.cell? ⟨b,0,none⟩=some (qg s):=by rw[qI h];rfl
theorem lP.Hz{b:Nat}{s:ByteArray}{bad:Bool}{w:qo}(h:lP b s bad w):w.cell? ⟨b,1,none⟩=some (qk bad):=by rw[qI h];rfl
theorem lP.free{b:Nat}{s:ByteArray}{bad:Bool}{w:qo}(h:lP b s bad w)(i:Nat):w.frozen? ⟨b,i,none⟩=false:=xx h i
theorem lP.lt{b:Nat}{s:ByteArray}{bad:Bool}{w:qo}(h:lP b s bad w):b<w.heap.size:=qK h
theorem lP.drew{b:Nat}{s:ByteArray}{bad:Bool}{w:qo}(h:lP b s bad w):lP b s bad w.drew:=h
theorem lP.ag{b:Nat}{s:ByteArray}{bad:Bool}{w J:qo}(h:lP b s bad w)(k:qz w.heap.size w J):lP b s bad J:=(k.block b h.lt).trans h
theorem lP.agc{b:Nat}{s:ByteArray}{bad:Bool}{w:qo}(h:lP b s bad w)(t:ByteArray):lP b t bad (w.setCell ⟨b,0,none⟩ (qg t)):=by
 unfold lP;rw[heap_setCell_same w b 0 _ _ _ h];rfl
theorem lP.dn{b:Nat}{s:ByteArray}{bad:Bool}{w:qo}(h:lP b s bad w):lP b s true (w.setCell ⟨b,1,none⟩ (qk true)):=by
 unfold lP;rw[heap_setCell_same w b 1 _ _ _ h];rfl
theorem rP(s:ByteArray)(w:qo):qw qx 363 #[qg s] w fun e J=>e=qm (qi (some ⟨w.heap.size,0,none⟩))∧lP w.heap.size s false J∧qz w.heap.size w J∧J.heap.size=w.heap.size+1:=by
 go_enter func363,ntmps363;go_wp2
 go_ret;exact⟨rfl,qA _ _,aa w _,qc⟩
theorem jw(b:Nat)(s:ByteArray)(sp:Bool)(w:qo)(hp:lP b s sp w):
 qw qx 400 #[qi (some ⟨b,0,none⟩)] w fun e J=>e=qm (qj #[])∧lP b s true J∧ax b w J∧J.heap.size=w.heap.size:=by
 have HP:=Hd hp;have hc:=hp.Hz;have hf:=hp.free 1;clear hp;go_enter func400,ntmps400;go_wp2
 go_end0
 exact⟨rfl,HP.o.dn,(ax.refl _ _).setCell 1 _,qc⟩
theorem Ia(b:Nat)(s:ByteArray)(sp:Bool)(n:Nat)(h:sp=true∨s.size<n)(w:qo)(hp:lP b s sp w):
 qw qx 401 #[qi (some ⟨b,0,none⟩),U Z n] w fun e J=>e=qm (qj #[qg ⟨#[]⟩,qk false])∧lP b s true J∧ax b w J∧J.heap.size=w.heap.size:=by
 have HP:=Hd hp;have hc0:=hp.cell0;have hc1:=hp.Hz;clear hp
 cases sp with
 |true=>
  clear h;go_enter func401,ntmps401;go_wp2_with(go_at_call 400;refine(jw b _ _ _ HP.o).mono ?_;rintro e w1 ⟨rfl,hu,hb,hz⟩)
  go_ret2
  exact⟨rfl,hu,hb,hz⟩
 |false=>
  have aN:decide (s.size<n)=true:=qR (by have:=h.resolve_left qa;omega);clear h;go_enter func401,ntmps401;go_wp2_with(go_at_call 400;refine(jw b _ _ _ HP.o).mono ?_;rintro e w1 ⟨rfl,hu,hb,hz⟩)
  go_ret2
  exact⟨rfl,hu,hb,hz⟩
theorem vV(b:Nat)(s:ByteArray)(n:Nat)(h:n≤s.size)(w:qo)(hp:lP b s false w):
 qw qx 401 #[qi (some ⟨b,0,none⟩),U Z n] w fun e J=>e=qm (qj #[qg (s.extract 0 n),qk true])∧lP b (s.extract n s.size) false J∧ax b w J∧J.heap.size=w.heap.size:=by
 have HP:=Hd hp;have hc0:=hp.cell0;have hc1:=hp.Hz;have hf0:=hp.free 0;have aN:decide (s.size<n)=false:=qD Y;clear hp;go_enter func401,ntmps401;go_wp2
 go_ret2
 exact⟨rfl,HP.o.agc _,(ax.refl _ _).setCell 0 _,qc⟩
open ShiftW (vS pJ uT oe)
def pd(b:Nat)(l:List UInt8)(sp:Bool)(w:qo):Prop:= ∃s:ByteArray,lP b s sp w∧s.size≤140737488355328∧(sp=false→s.data.toList=l)
def gu(l:List UInt8)(sp:Bool)(n:Int):Option Nat:=if sp=false∧dC n∧n.toNat≤l.length∧ShiftP.ef (l.take n.toNat)<9223372036854775808 then some (ShiftP.ef (l.take n.toNat))else none
theorem pd.ag{b:Nat}{l:List UInt8}{sp:Bool}{w J:qo}(h:pd b l sp w)(k:qz w.heap.size w J):pd b l sp J:=by
 obtain⟨s,h1,h2⟩:=h;exact⟨s,h1.ag k,h2⟩
theorem pd.lt{b:Nat}{l:List UInt8}{sp:Bool}{w:qo}(h:pd b l sp w):b<w.heap.size:=h.choose_spec.1.lt
theorem vW(s:ByteArray)(n:Nat)(h:s.size=n)(hn:n≤8):uT s 0 n=qj #[.int .u64 (ShiftP.ef s.data.toList:Nat),qk true]:=by
 have hl:s.data.toList.length=n:=by simpa using h
 rw[uT,qH ⟨Y,Y,Y,Y,Y⟩,pJ]
 have:List.take (Int.toNat (n:Int)) (List.drop (Int.toNat 0) s.data.toList)=s.data.toList:=by
  simp only[Int.toNat_natCast,Int.toNat_zero,List.drop_zero];exact qT Y
 rw[this]
theorem Br(b:Nat)(s:ByteArray)(sp:Bool)(n:Int)(h: ¬dC n)(w:qo)(hp:lP b s sp w):
 qw qx 364 #[qi (some ⟨b,0,none⟩),U Z n] w fun e J=>e=qm (U Z 0)∧lP b s true J∧ax b w J∧J.heap.size=w.heap.size:=by
 have HP:=Hd hp;have HS:=Hd h;clear hp h;go_enter func364,ntmps364
 go_wp2_with(first
  |(go_at_call 390;refine(vT _ HS.o _).mono ?_;rintro e w1 ⟨rfl,rfl⟩)
  |(go_at_call 400;refine(jw b _ _ _ HP.o).mono ?_;rintro e w1 ⟨rfl,hu,hb,hz⟩))
 go_ret;exact⟨rfl,hu,hb,hz⟩
theorem FG(b:Nat)(s:ByteArray)(sp:Bool)(n:Nat)(hs:dC n)(h:sp=true∨s.size<n)(w:qo)(hp:lP b s sp w):
 qw qx 364 #[qi (some ⟨b,0,none⟩),U Z n] w fun e J=>e=qm (U Z 0)∧lP b s true J∧ax b w J∧J.heap.size=w.heap.size:=by
 have HP:=Hd hp;have HS:=Hd hs;have H:=Hd h;have HG:=Hd (show uT ⟨#[]⟩ 0 0=qj #[.int .u64 0,qk true]from vW ⟨#[]⟩ 0 rfl Y);clear hp h hs;go_enter func364,ntmps364
 go_wp2_with(first
  |(go_at_call 390;refine(fx _ HS.o _).mono ?_;rintro e w1 ⟨rfl,rfl⟩)
  |(go_at_call 401;refine(Ia b _ _ _ H.o _ HP.o).mono ?_;rintro e w1 ⟨rfl,hu1,hb1,hz1⟩;have HU:=Hd hu1;clear hu1)
  |(go_at_call 402;refine(oe _ _ _ qa _).mono ?_;rintro e w1 ⟨he,rfl⟩;obtain rfl:=he.trans (qX Ending.returned HG.o))
  |(go_at_call 400;refine(jw b _ _ _ HU.o).mono ?_;rintro e w1 ⟨rfl,hu,hb,hz⟩))
 go_ret;exact⟨rfl,hu,hb1.trans hb,hz.trans hz1⟩
theorem Np(b:Nat)(s:ByteArray)(n:Nat)(hs:dC n)(h:n≤s.size)(hv:ShiftP.ef (s.data.toList.take n)<9223372036854775808)(w:qo)(hp:lP b s false w):
 qw qx 364 #[qi (some ⟨b,0,none⟩),U Z n] w fun e J=>e=qm (U Z (ShiftP.ef (s.data.toList.take n):Nat))∧lP b (s.extract n s.size) false J∧ax b w J∧J.heap.size=w.heap.size:=by
 have HP:=Hd hp;have HS:=Hd hs;have H:=Hd h;have dY:(s.extract 0 n).size=n:=by simp;omega
 have hd:(s.extract 0 n).data.toList=s.data.toList.take n:=qc;have hn8:n≤8:=by unfold dC at hs;omega
 generalize hx:s.extract 0 n=x at*;have HX:=Hd hx;rw[←hd]at hv;rw[←hd];have HG:=Hd (show uT x 0 n=qj #[.int .u64 (ShiftP.ef x.data.toList:Nat),qk true]from vW x n dY hn8);have HZ:=Hd dY;generalize hg:ShiftP.ef x.data.toList=g at*
 have hq:((g:Int)/ 9223372036854775808 !=0)=false:=by
  have:((g:Int)/ 9223372036854775808)=((g/ 9223372036854775808:Nat):Int):=by rw[Int.natCast_ediv];rfl
  rw[this,Nat.div_eq_of_lt hv];rfl
 clear hp h hs hx dY hd hg;go_enter func364,ntmps364
 go_wp2_with(first
  |(go_at_call 390;refine(fx _ HS.o _).mono ?_;rintro e w1 ⟨rfl,rfl⟩)
  |(go_at_call 401;refine(vV b _ _ H.o _ HP.o).mono ?_;rintro e w1 ⟨he,hu,hb,hz⟩;rw[HX.o]at he;subst he)
  |(go_at_call 402;refine(oe _ _ _ (by have:=HZ.o;omega) _).mono ?_;rintro e w1 ⟨he,rfl⟩;rw[HZ.o,HG.o]at he;subst he))
 go_wp2
 go_ret;exact⟨rfl,hu,hb,hz⟩
theorem Nq(b:Nat)(s:ByteArray)(n:Nat)(hs:dC n)(h:n≤s.size)(hv: ¬ShiftP.ef (s.data.toList.take n)<9223372036854775808)(w:qo)(hp:lP b s false w):
 qw qx 364 #[qi (some ⟨b,0,none⟩),U Z n] w fun e J=>e=qm (U Z 0)∧(∃t:ByteArray,t.size≤s.size∧lP b t true J)∧ax b w J∧J.heap.size=w.heap.size:=by
 have HP:=Hd hp;have HS:=Hd hs;have H:=Hd h;have dY:(s.extract 0 n).size=n:=by simp;omega
 have hd:(s.extract 0 n).data.toList=s.data.toList.take n:=qc;have hn8:n≤8:=by unfold dC at hs;omega
 have Nr:ShiftP.ef (s.data.toList.take n)<18446744073709551616:=by
  have h1:=ShiftP.rK (s.data.toList.take n);have h2:(s.data.toList.take n).length≤8:=by simp;omega
  have h3:256^(s.data.toList.take n).length≤256^8:=xI Y h2;omega
 generalize hx:s.extract 0 n=x at*;have HX:=Hd hx;rw[←hd]at hv Nr;have HG:=Hd (show uT x 0 n=qj #[.int .u64 (ShiftP.ef x.data.toList:Nat),qk true]from vW x n dY hn8);have HZ:=Hd dY;generalize hg:ShiftP.ef x.data.toList=g at*
 have hq:((g:Int)/ 9223372036854775808 !=0)=true:=by
  have:((g:Int)/ 9223372036854775808)=((g/ 9223372036854775808:Nat):Int):=by rw[Int.natCast_ediv];rfl
  rw[this,bne_iff_ne];have:=Nat.div_pos (a:=g) (b:=9223372036854775808) Y Y;omega
 clear hp h hs hx dY hd hg;go_enter func364,ntmps364
 go_wp2_with(first
  |(go_at_call 390;refine(fx _ HS.o _).mono ?_;rintro e w1 ⟨rfl,rfl⟩)
  |(go_at_call 401;refine(vV b _ _ H.o _ HP.o).mono ?_;rintro e w1 ⟨he,hu1,hb1,hz1⟩;rw[HX.o]at he;subst he;have HU:=Hd hu1;clear hu1)
  |(go_at_call 402;refine(oe _ _ _ (by have:=HZ.o;omega) _).mono ?_;rintro e w1 ⟨he,rfl⟩;rw[HZ.o,HG.o]at he;subst he)
  |(go_at_call 400;refine(jw b _ _ _ HU.o).mono ?_;rintro e w1 ⟨rfl,hu,hb,hz⟩))
 go_wp2
 go_ret;exact⟨rfl,⟨_,qc,hu⟩,hb1.trans hb,hz.trans hz1⟩
def de(l:List UInt8)(sp:Bool)(n:Int):Int:=match gu l sp n with|some v=>(v:Int)|none=>0
def kZ(l:List UInt8)(sp:Bool)(n:Int):Bool:=(gu l sp n).isNone
theorem cw(b:Nat)(l:List UInt8)(sp:Bool)(n:Int)(w:qo)(hp:pd b l sp w):
 qw qx 364 #[qi (some ⟨b,0,none⟩),U Z n] w fun e J=>e=qm (U Z (de l sp n))∧pd b (l.drop n.toNat) (kZ l sp n) J∧ax b w J∧J.heap.size=w.heap.size:=by
 obtain⟨s,hu,dY,hl⟩:=hp;have hlen:s.data.toList.length=s.size:=qc;by_cases hs:dC n
 ·obtain⟨m,rfl⟩:=xo (show 0≤n by unfold dC at hs;omega);by_cases hc:sp=true∨s.size<m
  ·have iL:gu l sp m=none:=by
    rw[gu,qB];rintro⟨h1,h2,h3,h4⟩;rcases hc with hc|hc
    ·rw[h1]at hc;cases hc
    ·rw[←hl h1,Int.toNat_natCast]at h3;omega
   refine(FG b s sp m hs hc w hu).mono ?_;rintro e J⟨rfl,h1,h2,h3⟩;exact⟨by rw[de,iL],⟨s,by rw[kZ,iL];exact h1,dY,by rw[kZ,iL];intro h;cases h⟩,h2,h3⟩
  ·obtain rfl:sp=false:=by cases sp<;>simp_all
   have hm:m≤s.size:=Nat.le_of_not_lt fun h=>hc (.inr h);obtain rfl:=hl rfl;by_cases hv:ShiftP.ef (s.data.toList.take m)<9223372036854775808
   ·have Wc:gu s.data.toList false m=some (ShiftP.ef (s.data.toList.take m)):=by
     rw[gu,qH ⟨rfl,hs,by rw[Int.toNat_natCast];omega,by rw[Int.toNat_natCast];exact hv⟩,Int.toNat_natCast]
    refine(Np b s m hs hm hv w hu).mono ?_;rintro e J⟨rfl,h1,h2,h3⟩;refine⟨by rw[de,Wc],⟨_,by rw[kZ,Wc];exact h1,by simp;omega,fun _=>?_⟩,h2,h3⟩;rw[Int.toNat_natCast,xL,xJ,xE,qT qc]
   ·have iL:gu s.data.toList false m=none:=by
     rw[gu,qB];rintro⟨h1,h2,h3,h4⟩;rw[Int.toNat_natCast]at h4;exact hv h4
    refine(Nq b s m hs hm hv w hu).mono ?_;rintro e J⟨rfl,⟨t,ht,h1⟩,h2,h3⟩;exact⟨by rw[de,iL],⟨t,by rw[kZ,iL];exact h1,Y,by rw[kZ,iL];intro h;cases h⟩,h2,h3⟩
 ·have iL:gu l sp n=none:=by
   rw[gu,qB];rintro⟨h1,h2,h3,h4⟩;exact hs h2
  refine(Br b s sp n hs w hu).mono ?_;rintro e J⟨rfl,h1,h2,h3⟩;exact⟨by rw[de,iL],⟨s,by rw[kZ,iL];exact h1,dY,by rw[kZ,iL];intro h;cases h⟩,h2,h3⟩
def fK(l:List UInt8)(sp:Bool)(most:Int):Option (List UInt8):=
 if sp=false∧2≤l.length∧(ShiftP.ef (l.take 2):Int)≤most∧ShiftP.ef (l.take 2)≤l.length-2 then some ((l.drop 2).take (ShiftP.ef (l.take 2)))else none
def gv(l:List UInt8)(sp:Bool)(most:Int):ByteArray:=match fK l sp most with|some t=>⟨t.toArray⟩|none=>⟨#[]⟩
def iM(l:List UInt8)(sp:Bool)(most:Int):Bool:=(fK l sp most).isNone
theorem Kc(b:Nat)(l:List UInt8)(n:Nat)(h:n≤l.length)(w:qo)(hp:pd b l false w):
 qw qx 401 #[qi (some ⟨b,0,none⟩),U Z n] w fun e J=>e=qm (qj #[qg ⟨(l.take n).toArray⟩,qk true])∧
  pd b (l.drop n) false J∧ax b w J∧J.heap.size=w.heap.size:=by
 obtain⟨s,hu,dY,hl⟩:=hp;have hlen:s.data.toList.length=s.size:=qc;obtain rfl:=hl rfl;refine(vV b s n Y w hu).mono ?_;rintro e J⟨rfl,h1,h2,h3⟩;refine⟨?_,⟨_,h1,by simp;omega,fun _=>?_⟩,h2,h3⟩
 ·have:s.extract 0 n=⟨(s.data.toList.take n).toArray⟩:=by
   apply ByteArray.ext;rw[xL];apply Array.toList_inj.1;rw[xJ,xE];simp
  rw[this]
 ·rw[xL,xJ,xE,qT qc]
theorem rQ(b:Nat)(l:List UInt8)(sp:Bool)(n:Nat)(h:sp=true∨l.length<n)(w:qo)(hp:pd b l sp w):
 qw qx 401 #[qi (some ⟨b,0,none⟩),U Z n] w fun e J=>e=qm (qj #[qg ⟨#[]⟩,qk false])∧
  pd b [] true J∧ax b w J∧J.heap.size=w.heap.size:=by
 obtain⟨s,hu,dY,hl⟩:=hp;have hlen:s.data.toList.length=s.size:=qc;refine(Ia b s sp n ?_ w hu).mono ?_
 ·rcases h with h|h
  ·exact .inl h
  ·cases sp with
   |true=>exact .inl rfl
   |false=>right;obtain rfl:=hl rfl;omega
 ·rintro e J⟨rfl,h1,h2,h3⟩;exact⟨rfl,⟨s,h1,dY,by intro h;cases h⟩,h2,h3⟩
theorem vX(b:Nat)(l:List UInt8)(sp:Bool)(w:qo)(hp:pd b l sp w):
 qw qx 400 #[qi (some ⟨b,0,none⟩)] w fun e J=>e=qm (qj #[])∧pd b l true J∧ax b w J∧J.heap.size=w.heap.size:=by
 obtain⟨s,hu,dY,hl⟩:=hp;refine(jw b s sp w hu).mono ?_;rintro e J⟨rfl,h1,h2,h3⟩;exact⟨rfl,⟨s,h1,dY,by intro h;cases h⟩,h2,h3⟩
theorem Kd(b:Nat)(l:List UInt8)(sp:Bool)(most:Int)(w:qo)(hp:pd b l sp w):
 qw qx 403 #[qi (some ⟨b,0,none⟩),U Z most] w fun e J=>e=qm (qg (gv l sp most))∧(∃l',pd b l' (iM l sp most) J∧(iM l sp most=false→l'=(l.drop 2).drop (ShiftP.ef (l.take 2))))∧ax b w J∧J.heap.size=w.heap.size:=by
 have HP:=Hd hp;clear hp
 have h2:gu l sp 2=if sp=false∧2≤l.length then some (ShiftP.ef (l.take 2))else none:=by
  have hb:ShiftP.ef (l.take 2)<65536:=by
   have h1:=ShiftP.rK (l.take 2);have h2:(l.take 2).length≤2:=by simp;omega
   have h3:256^(l.take 2).length≤256^2:=xI Y h2;omega
  by_cases hc:sp=false∧2≤l.length
  ·rw[gu,qH ⟨hc.1,.inr (.inl rfl),hc.2,by simpa using (by omega:ShiftP.ef (l.take 2)<9223372036854775808)⟩,qH hc];rfl
  ·rw[gu,qB (fun h=>hc ⟨h.1,h.2.2.1⟩),qB hc]
 by_cases hc:sp=false∧2≤l.length
 ·obtain⟨rfl,hlen⟩:=hc;rw[qH ⟨rfl,hlen⟩]at h2;have hA:de l false 2=(ShiftP.ef (l.take 2):Nat):=by rw[de,h2]
  have hG:kZ l false 2=false:=by rw[kZ,h2];rfl
  generalize hv:ShiftP.ef (l.take 2)=v at*;have hdl:(l.drop 2).length=l.length-2:=qc
  have hvb:v<65536:=by
   have h1:=ShiftP.rK (l.take 2);have h2:(l.take 2).length≤2:=by simp;omega
   have h3:256^(l.take 2).length≤256^2:=xI Y h2;omega
  have HA:=Hd hA;have HG:=Hd hG;by_cases hm:(v:Int)≤most
  ·by_cases hq:v≤(l.drop 2).length
   ·have HR:Hid (gv l false most=⟨((l.drop 2).take v).toArray⟩∧iM l false most=false):=by
     apply Hd;have:fK l false most=some ((l.drop 2).take v):=by rw[fK,hv,qH ⟨rfl,hlen,hm,Y⟩]
     rw[gv,iM,this];exact⟨rfl,rfl⟩
    have HQ:=Hd hq;clear h2 hA hG hdl hlen hv hq;go_enter func403,ntmps403
    go_wp2_with(first
     |(go_at_call 364;refine(cw b _ _ _ _ HP.o).mono ?_;rintro e w1 ⟨he,hu,hb1,hz1⟩;rw[HA.o]at he;subst he;rw[HG.o]at hu;have HU:=Hd hu;clear hu)
     |(go_at_call 401;refine(Kc b _ _ HQ.o _ HU.o).mono ?_;rintro e w2 ⟨rfl,hu2,hb2,hz2⟩))
    go_ret;refine⟨?_,⟨_,?_,fun _=>rfl⟩,hb1.trans hb2,hz2.trans hz1⟩
    ·rw[HR.o.1];rfl
    ·rw[HR.o.2];exact hu2
   ·have HR:Hid (gv l false most=⟨#[]⟩∧iM l false most=true):=by
     apply Hd;have:fK l false most=none:=by rw[fK,hv,qB (fun h=>hq Y)]
     rw[gv,iM,this];exact⟨rfl,rfl⟩
    have HQ:Hid (false=true∨(l.drop 2).length<v):=Hd (.inr Y);clear h2 hA hG hdl hlen hv hq;go_enter func403,ntmps403
    go_wp2_with(first
     |(go_at_call 364;refine(cw b _ _ _ _ HP.o).mono ?_;rintro e w1 ⟨he,hu,hb1,hz1⟩;rw[HA.o]at he;subst he;rw[HG.o]at hu;have HU:=Hd hu;clear hu)
     |(go_at_call 401;refine(rQ b _ _ _ HQ.o _ HU.o).mono ?_;rintro e w2 ⟨rfl,hu2,hb2,hz2⟩))
    go_ret;refine⟨?_,⟨[],?_,?_⟩,hb1.trans hb2,hz2.trans hz1⟩
    ·rw[HR.o.1];rfl
    ·rw[HR.o.2];exact hu2
    ·rw[HR.o.2];intro h;cases h
  ·have hm':decide (most<(v:Int))=true:=qR Y
   have HR:Hid (gv l false most=⟨#[]⟩∧iM l false most=true):=by
    apply Hd;have:fK l false most=none:=by rw[fK,hv,qB (fun h=>hm Y)]
    rw[gv,iM,this];exact⟨rfl,rfl⟩
   clear h2 hA hG hdl hlen hv hm;go_enter func403,ntmps403
   go_wp2_with(first
    |(go_at_call 364;refine(cw b _ _ _ _ HP.o).mono ?_;rintro e w1 ⟨he,hu,hb1,hz1⟩;rw[HA.o]at he;subst he;rw[HG.o]at hu;have HU:=Hd hu;clear hu)
    |(go_at_call 400;refine(vX b _ _ _ HU.o).mono ?_;rintro e w2 ⟨rfl,hu2,hb2,hz2⟩;have HV:=Hd hu2;clear hu2)
    |(go_at_call 401;refine(rQ b _ _ _ (.inl rfl) _ HV.o).mono ?_;rintro e w3 ⟨rfl,hu3,hb3,hz3⟩))
   go_ret;refine⟨?_,⟨[],?_,?_⟩,(hb1.trans hb2).trans hb3,hz3.trans (hz2.trans hz1)⟩
   ·rw[HR.o.1];rfl
   ·rw[HR.o.2];exact hu3
   ·rw[HR.o.2];intro h;cases h
 ·rw[qB hc]at h2;have HA:Hid (de l sp 2=((0:Nat):Int)):=Hd (by rw[de,h2];rfl);have HG:Hid (kZ l sp 2=true):=Hd (by rw[kZ,h2];rfl)
  have HR:Hid (gv l sp most=⟨#[]⟩∧iM l sp most=true):=by
   apply Hd;have:fK l sp most=none:=by rw[fK,qB (fun h=>hc ⟨h.1,h.2.1⟩)]
   rw[gv,iM,this];exact⟨rfl,rfl⟩
  clear h2 hc;by_cases hm:most<0
  all_goals
   go_enter func403,ntmps403
   go_wp2_with(first
    |(go_at_call 364;refine(cw b _ _ _ _ HP.o).mono ?_;rintro e w1 ⟨he,hu,hb1,hz1⟩;rw[HA.o]at he;subst he;rw[HG.o]at hu;have HU:=Hd hu;clear hu)
    |(go_at_call 400;refine(vX b _ _ _ HU.o).mono ?_;rintro e w2 ⟨rfl,hu2,hb2,hz2⟩;have HV:=Hd hu2;clear hu2)
    |(go_at_call 401;refine(rQ b _ _ 0 (.inl rfl) _ HV.o).mono ?_;rintro e w3 ⟨rfl,hu3,hb3,hz3⟩)
    |(go_at_call 401;refine(rQ b _ _ 0 (.inl rfl) _ HU.o).mono ?_;rintro e w3 ⟨rfl,hu3,hb3,hz3⟩))
   go_ret
  ·refine⟨?_,⟨[],?_,?_⟩,(hb1.trans hb2).trans hb3,hz3.trans (hz2.trans hz1)⟩
   ·rw[HR.o.1];rfl
   ·rw[HR.o.2];exact hu3
   ·rw[HR.o.2];intro h;cases h
  ·refine⟨?_,⟨[],?_,?_⟩,hb1.trans hb3,hz3.trans hz1⟩
   ·rw[HR.o.1];rfl
   ·rw[HR.o.2];exact hu3
   ·rw[HR.o.2];intro h;cases h
def oM(l:List UInt8)(sp:Bool):Int:=if sp=true∨l≠[]then 11 else 0
theorem la(b:Nat)(l:List UInt8)(sp:Bool)(w:qo)(hp:pd b l sp w):
 qw qx 366 #[qi (some ⟨b,0,none⟩)] w fun e J=>e=qm (U Z (oM l sp))∧w=J:=by
 obtain⟨s,hu,dY,hl⟩:=hp;have c0:=hu.cell0;have c1:=hu.Hz;have hlen:s.data.toList.length=s.size:=qc
 cases sp with
 |true=>
  have H:=Hd (show oM l true=11 by simp[oM]);clear hu hl hlen;go_enter func366,ntmps366;go_wp2
  go_ret
  exact⟨aO H.o.symm,rfl⟩
 |false=>
  obtain rfl:=hl rfl;by_cases h0:s.size=0
  ·have H:=Hd (show oM s.data.toList false=0 by rw[oM,qB];simp only[reduceCtorEq,false_or,Decidable.not_not];exact xe Y);have hd:decide (0<s.size)=false:=qD Y;clear hu hl hlen h0;go_enter func366,ntmps366;go_wp2
   go_ret;exact⟨aO H.o.symm,rfl⟩
  ·have H:=Hd (show oM s.data.toList false=11 by rw[oM,qH];right;intro h;rw[h]at hlen;simp at hlen;omega);have hd:decide (0<s.size)=true:=qR Y;clear hu hl hlen h0;go_enter func366,ntmps366;go_wp2
   go_ret;exact⟨aO H.o.symm,rfl⟩
end PackW
namespace PackW
open Go.RowKit
open ShiftW (vS pJ uT)
end PackW
namespace PackW
open Go.RowKit
theorem pd.of{b:Nat}{s:ByteArray}{w:qo}(h:lP b s false w)(hs:s.size≤140737488355328):pd b s.data.toList false w:=⟨s,h,hs,fun _=>rfl⟩
open ShiftW (mG)
theorem cH.vY{B b:Nat}{l:List UInt8}{sp:Bool}{w J:qo}{x:Nat}{c:Array Value}{t:qu}{m:Nat×Nat}(h:cH B b l sp w)(k:ax x w J)(hx:w.heap[x]? =some (.cells c t m))(ht:t≠5)(bd:b≠x):cH B b l sp J:=by
 obtain⟨hB,p,v,hp,eo,aT,SI⟩:=h;refine⟨hB,p,v,hp,k.heap eo bd,k.iB aT ?_,SI⟩;rcases aT.2 with⟨rfl,_⟩|⟨g,cap,cur,rfl,_,hg,_⟩
 ·simp[Value.ownBlock]
 ·intro h;simp only[Value.ownBlock,Option.some.injEq]at h;subst h;rw[hg]at hx;injection hx with h5
  injection h5 with _ h6 _
  exact ht h6.symm
theorem XH.below{B:Nat}{oa:Option Addr}{n:Nat}{f:Nat→Fd}{w J:qo}(h:XH B oa n f w)(hb:qz B w J):XH B oa n f J:=by
 intro i hi;obtain⟨a,h1,h2,h3,h4,h5⟩:=h i hi;have eo: ∀j,(a.add j).block<B:=fun j=>by unfold Addr.add;split<;>exact h2
 exact⟨a,h1,h2,(hb.cell (eo _)).trans h3,(hb.cell (p:=⟨_,_,none⟩) (eo (i*3))).trans h4,(hb.cell (p:=⟨_,_,none⟩) (eo (i*3))).trans h5⟩
end PackW
namespace PackW
open Go.RowKit
theorem pd.any{b:Nat}{l:List UInt8}{w:qo}(h:pd b l true w)(l':List UInt8):pd b l' true w:=by
 obtain⟨s,h1,h2,_⟩:=h;exact⟨s,h1,h2,fun h=>by cases h⟩
theorem pd.vY{b x:Nat}{l:List UInt8}{sp:Bool}{w J:qo}(h:pd b l sp w)(k:ax x w J)(bd:b≠x):pd b l sp J:=by
 obtain⟨s,h1,h2⟩:=h;exact⟨s,k.heap h1 bd,h2⟩
def ur(l:List UInt8):List UInt8:=(l.drop 2).drop (ShiftP.ef (l.take 2))
theorem vZ(b:Nat)(l:List UInt8)(sp:Bool)(most:Int)(w:qo)(hp:pd b l sp w):
 qw qx 403 #[qi (some ⟨b,0,none⟩),U Z most] w fun e J=>e=qm (qg (gv l sp most))∧pd b (ur l) (iM l sp most) J∧ax b w J:=by
 refine(Kd b l sp most w hp).mono ?_;rintro e J⟨rfl,⟨l',h1,h2⟩,h3,h4⟩;refine⟨rfl,?_,h3⟩
 cases hg:iM l sp most with
 |true=>rw[hg]at h1;exact h1.any _
 |false=>rw[hg]at h1 h2;rw[ur,←h2 rfl];exact h1
def XI(B:Nat)(oa:Option Addr)(n:Nat)(f:Nat→Int)(w:qo):Prop:=
 ∀i,i<n→ ∃a,oa=some a∧a.block<B∧w.cell? (a.add i)=some (U Z (f i))
theorem XI.below{B:Nat}{oa:Option Addr}{n:Nat}{f:Nat→Int}{w J:qo}(h:XI B oa n f w)(hb:qz B w J):XI B oa n f J:=by
 intro i hi;obtain⟨a,h1,h2,h3⟩:=h i hi;exact⟨a,h1,h2,(hb.cell (by unfold Addr.add;split<;>exact h2)).trans h3⟩
