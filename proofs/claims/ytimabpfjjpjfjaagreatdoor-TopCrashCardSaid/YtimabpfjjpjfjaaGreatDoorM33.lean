/- Part 33 of the texts that the law's walk needs. -/
import Derived.Test.YtimabpfjjpjfjaaGreatDoorM09
import Derived.Test.YtimabpfjjpjfjaaGreatDoorM22
import Derived.Test.YtimabpfjjpjfjaaGreatDoorM29
set_option maxHeartbeats 3200000
set_option maxRecDepth 100000
set_option linter.all false
open Go renaming World→qo
open Go.Value renaming int→U
open Go.IntKind renaming i64→Z
namespace Go.Proofs.YtimabpfjjpjfjaaGreatDoor
open Tryz
namespace bq
open Go.RowKit cN
theorem GI(a:Ha):(fH a).length=3:=rfl
theorem GJ(a:Ha): ∀v∈fH a,v.oneCell'=true:=by
 intro v hv;simp[fH]at hv;rcases hv with rfl|rfl|rfl<;>rfl
theorem adN:Sl.Fy kl:=⟨tn,fun _ _ _=>vO,VZ⟩
theorem adO(w:qo):(isAgg 400).run prog w= .ok true w:=qd
theorem ZG(w:qo):(Go.sizeOf 400).run prog w= .ok 3 w:=qd
theorem UO: ∀args w,(callFunc 337 args).run prog w= .ok (.enter 337 args) w:=enters_of func337 qd rfl
instance:Inhabited Ha:=⟨⟨0,0,0⟩⟩
theorem GK{L Jq:List Ha}(hL:bg L)(hn:Jq.Nodup)(hm: ∀a,a∈Jq↔a∈L)(B:Nat)(v:Value)(w:qo)(hB:B≤w.heap.size)(hr:RowK 400 fH 3 B w v Jq)(hlen:Jq.length<4611686018427387904):
 Calls prog 336 #[v,.func (.func 337) #[] #[]] w fun e J=>e= .returned (.tuple #[])∧RowK 400 fH 3 B J v L∧Below B w J:=
 PO Tryz.adF 400 3 Y adO ZG fH GI GJ Zz ahu 337 UO (fun x y W=>closure x y W) adN (fun a b=>by rw[sI];simp) hL hn hm B v w hB hr hlen
theorem EE:(prog.info? 400).map (fun i=>(i.zero,i.size,i.bytes))=some (some (.agg #[U Z 0,U Z 0,U Z 0]),3,24):=qd
theorem LK(L:List Ha)(h: ∀a∈L,0≤a.c∧a.c<8):L.length=count L 0+count L 1+count L 2+count L 3+count L 4+count L 5+count L 6+count L 7:=by
 induction L with
 |nil=>rfl
 |cons a L ih=>
  have:=ih (fun b hb=>h b (by simp[hb]));have ha:=h a qc;unfold count at*;simp only[List.countP_cons,xf,qC];have:a.c=0∨a.c=1∨a.c=2∨a.c=3∨a.c=4∨a.c=5∨a.c=6∨a.c=7:=Y;rcases this with e|e|e|e|e|e|e|e<;>rw[e]<;>simp<;>omega
theorem pn.len{L:List Ha}{ls:List Int}(h:pn L ls):L.length≤128:=by
 have:=LK L (fun a ha=>by have:=h.fits a ha;omega);have:=h.Ah;have:=this 0;have:=h.Ah 1;have:=h.Ah 2;have:=h.Ah 3;have:=h.Ah 4;have:=h.Ah 5;have:=h.Ah 6;have:=h.Ah 7;omega
structure MO(L:List Ha)(seen:Int×Int→Bool)(Jq:List Ha):Prop where
 nodup:Jq.Nodup
 mem: ∀a,a∈Jq↔a∈L∧seen a.key=true
theorem MO.nil(L:List Ha):MO L (fun _=>false) []:=⟨List.nodup_nil,qc⟩
theorem MO.snoc{L Jq:List Ha}{seen:Int×Int→Bool}(h:MO L seen Jq)(hL:bg L){x:Int×Int}{i:Int}(hx:cN.look L x=some i)(hs:seen x=false):MO L (fun z=>seen z||decide (z=x)) (Jq++[⟨x.1,x.2,i⟩]):=by
 have hm:=(dc hL x i).1 hx;refine⟨?_,fun a=>?_⟩
 ·refine List.nodup_append.2 ⟨h.nodup,qc,fun a ha b hb=>?_⟩;simp only[qS]at hb;subst hb;rintro rfl;have:=((h.mem _).1 ha).2;have e:(⟨x.1,x.2,i⟩:Ha).key=x:=rfl;rw[e,hs]at this;cases this
 ·rw[xa,h.mem,qS];constructor
  ·rintro(⟨h1,h2⟩|rfl)
   ·exact⟨h1,by simp[h2]⟩
   ·exact⟨hm,by simp[Ha.key]⟩
  ·rintro⟨h1,h2⟩;simp only[Bool.or_eq_true,qC]at h2;rcases h2 with h2|h2
   ·exact .inl ⟨h1,h2⟩
   ·refine .inr (key_inj hL h1 hm ?_);rw[h2];rfl
theorem MO.all{L Jq:List Ha}{seen:Int×Int→Bool}(h:MO L seen Jq)(hL:bg L)(hd: ∀x,cN.look L x≠none→seen x=true): ∀a,a∈Jq↔a∈L:=by
 intro a;rw[h.mem];refine⟨fun h=>h.1,fun ha=>⟨ha,hd _ ?_⟩⟩;rw[(dc hL a.key a.i).2 ha];simp
theorem MO.len{L Jq:List Ha}{seen:Int×Int→Bool}(h:MO L seen Jq):Jq.length≤L.length:=Sl.zV h.nodup fun a ha=>((h.mem a).1 ha).1
def vu(w:qo)(b r n:Nat)(g:Int×Int→Option Int)(seen:Int×Int→Bool)(cT:Nat):Prop:=aI Wd lQ kg w b r n g seen cT
theorem vt(hb b:Nat)(L:List Ha)(ls:List Int)(w:qo)(h:lT w hb b L ls):
 Calls prog 272 #[.pointer (some ⟨hb,0,none⟩)] w fun e J=> ∃v,e= .returned v∧RowK 400 fH 3 w.heap.size J v L∧Below w.heap.size w J:=by
 obtain⟨i0,hi,hz0,hz1,hz2⟩:=info_parts EE;have HL:=Hd h.cV.dU;have ea:=Hd h.cV.len;obtain⟨N,hm⟩:=h.map;have HM:=Hd hm;have h0:=h.m0;have rm:=an.lt hm;clear h hm;go_enter func272,ntmps272;go_wp2_with(at_range;go_loud (refine lf _ rfl _ 215 3 rfl underlying215 b N _ HM.o (by rfl) ?_;intro w4 ahD hr4 hc4 hb4 hs4;have pj:Hid (vu w4 b w.heap.size N (cN.look L) (fun _=>false) ahD):=Hd hr4;have dp:=Hd hb4;have cA:=Hd hs4;clear hr4 hb4 hc4 hs4))
 go_frame
 have HR:Hid (w.heap.size≠b):=Hd Y;obtain⟨r,hr⟩: ∃r,r=w.heap.size:=⟨_,rfl⟩;rw[←hr]at HR pj cA⊢;have tc:=Hd hr;clear hr rm h0
 go_loopw [3] (fun v wr=> ∃(seen:Int×Int→Bool) (cT:Nat) (Jq:List Ha),vu wr b r N (cN.look L) seen cT∧RowK 400 fH 3 (r+1) wr v Jq∧r<wr.heap.size∧MO L seen Jq∧Below w.heap.size w wr) (fun _ wr=>rangeLeft wr b r)
 case atStart=>exact⟨_,_,[],pj.o,RowK.nil _ _,by have:=cA.o;omega,MO.nil L,dp.o⟩
 case round=>
  obtain⟨seen,cT,Jq,PW,aW,adP,ZH,dz⟩:=hrel;have ahE:=Hd adP;have HG:=Hd PW;have ZI:=Hd ZH;have HB:=Hd dz;have PX:=Hd (aI.left PW);have Ac:=ZH.len;have hlen:=ea.o;clear ZH PW adP;go_wp2_with(at_next;go_loud (refine mr _ rfl _ rfl wh b r N cT _ seen (by rfl) HG.o ?_ ?_))
  ·intro IN;have MX:=Hd (ZI.o.all HL.o (fun x hx=>IN x.1 x.2 hx));have uS:=Hd aW;have HJ:Hid (Jq.length<4611686018427387904):=Hd Y;clear IN aW dz Ac hlen;go_wp2_with(go_at_call 336;refine(GK HL.o ZI.o.nodup MX.o (r+1) _ _ (by have:=ahE.o;omega) uS.o HJ.o).mono ?_;rintro e w7 ⟨rfl,hr7,hb7⟩;have HR7:=Hd hr7;have Kk:=Hd hb7;clear hr7 hb7)
   go_ret;exact⟨_,rfl,by rw[←tc.o];exact HR7.o.mono Y,HB.o.trans (Kk.o.mono (by have:=tc.o;omega))⟩
  ·intro c n i w5 PY YW Gs hsx hr5 hc5 ho5 hs5 Nt;have ada:(Instr.entry (.pointer (some ⟨r,0,none⟩))).run prog w5= .ok (.tuple #[.agg #[U Z c,U Z n],U Z i]) w5:=Nt;have kS:Hid (vu w5 b r N (cN.look L) (fun z=>seen z||decide (z=(c,n))) PY):=Hd hr5;have MG:Hid (MO L (fun z=>seen z||decide (z=(c,n))) (Jq++[⟨c,n,i⟩])):=Hd (ZI.o.snoc HL.o Gs hsx);have dP:=Hd hc5;have gx:=Hd (HB.o.trans (ho5.below (by have:=tc.o;omega) HB.o.size));obtain⟨oa2,dd,rfl,hc2,_,_⟩:=aW.form
   have ei:Hid (w5.ownsRow (r+1) 400 3 (.slice oa2 Jq.length dd) Jq.length (Jq.flatMap fH)):=Hd (ho5.iB aW (fun e=>by
    have:=(World.ownsRow.lt aW) _ e;omega))
   have hrs:r<w5.heap.size:=aI.lt hr5;clear Nt YW Gs hsx hr5 hc5 ho5 hs5 aW dz;go_wp2_with(at_builtin;go_loud (refine bw rfl _ _ 305 rfl (r+1) 400 i0 (.agg #[U Z 0,U Z 0,U Z 0]) 3 24 underlying305 hi hz0 hz1 hz2 rfl qa _ _ _ (by rfl) (ei.o.alloc _) _ 1 1 (by rfl) rfl (GJ ⟨c,n,i⟩) (by unfold maxLen;omega) Y (by simp;omega) qc ?_;intro oa5 kF w6 fE nf _;have dT:=Hd fE;have jd:=Hd nf;clear fE nf))
   have hr6:vu w6 b r N (cN.look L) (fun z=>seen z||decide (z=(c,n))) PY:=aI.tu (aI.ag kS.o (aa _ _)) (jd.o.block b (by have:=HB.o.size;have:=tc.o;have:=an.lt HM.o;omega)) (jd.o.block r Y);refine⟨⟨_,PY,_,hr6,RowK.snoc ⟨c,n,i⟩ rfl rfl dT.o,by have:=jd.o.size;simp at this;omega,MG.o,?_⟩,by rw[aI.left hr6,PX.o];exact dP.o⟩;exact gx.o.trans (((aa w5 _).mono gx.o.size).trans (jd.o.mono (by have:=tc.o;omega)))
