/- Part 41 of the texts that the law's walk needs. -/
import Derived.Test.YtimabpfjjpjfjaaGreatDoorM39
import Derived.Test.YtimabpfjjpjfjaaGreatDoorM40
set_option maxHeartbeats 3200000
set_option maxRecDepth 100000
set_option linter.all false
open Go renaming World→qo,Value→qp,Calls→qw
open Go.RowKit renaming Below→qz,Hid→qy
open Go.Value renaming slice→qh,agg→ql,int→U,pointer→qi
open Go.IntKind renaming i64→Z
open Go.Ending renaming returned→qm
open Go.Obj renaming cells→qn
namespace Go.Proofs.YtimabpfjjpjfjaaGreatDoor
open Tryz
open Tryz renaming prog→qx
namespace TopW
open Go.RowKit OpW
open OpP (Rec)
variable{w J w1 w2 wm:qo}{M:List Nat}{G:WK}{S:WS}{B k m ab fb tb mb mn:Nat}{t tt:iI}{r:Rec}{at' i a v:Int}{ph:Bool}{d:Dn}{Q:qo→Prop}{K:CK}{th:qp}{c:CS}
theorem aeG(p q:Nat):(⟨179,#[pV p,pV q]⟩:iI).ok:=fun _ _=>rfl
structure VF(w:qo)(K:CK)(th:qp)(tt:iI):Prop where
 ex: ∃p q,th= .func (.func 179) #[] #[pV p,pV q]∧Bx w p 39 (pV K.cb)∧Bx w q 1 tt.v
theorem VF.ag(h:VF w K th tt)(g:Ch M w J):VF J K th tt:=by
 obtain⟨p,q,h0,h1,h2⟩:=h.ex;exact⟨p,q,h0,h1.ag g qa,h2.ag g qa⟩
structure Ho(B:Nat)(w:qo)(G:WK)(S:WS)(k tb:Nat)(tt:iI):Prop where
 sy:Sy B w G S
 cur:(S.s k).cur= .iface iY (pV tb)
 x:VF w (G.K k) (S.s k).th tt
 ta:mh w tb 1 0
 fO:tb∉G.soft∧B≤tb
 over:(S.s k).over=false
theorem Ho.Sv(h:Ho B w G S k tb tt):VB w (G.K k):=⟨_,h.sy.wi.k k,.inr (.inr (.inr ⟨tb,_,_,qa,h.cur,h.ta⟩))⟩
theorem Ho.mm(h:Ho B w G S k tb tt): ∀x∈tb::(G.K k).soft,x<w.heap.size∧x≠G.wb∧B≤x:=fun x hx=>by
 rcases qG.1 hx with rfl|hx
 ·exact⟨h.ta.lt,fun e=>h.fO.1 (by rw[e];simp[WK.soft]),h.fO.2⟩
 ·exact⟨h.sy.wi.lt x (WK.gY k hx),h.sy.wi.Mx k x hx,h.sy.ge x (WK.gY k hx)⟩
theorem VG(hk:k<2)(n j:Nat)(hn:n≤4000)(hj:j≤n)(h:Ho B w G S k tb tt)(Mh:tt.ok)(ht:S.t=(n:Nat))(hV:(S.s k).V.n=(j:Nat))
 (HT:j=n→ ∀w1,Sy B w1 G (S.set k {S.s k with cur:= .nilIface})→(∃M,Ch M w w1)→eN tt #[] w1 (fun J=>oK B G k d Q m J∧Ch (G.K k).soft w1 J))
 (HC:j<n→ ∀J X Yq fb',(∃M,Ch M w J)→zQ B J G (S.set k {S.s k with cur:=X,th:=Yq}) k fb' (n:Nat) tt→oK B G k d Q m J):oK B G k d Q (m+1) w:=by
 have ht':0≤S.t∧S.t≤16384:=Y;refine lB (M:=tb::(G.K k).soft) hk h.sy h.over h.Sv 7 0 0 0 0 0 ⟨#[]⟩ (nM S.t) h.mm (fun w1 w2=>qz w1.heap.size w1 w2) ?_ ?_ ?_
 ·intro w1 hb hs;exact lA iY tb 531 7 0 0 0 0 0 ⟨#[]⟩ h.cur UU (fun _ _=>rfl) w1 (hs.wi.k k) (fun w2 hb2=>Zd tb 0 w2 (h.ta.ag (M:=[]) (Ch.af (ai hb hb2)) qc))
 ·intro w1 hb hs;exact(Lp ht' 0 0 0 ⟨#[]⟩ w1 hs.wi.nodes).mono fun e J ⟨h1,h2⟩=>⟨h1,h2,Ch.af h2⟩
 ·intro w1 w2 hb hs hb2 _;have hs2:=hs.grow hb2;have so:=ai hb hb2;have hta:mh w2 tb 1 0:=h.ta.ag (M:=[]) (Ch.af so) qc;refine jE iY tb 532 S.t ⟨#[]⟩ h.cur Ra (fun _ _=>rfl) w2 (fun J=>jb B G.wb k d Q m J∧Ch (tb::(G.K k).soft) w2 J) (fun J=>mh J tb 2 S.t) (hs2.wi.k k) (fun hm=>h.fO.1 (WK.gY k hm)) hta.lt ?_ ?_
  ·intro w3 hb3;exact(Ut tb S.t ht' w3 (hta.ag (M:=[]) (Ch.af hb3) qc)).mono fun e J ⟨h1,h2,h3⟩=>⟨h1,h2,h3⟩
  ·intro w3 hr uJ hc3;obtain⟨p1,p2,Fv,x1,x2⟩:=(h.x.ag (M:=[]) (Ch.af so)).ex;have hs3:=hs2.ag hc3 (h.sy.sN h.fO.1) (fun x hx=>by simp only[qS]at hx;rw[hx];exact h.fO.2);have g3:Ch [tb] w w3:=Ch.pre so hc3;refine cW ?_ (zM ⟨179,#[pV p1,pV p2]⟩ (aeG _ _) Fv tb S.t h.cur w3 (fun J=>oK B G k d Q m J∧Ch (G.K k).soft w3 J) uJ hr ?_ ?_ ?_)
   ·rintro e w4⟨h1,h2,h3⟩;exact⟨h1,h2.2,(hc3.mono (fun x hx=>by simp only[qS]at hx;simp[hx])).aq (h3.mono (fun x hx=>by simp[hx]))⟩
   ·intro w4 hc4 dy;have hs4:Sy B w4 G (S.set k {S.s k with cur:= .nilIface}):=hs3.cl hk hc4 (dy.mono bQ);have g4:Ch (tb::(G.K k).soft) w w4:=(g3.mono (fun x hx=>by simp only[qS]at hx;simp[hx])).aq (dy.mono (fun x hx=>qV _ (bQ x hx)));unfold eN
    refine cW ?_ (Ck (c:={S.s k with cur:= .nilIface}) S.t tt Mh ⟨by show 0≤(S.s k).V.n;omega,by show(S.s k).V.n≤_;omega,ht'.2⟩ p1 p2 w4 (fun J=>oK B G k d Q m J∧Ch (G.K k).soft w3 J) hc4
     ((x1.ag hc3 qa).ag dy qa) ((x2.ag hc3 qa).ag dy qa) ?_)
    ·rintro e w5⟨h1,wm,Bq,hcr⟩;refine⟨h1,?_⟩;rcases hcr with⟨_,hq⟩|⟨aN,hw⟩
     ·exact hq
     ·obtain⟨X,Yq,fb',hp,fT⟩:=Hn (S:=S.set k {S.s k with cur:= .nilIface}) hk hs4 Bq hw h.over aN;rw[WS.set_set,ht]at hp;have alY:(S.s k).V.n<S.t:=aN;exact⟨HC Y w5 X Yq fb' ⟨_,g4.aq (fT.mono (fun x hx=>qV _ hx))⟩ hp,(dy.mono bQ).aq fT⟩
    ·intro e w5 hc5 fT;have e':(S.s k).V.n=S.t:=e;have hs5:Sy B w5 G (S.set k {S.s k with cur:= .nilIface}):=by have:=hs4.cl hk hc5 (fT.mono bQ);rwa [WS.set_set]at this
     exact(HT Y w5 hs5 ⟨_,g4.aq (fT.mono (fun x hx=>qV _ (bQ x hx)))⟩).imp fun J ⟨h1,h2⟩=>⟨h1,((dy.aq fT).mono bQ).aq h2⟩
   ·rintro w4⟨h1,_⟩;obtain⟨c',e1,e2⟩:=h1.1;exact⟨c',e1,e2⟩
   ·rintro w4 w5⟨h1,h2⟩hb5;exact⟨h1.grow hb5,h2.step hb5⟩
theorem RD(hk:k<2)(h:Sy B w G S)(hw:oT w J (G.K k) c tt)(ho:c.over=false):
 ∃X Yq tb,Ho B J G (S.set k {c with cur:=X,th:=Yq}) k tb tt∧Ch (G.K k).soft w J:=by
 obtain⟨tb,p,q,h0,h1,h2,h3,h4⟩:=hw.ex;have hc:Ch (G.K k).soft w J:=hw.ch.mono bQ;have hs:=h.cl hk h0 hc;refine⟨_,_,tb,⟨hs,by rw[WS.aM],?_,h1,?_,?_⟩,hc⟩
 ·rw[WS.aM];exact⟨p,q,rfl,h2,h3⟩
 ·exact⟨fun hm=>by have:=h.wi.lt tb hm;omega,by have:=h.le;omega⟩
 ·rw[WS.aM];exact ho
theorem aeH(p q s u v:Nat):(⟨328,#[pV p,pV q,pV s,pV u,pV v]⟩:iI).ok:=fun _ _=>rfl
structure RdX(w:qo)(K:CK)(th:qp)(oa:Option Addr)(n cap mb:Nat)(t:iI):Prop where
 ex: ∃p5 p6 p7 p8 p9,th= .func (.func 328) #[] #[pV p8,pV p5,pV p7,pV p6,pV p9]∧Bx w p5 39 (pV K.cb)∧Bx w p6 35 (qh oa n cap)∧Bx w p7 298 (.map (some mb))∧Bx w p8 1 (Vc K)∧Bx w p9 300 t.v
theorem RdX.ag{oa:Option Addr}{n cap:Nat}(h:RdX w K th oa n cap mb t)(g:Ch M w J):RdX J K th oa n cap mb t:=by
 obtain⟨p5,p6,p7,p8,p9,h0,h1,h2,h3,h4,h5⟩:=h.ex;exact⟨p5,p6,p7,p8,p9,h0,h1.ag g qa,h2.ag g qa,h3.ag g qa,h4.ag g qa,h5.ag g qa⟩
structure PcX(w:qo)(K:CK)(p q:Nat)(pl:List ExtW.Pt):Prop where
 p:Bx w p 39 (pV K.cb)
 q: ∃ro rc,Bx w q 93 (qh ro pl.length rc)∧iZ w ro pl.length rc pl
theorem PcX.ag{p q:Nat}{pl:List ExtW.Pt}(h:PcX w K p q pl)(g:Ch M w J):PcX J K p q pl:=by
 obtain⟨ro,rc,h1,h2⟩:=h.q;exact⟨h.p.ag g qa,ro,rc,h1.ag g qa,h2.ag g⟩
structure Xn(B:Nat)(w:qo)(G:WK)(S:WS)(k fb mb mn:Nat)(a:Int)(l:List Int)(g:Int→Option ByteArray)(p q:Nat)(pl:List ExtW.Pt):Prop where
 sy:Sy B w G S
 cur:(S.s k).cur= .iface gm (pV fb)
 x: ∃oa n cap,RdX w (G.K k) (S.s k).th oa n cap mb (zN p q)∧kP w oa n cap (a::l)
 fe:jt w fb a false 2 0 ⟨#[]⟩
 fO:fb∉G.soft∧B≤fb
 dt:ke w mb mn g
 zR:mb∉G.soft∧B≤mb
 ne:mb≠fb
 over:(S.s k).over=false
 pc:PcX w (G.K k) p q pl
theorem Xn.Sv{l:List Int}{g:Int→Option ByteArray}{p q:Nat}{pl:List ExtW.Pt}(h:Xn B w G S k fb mb mn a l g p q pl):VB w (G.K k):=⟨_,h.sy.wi.k k,.inr (.inr (.inl ⟨fb,_,_,_,_,_,qa,h.cur,h.fe⟩))⟩
theorem Xn.mm{l:List Int}{g:Int→Option ByteArray}{p q:Nat}{pl:List ExtW.Pt}(h:Xn B w G S k fb mb mn a l g p q pl): ∀x∈fb::mb::(G.K k).soft,x<w.heap.size∧x≠G.wb∧B≤x:=fun x hx=>by
 rcases qG.1 hx with rfl|hx
 ·exact⟨h.fe.lt,fun e=>h.fO.1 (by rw[e];simp[WK.soft]),h.fO.2⟩
 ·rcases qG.1 hx with rfl|hx
  ·exact⟨h.dt.lt,fun e=>h.zR.1 (by rw[e];simp[WK.soft]),h.zR.2⟩
  ·exact⟨h.sy.wi.lt x (WK.gY k hx),h.sy.wi.Mx k x hx,h.sy.ge x (WK.gY k hx)⟩
variable{p q:Nat}{pl:List ExtW.Pt}{l:List Int}{g:Int→Option ByteArray}
theorem RE(h:Sy B w G S)(k:Nat):(G.K k).cb∈G.soft:=WK.gY k (bQ _ qc)
theorem Xo{oa:Option Addr}{n cap:Nat}(hk:k<2)(h:Sy B wm G S)(hw:RdW wm J (G.K k) c oa n cap mb (zN p q) a)(ho:c.over=false)(hA:kP wm oa n cap (a::l))(hM:ke wm mb mn g)(zG:mb∉G.soft∧B≤mb)(hpc:PcX wm (G.K k) p q pl):
 ∃X Yq fb,Xn B J G (S.set k {c with cur:=X,th:=Yq}) k fb mb mn a l g p q pl∧Ch (G.K k).soft wm J:=by
 obtain⟨fb,p5,p6,p7,p8,p9,h0,h1,h2,h3,h4,h5,h6,h7⟩:=hw.ex;have hc:Ch (G.K k).soft wm J:=hw.ch.mono bQ;have hs:=h.cl hk h0 hc;have bd:mb∉[(G.K k).cb]:=fun hm=>zG.1 (by simp only[qS]at hm;rw[hm];exact RE h k);refine⟨_,_,fb,⟨hs,by rw[WS.aM],?_,h1,?_,hM.ag hw.ch bd,zG,?_,?_,hpc.ag hc⟩,hc⟩
 ·rw[WS.aM];exact⟨oa,n,cap,⟨p5,p6,p7,p8,p9,rfl,h2,h3,h4,h5,h6⟩,hA.ag hc⟩
 ·exact⟨fun hm=>by have:=h.wi.lt fb hm;omega,by have:=h.le;omega⟩
 ·have:=hM.lt;omega
 ·rw[WS.aM];exact ho
theorem RF(hk:k<2)(j:Nat)(hj:j<4000)(h:Xn B w G S k fb mb mn (j:Nat) l g p q pl)(hl: ∀z∈l,0≤z∧z<16384)(hmn:mn≤100000)(ht:Ce (OpW.encS r) r)(RG:r.k=10)(hpg:S.pg (2*(j%2)+1) ((j/ 2:Nat):Int)=some (OpW.encS r))
 (HT:l=[]→ ∀w1,Sy B w1 G (S.set k {S.s k with cur:= .nilIface})→ke w1 mb (mn+1) (fun z=>if z=((j:Nat):Int)then some r.d else g z)→PcX w1 (G.K k) p q pl→eN (zN p q) #[.map (some mb)] w1 (fun J=>oK B G k d Q m J∧Ch (G.K k).soft w1 J))
 (HC: ∀a' l',l=a'::l'→ ∀J X Yq fb',Xn B J G (S.set k {S.s k with cur:=X,th:=Yq}) k fb' mb (mn+1) a' l' (fun z=>if z=((j:Nat):Int)then some r.d else g z) p q pl→oK B G k d Q m J):oK B G k d Q (m+1) w:=by
 have ha:(0:Int)≤(j:Nat)∧((j:Nat):Int)<16384:=Y;refine lB (M:=fb::mb::(G.K k).soft) hk h.sy h.over h.Sv 3 ((2*(j%2)+1:Nat):Int) 0 ((j/ 2:Nat):Int) 0 0 ⟨#[]⟩ (tT (OpW.encS r)) h.mm (fun w1 w2=>qz w1.heap.size w1 w2) ?_ ?_ ?_
 ·intro w1 hb hs;exact lA gm fb 539 3 _ 0 _ 0 0 ⟨#[]⟩ h.cur Jl (fun _ _=>rfl) w1 (hs.wi.k k) (fun w2 hb2=>Qe fb _ false 0 ⟨#[]⟩ _ (j%2) Y ha (tm j) (td j) _ rfl w2 (h.fe.ag (M:=[]) (Ch.af (ai hb hb2)) qc))
 ·intro w1 hb hs;exact(AQ (2*(j%2)+1) Y _ Y (OpW.encS r) hpg 0 0 ⟨#[]⟩ w1 hs.wi.nodes).mono fun e J ⟨h1,h2⟩=>⟨h1,h2,Ch.af h2⟩
 ·intro w1 w2 hb hs hb2 _;have hs2:=hs.grow hb2;have so:=ai hb hb2;have hfe:jt w2 fb (j:Nat) false 2 0 ⟨#[]⟩:=h.fe.ag (M:=[]) (Ch.af so) qc;refine jE gm fb 540 0 (OpW.encS r) h.cur EL (fun _ _=>rfl) w2 (fun J=>jb B G.wb k d Q m J∧Ch (fb::mb::(G.K k).soft) w2 J) (fun J=>jt J fb (j:Nat) false 6 1 (OpW.encS r)) (hs2.wi.k k) (fun hm=>h.fO.1 (WK.gY k hm)) hfe.lt ?_ ?_
  ·intro w3 hb3;exact(IS fb false (OpW.encS r) _ _ (j%2) Y ha (tm j) (td j) w3 (hfe.ag (M:=[]) (Ch.af hb3) qc)).mono fun e J ⟨h1,h2,h3⟩=>⟨h1,h2,h3⟩
  ·intro w3 hr uJ hc3;obtain⟨oa,n,cap,hx,AU⟩:=h.x;have gb:Ch [] w w2:=Ch.af so;obtain⟨p5,p6,p7,p8,p9,Fv,x5,x6,x7,x8,x9⟩:=(hx.ag gb).ex;have hs3:=hs2.ag hc3 (h.sy.sN h.fO.1) (fun x hx=>by simp only[qS]at hx;rw[hx];exact h.fO.2);have aio:=(h.dt.ag gb qc).ag hc3 (by simp only[qS];exact h.ne);have aip:=(AU.ag gb).ag hc3;have aeI:=(h.pc.ag gb).ag hc3;refine cW ?_ (pE ⟨328,#[pV p8,pV p5,pV p7,pV p6,pV p9]⟩ (aeH _ _ _ _ _) Fv fb _ false (OpW.encS r) h.cur w3 (fun J=>oK B G k d Q m J∧Ch (mb::(G.K k).soft) w3 J) uJ hr ?_ ?_ ?_)
   ·rintro e w4⟨h1,h2,h3⟩;exact⟨h1,h2.2,(hc3.mono (fun x hx=>by simp only[qS]at hx;simp[hx])).aq (h3.mono (fun x hx=>qV _ hx))⟩
   ·intro w4 hc4 dy;have hs4:Sy B w4 G (S.set k {S.s k with cur:= .nilIface}):=hs3.cl hk hc4 (dy.mono bQ);have aiq:mb∉[(G.K k).cb]:=fun hm=>h.zR.1 (by simp only[qS]at hm;rw[hm];exact RE h.sy k);unfold eN
    refine cW ?_ (Mg (c:={S.s k with cur:= .nilIface}) (OpW.encS r) r ht RG (j:Nat) ha l hl oa n cap mb mn hmn g (zN p q) (Rq p q) p5 p6 p7 p8 p9 w4 (fun J=>oK B G k d Q m J∧Ch (mb::(G.K k).soft) w3 J) hs4.fl hc4
     ((x5.ag hc3 qa).ag dy qa) ((x6.ag hc3 qa).ag dy qa) ((x7.ag hc3 qa).ag dy qa) ((x8.ag hc3 qa).ag dy qa) ((x9.ag hc3 qa).ag dy qa)
     (aip.ag dy) (aio.ag dy aiq) (fun hm=>h.zR.1 (WK.gY k hm)) (qM h.sy.b0 h.zR.2) ?_)
    ·rintro e w5⟨h1,wm,oa',Bq,hdm,ham,EW⟩;refine⟨h1,?_⟩;rcases EW with⟨_,hq⟩|⟨a',l',hl',hw⟩
     ·exact hq
     ·have hsm:=hs4.ag Bq (h.sy.sN h.zR.1) (fun x hx=>by simp only[qS]at hx;rw[hx];exact h.zR.2);subst hl';obtain⟨X,Yq,fb',hp,fT⟩:=Xo (S:=S.set k {S.s k with cur:= .nilIface}) hk hsm hw h.over ham hdm h.zR ((aeI.ag dy).ag Bq);rw[WS.set_set]at hp;exact⟨HC a' l' rfl w5 X Yq fb' hp,((dy.mono (fun x hx=>qV _ (bQ x hx))).aq (Bq.mono (fun x hx=>by simp only[qS]at hx;simp[hx]))).aq (fT.mono (fun x hx=>qV _ hx))⟩
    ·intro e w5 hc5 fT hd5
     have aeJ:Ch (mb::(G.K k).soft) w4 w5:=fT.mono (fun x hx=>by
      simp only[qG,qQ,xt]at hx;rcases hx with rfl|rfl
      ·simp
      ·exact qV _ (bQ _ qc))
     have hs5:Sy B w5 G (S.set k {S.s k with cur:= .nilIface}):=by
      have h0:=hs4.cl' hk hc5 fT (fun x hx=>by
       simp only[qG,qQ,xt]at hx;rcases hx with rfl|rfl
       ·exact⟨fun hm=>qZ hm h.zR.1,h.zR.2⟩
       ·exact⟨fun _=>bQ _ qc,h.sy.ge _ (RE h.sy k)⟩)
      rwa [WS.set_set]at h0
     exact(HT e w5 hs5 hd5 ((aeI.ag dy).ag fT)).imp fun J ⟨h1,h2⟩=>⟨h1,((dy.mono (fun x hx=>qV _ (bQ x hx))).aq aeJ).aq (h2.mono (fun x hx=>qV _ hx))⟩
   ·rintro w4⟨h1,_⟩;obtain⟨c',e1,e2⟩:=h1.1;exact⟨c',e1,e2⟩
   ·rintro w4 w5⟨h1,h2⟩hb5;exact⟨h1.grow hb5,h2.step hb5⟩
variable{R:Nat→Rec}{V:Nat→SV}{y:Nat→oR}
structure My(R:Nat→Rec)(V:Nat→SV)(y:Nat→oR)(n:Nat):Prop where
 stp: ∀i,i<n→dK (V i) (R i) (y i) (V (i+1))
 num: ∀i,i≤n→(V i).n=(i:Nat)
 le:n≤1000
theorem EX(hk:k<2){n N:Nat}(hh:My R V y n)(hnN:n≤N)(Mh:tt.ok): ∀(e j:Nat) (w:qo) (S:WS) (fb:Nat),j+e+1=n→zQ B w G S k fb (n:Nat) tt→(S.s k).V=V j→lD R N S.pg→
 (∀w1 Yq,Sy B w1 G (S.set k {S.s k with V:=V n,cur:= .nilIface,th:=Yq})→(∃M,Ch M w w1)→eN tt #[] w1 (fun J=>oK B G k d Q m J∧Ch (G.K k).soft w1 J))→oK B G k d Q (m+e+1) w:=by
 intro e
 induction e with
 |zero=>
  intro j w S fb hje h hV fU HT;have hs:=hh.stp j Y;have hVn:(S.s k).V.n=(j:Nat):=by rw[hV];exact hh.num j Y
  refine Jv hk j (by have:=hh.le;omega) h Mh hVn (by have:=hh.le;omega) (OpW.encS (R j)) (fU.has j Y 1 qa) (V (j+1)) (by rw[hV];exact hs.app _ (h.sy.Wn k)) (hh.num (j+1) Y) ?_ ?_
  ·intro _ w1 hs1 hc1;obtain rfl:n=j+1:=Y;exact HT w1 (S.s k).th hs1 hc1
  ·intro aN;rw[hh.num (j+1) Y]at aN
   omega
 |succ e ih=>
  intro j w S fb hje h hV fU HT;have hs:=hh.stp j Y;have hVn:(S.s k).V.n=(j:Nat):=by rw[hV];exact hh.num j Y
  refine Jv (m:=m+e+1) hk j (by have:=hh.le;omega) h Mh hVn (by have:=hh.le;omega) (OpW.encS (R j)) (fU.has j Y 1 qa) (V (j+1)) (by rw[hV];exact hs.app _ (h.sy.Wn k)) (hh.num (j+1) Y) ?_ ?_
  ·intro he;rw[hh.num (j+1) Y]at he;omega
  ·intro _ w2 X Yq fb' hc2 hp;obtain⟨M2,hc2⟩:=hc2;refine ih (j+1) w2 _ fb' Y hp (by rw[WS.aM]) (by rw[WS.kQ];exact fU) ?_;intro w1 Y' hs1 hc1;rw[WS.aM,WS.set_set]at hs1;obtain⟨M1,hc1⟩:=hc1;exact HT w1 Y' hs1 ⟨M2++M1,(hc2.mono (fun x hx=>List.mem_append_left _ hx)).aq (hc1.mono (fun x hx=>List.mem_append_right _ hx))⟩
theorem RH(hk:k<2)(h:Sy B w G S)(hw:ko w J (G.K k) c r t)(ho:c.over=false)(hq: ∃q,t.cap=#[pV q]∧Bx J q 39 (pV (G.K k).cb)):
 ∃X Yq ab,ui B J G (S.set k {c with sq:=c.sq+1,cur:=X,th:=Yq}) k ab 2 0 0 false r t∧Ch (G.K k).soft w J:=by
 obtain⟨ab,p,q,p1,p2,p3,h0,h1,h2,h3,h4,h5,h6,h7⟩:=hw.ex;have hc:Ch (G.K k).soft w J:=hw.ch.mono bQ;have hs:=h.cl hk h0 hc;refine⟨_,_,ab,⟨hs,by rw[WS.aM],?_,h1,?_,?_⟩,hc⟩
 ·rw[WS.aM];exact⟨⟨p,q,p1,p2,p3,rfl,h2,h3,h4,h5,h6⟩,hq⟩
 ·exact⟨fun hm=>by have:=h.wi.lt ab hm;omega,by have:=h.le;omega⟩
 ·rw[WS.aM];exact ho
theorem Jw(hk:k<2){n j:Nat}(hh:My R V y (n+1))(Mh:t.ok)(h:ui B w G S k ab 2 0 0 false r t)(hr:R n=r)(fU:lD R n S.pg)(ht:S.t=(n:Nat))(hSk:S.k≤2000)(hj:j≤n)(hV:(S.s k).V=V j)(hid:(S.s k).id=r.cl)
 (HT: ∀w1 Yq k' pg',lD R (n+1) pg'→k'=S.k+2→Sy B w1 G (WS.set {S with t:=S.t+1,k:=k',pg:=pg'} k {S.s k with app:=true,V:=V (n+1),cur:= .nilIface,th:=Yq})→(∃q,t.cap=#[pV q]∧Bx w1 q 39 (pV (G.K k).cb))→eN t #[ql #[U Z (y n).c,U Z (y n).h]] w1 (fun J=>oK B G k d Q m J∧Ch (G.K k).soft w1 J)):
 oK B G k d Q (m+(n-j)+4) w:=by
 have hle:=hh.le;have hs:=hh.stp n Y;have dY:=(lX hs.cV).2;rw[hr]at dY;refine⟨h.Sv qa,(RA (m:=m+(n-j)+3) hk h Y ?_).2⟩;intro w2 h2;rw[ht]at h2;have hp0:=fU.free n (Nat.le_refl _) 0 qa;have hp1:=fU.one;rw[hr]at hp1;refine(RB (S:={S with t:=((n:Nat):Int)+1}) (m:=m+(n-j)+2) hk n Y h2 dY (by show S.k<3000;omega) hp0 ?_).2;intro w3 h3;refine(RC (m:=m+(n-j)+1) hk n Y h3 dY (by show S.k+1<3000;omega) hp1 ?_ ?_).2
 ·show 0≤(S.s k).V.n∧(S.s k).V.n≤(n:Nat);rw[hV,hh.num j Y];omega
 intro w4 X Yq fb p1 p2 p3 h4 hx4;have Bj:lD R (n+1) (mg (mg S.pg (2*(n%2)+0) ((n/ 2:Nat):Int) (OpW.encS r)) (2*(n%2)+1) ((n/ 2:Nat):Int) (OpW.encS r)):=by have:=fU.add;rwa [hr]at this
 have hm:m+(n-j)+1=m+(n-j)+1:=rfl;refine EX (n:=n+1) (N:=n+1) hk hh (Nat.le_refl _) (QY p1 p2 p3) (n-j) j w4 _ fb Y h4 (by rw[WS.aM];exact hV) (by rw[WS.kQ];exact Bj) ?_;intro w5 Y' hs5 hc5;rw[WS.aM,WS.set_set]at hs5;obtain⟨M5,hc5⟩:=hc5;have hx5:=hx4.ag hc5;refine(Cj (c:={S.s k with app:=true,V:=V (n+1),cur:= .nilIface,th:=Y'}) r (y n) ?_ ?_ ?_ t Mh p1 p2 p3 w5 (fun J=>oK B G k d Q m J∧Ch (G.K k).soft w5 J) ?_ hx5.a hx5.b hx5.c ?_)
 ·show dQ (V (n+1)).O (S.s k).id=y n;rw[hs.O,Be,hid,hr,qH rfl]
 ·show 0≤(S.s k).id∧(S.s k).id<8;have:=hs.cl;rw[hid];rwa [hr]at this
 ·rw[hs.sq,hr]
 ·have:=hs5.wi.k k;rw[WS.aM]at this;exact this
 ·intro w6 hc6 Ct;have hs6:=hs5.cl hk hc6 (Ct.mono qc);rw[WS.set_set]at hs6;refine(HT w6 Y' (S.k+1+1) _ Bj rfl ?_ ?_).imp fun J ⟨h1,h2⟩=>⟨h1,(Ct.mono (M':=(G.K k).soft) qc).aq h2⟩
  ·rw[ht];exact hs6
  ·exact(hx5.ag Ct).own
variable{n:Nat}
structure sO where
 sq:Int
 j:Nat
 buf:Option zb
structure Rest(c:CS)(k:Nat)(x:sO)(V:Nat→SV):Prop where
 id:c.id=(k:Nat)
 sq:c.sq=x.sq
 V:c.V=V x.j
 buf:c.buf=x.buf
 busy:c.busy=false
 cur:c.cur= .nilIface
structure At(B:Nat)(w:qo)(G:WK)(R:Nat→Rec)(V:Nat→SV)(n:Nat)(now r:Int)(cl:Nat→sO):Prop where
 ex: ∃S,Sy B w G S∧S.t=(n:Nat)∧S.k=2*n∧lD R n S.pg∧S.now=now∧S.r=r∧ ∀k,k<2→Rest (S.s k) k (cl k) V
def ik(cl:Nat→sO)(k:Nat)(x:sO):Nat→sO:=fun i=>if i=k then x else cl i
theorem At.grow{now r:Int}{cl:Nat→sO}(h:At B w G R V n now r cl)(g:qz w.heap.size w J):At B J G R V n now r cl:=by
 obtain⟨S,h1,h2⟩:=h.ex;exact⟨S,h1.grow g,h2⟩
theorem WS.QK{c:CS}{i:Nat}(hk:k<2)(hi:i<2)(bd:i≠k):(S.set k c).s i=S.s i:=by
 unfold WS.set WS.s;by_cases e:k=0
 ·rw[qH e,qB Y,qB Y]
 ·rw[qB e,qH Y,qH Y]
theorem RI{c:CS}{x:sO}{cl:Nat→sO}(hk:k<2)(h: ∀i,i<2→Rest (S.s i) i (cl i) V)(hc:Rest c k x V): ∀i,i<2→Rest ((S.set k c).s i) i (ik cl k x i) V:=fun i hi=>by
 unfold ik;by_cases e:i=k
 ·subst e;rw[WS.aM,qH rfl];exact hc
 ·rw[WS.QK hk hi e,qB e];exact h i hi
theorem WS.aeK{c:CS}:(S.set k c).r=S.r:=by unfold WS.set;split<;>rfl
theorem WS.Jy{c c':CS}{T:Int}{K':Nat}{P:Nat→Int→Option ByteArray}:WS.set {S.set k c with t:=T,k:=K',pg:=P} k c'=WS.set {S with t:=T,k:=K',pg:=P} k c':=by
 unfold WS.set;split<;>rfl
theorem yT{now r:Int}{cl:Nat→sO}{T:Int}{K' n':Nat}{P:Nat→Int→Option ByteArray}{x:sO}(hk:k<2)(h:Sy B w G (WS.set {S with t:=T,k:=K',pg:=P} k c))(hT:T=(n':Nat))(hK:K'=2*n')(hP:lD R n' P)(Hm:S.now=now)(hr:S.r=r)(ft: ∀i,i<2→Rest (S.s i) i (cl i) V)(hc:Rest c k x V):
 At B w G R V n' now r (ik cl k x):=
 ⟨_,h,by rw[WS.fI];exact hT,by rw[WS.EV];exact hK,by rw[WS.kQ];exact hP,by rw[WS.VA];exact Hm,by rw[WS.aeK];exact hr,RI hk ft hc⟩
theorem sP(hk:k<2)(q:ConP.dK)(Jt:q.k=1)(zP:q.c=(k:Nat))(mv c:qp)(z:Int)(w:qo)(h:Sy B w G S)(P:qo→Prop)
 (hf: ∀w1,qz w.heap.size w w1→Sy B w1 G S→qw qx 83 #[pV (G.K k).cb,ql (rD q.a mv),U Z S.now] w1 fun e J=>e=qm (U Z 0)∧P J∧Ch (G.K k).soft w1 J):
 qw qx 20 #[pV G.wb,ql (ConW.aG q mv z c)] w fun e J=>e=qm (U Z 0)∧P J∧Kp B w J:=by
 refine vD q mv c z 1 Jt (.inl rfl) w h.wi 0 (fun J=>P J∧Kp B w J) (fun w1 hb1 hw1=>?_);refine cW (fun e J h=>⟨h.1,h.2.1,h.2.2.1⟩) (Mt q mv c z k zP hk w1 hw1 0 (fun J=>P J∧Kp B w J∧J.cell? ⟨G.wb,4,none⟩=some (U Z S.now)) (fun X h=>h.2.2) (fun w2 hb2 hw2=>?_));have hb:=ai hb1 hb2;refine cW ?_ (hf w2 hb (h.grow hb));rintro e w3⟨h1,h2,h3⟩;refine⟨h1,h2,(Kp.af hb h.le).trans (Kp.Ju h3 (fun x hx=>h.ge x (WK.gY k hx)) (h.grow hb).le),?_⟩;have e1:=h3.heap hw2.head (fun hm=>hw2.Mx k _ hm rfl);exact qI e1 4
theorem aeL(hk:k<2)(q:ConP.dK)(Jt:q.k=1)(zP:q.c=(k:Nat))(VH:q.a.k=1)(c:qp)(z:Int)(w:qo){now r:Int}{cl:Nat→sO}(h:At B w G R V n now r cl)(hj:(cl k).j≤n)(hn:n≤900)(hh:My R V y (n+1))
 (hr:R n={q.a.o with cl:=(k:Nat),sq:=(cl k).sq,tk:=ZX q.a.o.k now q.a.o.tk}) (Hm:0≤now∧now≤1000000) (hko:q.a.o.k=11∨q.a.o.k=12∨1≤q.a.o.k∧q.a.o.k≤9) (ve:0≤(cl k).sq∧(cl k).sq≤1000000):
 qw qx 20 #[pV G.wb,ql (ConW.aG q (qh none 0 0) z c)] w fun e J=>e=qm (U Z 0)∧
  jb B G.wb k ⟨(y n).c,(y n).h,⟨#[]⟩⟩ (fun w1=>At B w1 G R V (n+1) now r (ik cl k ⟨(cl k).sq+1,n+1,(cl k).buf⟩)) (n-(cl k).j+4) J∧Kp B w J:=by
 obtain⟨S,hs,ht,hSk,fU,Jz,EW,ft⟩:=h.ex;have hc:=ft k hk;have sT:=hh.stp n Y;have lE:=sT.cV;have hm:=sT.m;have htx:=(lX lE).2;have jZ:=Rl lE
 have Cu:R n=yI ((S.s k).begin q.a (qh none 0 0)) S.now:=by
  rw[hr,Jz];show _={q.a.o with cl:=(S.s k).id,sq:=(S.s k).sq,tk:=ZX q.a.o.k now q.a.o.tk};rw[hc.id,hc.sq]
 refine sP hk q Jt zP (qh none 0 0) c z w hs _ (fun w1 hb1 hs1=>?_);refine cW ?_ (Vb q.a (qh none 0 0) rfl VH hc.busy S.now Y (by rw[←Cu];exact hm) rfl (by rw[←Cu];exact jZ) (by rw[←Cu];exact lE) hko (by rw[←Cu];exact htx) (by rw[hc.sq];omega) w1 (hs1.wi.k k) hs1.fl (hs1.k10 k));rintro e w2⟨h1,q',hw,rB⟩;obtain⟨X,Yq,ab,hp,VI⟩:=RH hk hs1 hw rfl ⟨q',rfl,rB⟩;refine⟨h1,?_,VI⟩
 have Xp:=Jw (m:=0) (k:=k) (n:=n) (j:=(cl k).j) (R:=R) (V:=V) (y:=y) (d:=⟨(y n).c,(y n).h,⟨#[]⟩⟩) (Q:=fun w1=>At B w1 G R V (n+1) now r (ik cl k ⟨(cl k).sq+1,n+1,(cl k).buf⟩)) hk hh (ZU q') hp Cu (by rw[WS.kQ];exact fU) (by rw[WS.fI];exact ht) (by rw[WS.EV];omega) hj (by rw[WS.aM];exact hc.V) (by rw[WS.aM]) ?_
 ·have e:0+(n-(cl k).j)+4=n-(cl k).j+4:=by omega
  rw[e]at Xp;exact Xp.2
 ·intro w3 Y' k' pg' Bj hk' hs3⟨q2,hq2,hb2⟩
  have hq:q'=q2:=by
   have e0:(#[pV q']:Array qp)=#[pV q2]:=hq2;injection e0 with e0;injection e0 with e0 _;injection e0 with e0;injection e0 with e0;injection e0
  subst hq;have hc3:=hs3.wi.k k;refine(UT (y n).c (y n).h q' w3 hc3 hb2).imp fun w4 ⟨h4,dy⟩=>?_;have hs4:=hs3.cl hk h4 (dy.mono bQ);have hs4':=hs4;rw[WS.set_set,WS.Jy]at hs4';refine⟨lC hk hs4' (by rw[WS.aM]) (by rw[WS.aM]) (by rw[WS.aM]) (fun w5 hs5=>?_),dy.mono bQ⟩;refine yT hk hs5 (by rw[WS.fI,ht];omega) (by rw[hk',WS.EV,hSk];omega) Bj Jz EW ft ⟨?_,?_,?_,?_,?_,?_⟩
  ·rw[WS.aM,WS.aM];exact hc.id
  ·rw[WS.aM,WS.aM];show(S.s k).sq+1=_;rw[hc.sq]
  ·rw[WS.aM]
  ·rw[WS.aM,WS.aM];exact hc.buf
  ·rfl
  ·rfl
theorem aaC{x z:Nat}(h:(#[pV x]:Array qp)=#[pV z]):x=z:=by
 injection h with h;injection h with h _;injection h with h;injection h with h;injection h
theorem VJ(hk:k<2)(q:ConP.dK)(Jt:q.k=1)(zP:q.c=(k:Nat))(VH:q.a.k=6)(mv:qp)(oQ:mv.oneCell'=true)(c:qp)(z:Int)(w:qo){now r:Int}{cl:Nat→sO}(h:At B w G R V n now r cl)(hj:(cl k).j≤n)(hn:n≤900)(hh:My R V y (n+1))(x:zb)(kq:(cl k).buf=some x)(RJ:q.a.h=x.h)
 (hr:R n=⟨(k:Nat),(cl k).sq,10,⟨#[]⟩,⟨#[]⟩,0,x.h,x.o,x.d,0,0,[]⟩) (hyc:(y n).c=0) (ve:0≤(cl k).sq∧(cl k).sq≤1000000):
 qw qx 20 #[pV G.wb,ql (ConW.aG q mv z c)] w fun e J=>e=qm (U Z 0)∧
  jb B G.wb k ⟨0,0,⟨#[]⟩⟩ (fun w1=>At B w1 G R V (n+1) now r (ik cl k ⟨(cl k).sq+1,n+1,none⟩)) (n-(cl k).j+4) J∧Kp B w J:=by
 obtain⟨S,hs,ht,hSk,fU,Jz,EW,ft⟩:=h.ex;have hc:=ft k hk;have sT:=hh.stp n Y;have lE:=sT.cV;have htx:=(lX lE).2;have jZ:=Rl lE
 have Cu:R n=Jk (S.s k) x:=by
  rw[hr];show _=(⟨(S.s k).id,(S.s k).sq,10,⟨#[]⟩,⟨#[]⟩,0,x.h,x.o,x.d,0,0,[]⟩:Rec);rw[hc.id,hc.sq]
 refine sP hk q Jt zP mv c z w hs _ (fun w1 hb1 hs1=>?_);refine cW ?_ (Mc q.a mv oQ VH hc.busy S.now x (by rw[hc.buf,kq]) RJ (by rw[←Cu];exact jZ) (by rw[←Cu];exact htx) (by rw[hc.sq];omega) w1 (hs1.wi.k k) hs1.fl (hs1.k10 k));rintro e w2⟨h1,q',hw,rB⟩;obtain⟨X,Yq,ab,hp,VI⟩:=RH hk hs1 hw rfl ⟨q',rfl,rB⟩;refine⟨h1,?_,VI⟩
 have Xp:=Jw (m:=0) (k:=k) (n:=n) (j:=(cl k).j) (R:=R) (V:=V) (y:=y) (d:=⟨0,0,⟨#[]⟩⟩) (Q:=fun w1=>At B w1 G R V (n+1) now r (ik cl k ⟨(cl k).sq+1,n+1,none⟩)) hk hh (ZV q') hp Cu (by rw[WS.kQ];exact fU) (by rw[WS.fI];exact ht) (by rw[WS.EV];omega) hj (by rw[WS.aM];exact hc.V) (by rw[WS.aM]) ?_
 ·have e:0+(n-(cl k).j)+4=n-(cl k).j+4:=by omega
  rw[e]at Xp;exact Xp.2
 ·intro w3 Y' k' pg' Bj hk' hs3⟨q2,hq2,hb2⟩;have hq:q'=q2:=aaC hq2;subst hq;have hc3:=hs3.wi.k k;rw[hyc];refine(LY x ?_ ?_ (y n).h q' w3 hc3 hb2).imp fun w4 ⟨h4,dy⟩=>?_
  ·rw[WS.aM,WS.aM];show(S.s k).buf=some x;rw[hc.buf,kq]
  ·rw[WS.aM,WS.aM];exact RJ
  have Xq:Ch (G.K k).soft w3 w4:=dy.mono (fun x hx=>by
   simp only[qG,qQ,xt]at hx;rcases hx with rfl|rfl<;>simp[CK.soft])
  have hs4:=hs3.cl hk h4 Xq;have hs4':=hs4;rw[WS.set_set,WS.Jy]at hs4';refine⟨lC hk hs4' (by rw[WS.aM]) (by rw[WS.aM]) (by rw[WS.aM]) (fun w5 hs5=>?_),Xq⟩;refine yT hk hs5 (by rw[WS.fI,ht];omega) (by rw[hk',WS.EV,hSk];omega) Bj Jz EW ft ⟨?_,?_,?_,?_,?_,?_⟩
  ·rw[WS.aM,WS.aM];exact hc.id
  ·rw[WS.aM,WS.aM];show(S.s k).sq+1=_;rw[hc.sq]
  ·rw[WS.aM]
  ·rfl
  ·rfl
  ·rfl
theorem RL(hk:k<2)(q:ConP.dK)(Jt:q.k=1)(zP:q.c=(k:Nat))(VH:q.a.k=5)(mv:qp)(oQ:mv.oneCell'=true)(c:qp)(z:Int)(w:qo){now r:Int}{cl:Nat→sO}(h:At B w G R V n now r cl)(kq:(cl k).buf=none)(hy:(0≤q.a.h∧q.a.h<16384)∧0≤q.a.f∧q.a.f≤7000∧1≤q.a.d.size∧q.a.d.size≤1024):
 qw qx 20 #[pV G.wb,ql (ConW.aG q mv z c)] w fun e J=>e=qm (U Z 0)∧
  jb B G.wb k ⟨0,0,⟨#[]⟩⟩ (fun w1=>At B w1 G R V n now r (ik cl k ⟨(cl k).sq,(cl k).j,some ⟨q.a.h,q.a.f,q.a.d⟩⟩)) 0 J∧Kp B w J:=by
 obtain⟨S,hs,ht,hSk,fU,Jz,EW,ft⟩:=h.ex;have hc:=ft k hk;refine sP hk q Jt zP mv c z w hs _ (fun w1 hb1 hs1=>?_);refine cW ?_ (Hc q.a mv oQ VH hc.busy S.now (by rw[hc.buf,kq]) hy w1 (hs1.wi.k k));rintro e w2⟨h1,h2,VI⟩
 have aeM:Ch (G.K k).soft w1 w2:=VI.mono (fun x hx=>by
  simp only[qG,qQ,xt]at hx;rcases hx with rfl|rfl<;>simp[CK.soft])
 have hs2:=hs1.cl hk h2 aeM;refine⟨h1,(lC hk hs2 (by rw[WS.aM]) (by rw[WS.aM]) (by rw[WS.aM]) (fun w5 hs5=>?_)).2,aeM⟩;refine yT (S:=S) (T:=S.t) (K':=S.k) (P:=S.pg) hk hs5 ht hSk fU Jz EW ft ⟨hc.id,hc.sq,hc.V,rfl,rfl,rfl⟩
theorem JA(hk:k<2){j:Nat}(hh:My R V y n)(Mh:tt.ok)(h:Ho B w G S k tb tt)(fU:lD R n S.pg)(ht:S.t=(n:Nat))(hj:j≤n)(hV:(S.s k).V=V j)
 (HT: ∀w1 Yq,Sy B w1 G (S.set k {S.s k with V:=V n,cur:= .nilIface,th:=Yq})→(∃M,Ch M w w1)→eN tt #[] w1 (fun J=>oK B G k d Q m J∧Ch (G.K k).soft w1 J)):oK B G k d Q (m+(n-j)+1) w:=by
 have hle:=hh.le;have hVn:(S.s k).V.n=(j:Nat):=by rw[hV];exact hh.num j hj
 refine VG hk n j Y hj h Mh ht hVn ?_ ?_
 ·intro e w1 hs1 hc1;subst e;have e:({S.s k with cur:= .nilIface}:CS)={S.s k with V:=V j,cur:= .nilIface,th:=(S.s k).th}:=by rw[←hV]
  rw[e]at hs1;have:=HT w1 _ hs1 hc1
  rwa [show m+(j-j)=m by omega]
 ·intro aN w1 X Yq fb'⟨M1,hc1⟩hp;have h2:=EX (m:=m) (d:=d) (Q:=Q) hk hh (Nat.le_refl n) Mh (n-j-1) j w1 _ fb' Y hp (by rw[WS.aM];exact hV) (by rw[WS.kQ];exact fU) ?_
  ·rwa [show m+(n-j-1)+1=m+(n-j) by omega]at h2
  ·intro w2 Y' hs2⟨M2,hc2⟩;rw[WS.aM,WS.set_set]at hs2;exact HT w2 Y' hs2 ⟨M1++M2,(hc1.mono (fun x hx=>List.mem_append_left _ hx)).aq (hc2.mono (fun x hx=>List.mem_append_right _ hx))⟩
def vE(R:Nat→Rec)(pl:List ExtW.Pt)(L:List UInt8):Prop:= ∀g:Int→Option ByteArray,(∀z∈pl.map (·.a),g z=some (R z.toNat).d)→Fits g pl∧mo g pl=L
theorem aaD(hk:k<2){N:Nat}{L:List UInt8}(hh:My R V y N)(hL:vE R pl L)(vc:pl.length≤1000): ∀(l:List Int) (mn:Nat) (w:qo) (S:WS) (fb:Nat) (a:Int) (g:Int→Option ByteArray),Xn B w G S k fb mb mn a l g p q pl→lD R N S.pg→(∀z∈a::l,∃j,j<N∧z=(j:Nat)∧(R j).k=10)→
 (∀z∈pl.map (·.a),z∈a::l∨g z=some (R z.toNat).d)→mn+l.length≤5000→(∀w1 Yq,Sy B w1 G (S.set k (CS.fin {S.s k with cur:= .nilIface,th:=Yq} 0 0 ⟨L.toArray⟩))→Q w1)→oK B G k ⟨0,0,⟨L.toArray⟩⟩ Q (l.length+1) w:=by
 intro l
 induction l with
 |nil=>
  intro mn w S fb a g h fU hz hinv hmn HQ;obtain⟨j,hj,rfl,RG⟩:=hz a qc;have hle:=hh.le;refine RF (r:=R j) hk j Y h qc (by simp at hmn;omega) (lX (hh.stp j hj).cV).1 RG (fU.has j hj 1 qa) ?_ (fun a' l' e=>by cases e);intro _ w1 hs1 hd1 hpc
  obtain⟨hF,Qx⟩:=hL (fun z=>if z=((j:Nat):Int)then some (R j).d else g z) (fun z hz1=>by
   split
   ·rename_i e;subst e;rfl
   ·rename_i e;rcases hinv z hz1 with h1|h1
    ·exact qZ (by simpa using h1) e
    ·exact h1)
  obtain⟨ro,rc,x1,x2⟩:=hpc.q;have hc1:=hs1.wi.k k;refine(Jn pl vc ro pl.length rc mb (mn+1) _ hF p q w1 hc1 hpc.p x1 x2 hd1).imp fun w2 ⟨h2,aeN⟩=>?_;rw[Qx]at h2;have hs2:=hs1.cl hk h2 (aeN.mono bQ);rw[WS.aM,WS.set_set]at hs2
  exact⟨lC hk hs2 (by rw[WS.aM]) (by rw[WS.aM]) (by rw[WS.aM]) (fun w5 hs5=>HQ w5 (S.s k).th hs5),aeN.mono bQ⟩
 |cons b l ih=>
  intro mn w S fb a g h fU hz hinv hmn HQ;obtain⟨j,hj,rfl,RG⟩:=hz a qc;have hle:=hh.le;refine RF (r:=R j) (m:=l.length+1) hk j Y h (fun z hz1=>by obtain⟨i,hi,rfl,_⟩:=hz z (by simp[hz1]);omega) Y (lX (hh.stp j hj).cV).1 RG (fU.has j hj 1 qa) (fun e=>by cases e) ?_;intro a' l' e w1 X Yq fb' hp;injection e with e1 e2
  subst e1;subst e2;refine ih (mn+1) w1 _ fb' b _ hp (by rw[WS.kQ];exact fU) (fun z hz1=>hz z (by simp[qG.1 hz1])) (fun z hz1=>?_) (by simp only[xf]at hmn;omega) (fun w2 Y' hs2=>?_)
  ·by_cases e:z=((j:Nat):Int)
   ·right;subst e;rw[qH rfl];rfl
   ·rcases hinv z hz1 with h1|h1
    ·rcases qG.1 h1 with h2|h2
     ·exact qZ h2 e
     ·left;exact h2
    ·right;rw[qB e];exact h1
  ·rw[WS.aM,WS.set_set]at hs2;exact HQ w2 Y' hs2
theorem Hp(hk:k<2)(q:ConP.dK)(Jt:q.k=1)(zP:q.c=(k:Nat))(VH:q.a.k=4)(mv:qp)(oQ:mv.oneCell'=true)(c:qp)(z:Int)(w:qo){now r:Int}{cl:Nat→sO}(h:At B w G R V n now r cl)(hj:(cl k).j≤n)(hh:My R V y n)
 (hf0:q.a.f=0) (hs0:q.a.s=8192) (RJ:0≤q.a.h∧q.a.h≤1000) (rC:bq.BA (V n).H (k:Nat) q.a.h=false):
 qw qx 20 #[pV G.wb,ql (ConW.aG q mv z c)] w fun e J=>e=qm (U Z 0)∧
  jb B G.wb k ⟨68,0,⟨#[]⟩⟩ (fun w1=>At B w1 G R V n now r (ik cl k ⟨(cl k).sq,n,(cl k).buf⟩)) (n-(cl k).j+1) J∧Kp B w J:=by
 obtain⟨S,hs,ht,hSk,fU,Jz,EW,ft⟩:=h.ex;have hc:=ft k hk;refine sP hk q Jt zP mv c z w hs _ (fun w1 hb1 hs1=>?_);refine cW ?_ (Bd q.a mv oQ VH hc.busy S.now Y Y w1 (hs1.wi.k k));rintro e w2⟨h1,q',hw,rB⟩;obtain⟨X,Yq,tb,hp,VI⟩:=RD hk hs1 hw rfl;refine⟨h1,?_,VI⟩;have Xp:=JA (m:=0) (j:=(cl k).j) (d:=⟨68,0,⟨#[]⟩⟩) (Q:=fun w1=>At B w1 G R V n now r (ik cl k ⟨(cl k).sq,n,(cl k).buf⟩)) hk hh (Ri q') hp (by rw[WS.kQ];exact fU) (by rw[WS.fI];exact ht) hj (by rw[WS.aM];exact hc.V) ?_
 ·rw[show 0+(n-(cl k).j)+1=n-(cl k).j+1 by omega]at Xp;exact Xp.2
 ·intro w3 Y' hs3⟨M3,hc3⟩;rw[WS.aM,WS.set_set]at hs3;have hb3:=rB.ag hc3 qa;have uJ:=hs3.wi.k k;rw[WS.aM]at uJ;refine(Mk ?_ ?_ q' w3 uJ hb3).imp fun w4 ⟨h4,dy⟩=>?_
  ·show bq.lQ ((S.s k).id,q.a.h);rw[hc.id];exact bq.ov ⟨by show(-9223372036854775808:Int)≤(k:Nat);omega,by show((k:Nat):Int)≤9223372036854775807;omega⟩ ⟨by show(-9223372036854775808:Int)≤q.a.h;omega,by show q.a.h≤9223372036854775807;omega⟩
  ·show bq.BA (V n).H (S.s k).id q.a.h=false;rw[hc.id];exact rC
  have hs4:=hs3.cl hk h4 (dy.mono bQ);rw[WS.set_set]at hs4;refine⟨lC hk hs4 (by rw[WS.aM]) (by rw[WS.aM]) (by rw[WS.aM]) (fun w5 hs5=>?_),dy.mono bQ⟩;exact yT (S:=S) (T:=S.t) (K':=S.k) (P:=S.pg) hk hs5 ht hSk fU Jz EW ft ⟨hc.id,hc.sq,rfl,hc.buf,rfl,rfl⟩
theorem EY(hk:k<2)(q:ConP.dK)(Jt:q.k=1)(zP:q.c=(k:Nat))(VH:q.a.k=4)(mv:qp)(oQ:mv.oneCell'=true)(c:qp)(z:Int)(w:qo){now r:Int}{cl:Nat→sO}(h:At B w G R V n now r cl)(hj:(cl k).j≤n)(hh:My R V y n)
 (hf0:q.a.f=0) (RJ:0≤q.a.h∧q.a.h≤1000) (rC:bq.BA (V n).H (k:Nat) q.a.h=true) (ino sz:Int) (hoi:bq.yZ (V n).H (k:Nat) q.a.h=ino) (hi:InoW.kI ino) (sT:(InoW.bL (V n).L ino).s=sz) (dY:0≤sz∧sz≤q.a.s) (SD:q.a.s≤8192)
 (vc:ExtW.ku (InoW.cY (V n).L ino) 0 sz=pl) (aeO:(InoW.cY (V n).L ino).length≤1000) (Xj:pl.length≤1000) (Nr:(pl.map (·.a)).Pairwise (· < ·)) (hz: ∀z:Int,z∈pl.map (·.a)→ ∃j,j<n∧z=(j:Nat)∧(R j).k=10) {L:List UInt8} (hL:vE R pl L):
 qw qx 20 #[pV G.wb,ql (ConW.aG q mv z c)] w fun e J=>e=qm (U Z 0)∧
  jb B G.wb k ⟨0,0,⟨L.toArray⟩⟩ (fun w1=>At B w1 G R V n now r (ik cl k ⟨(cl k).sq,n,(cl k).buf⟩)) (pl.length+(n-(cl k).j)+1) J∧Kp B w J:=by
 obtain⟨S,hs,ht,hSk,fU,Jz,EW,ft⟩:=h.ex;have hle:=hh.le;have hc:=ft k hk;refine sP hk q Jt zP mv c z w hs _ (fun w1 hb1 hs1=>?_);refine cW ?_ (Bd q.a mv oQ VH hc.busy S.now Y Y w1 (hs1.wi.k k));rintro e w2⟨h1,q',hw,rB⟩;obtain⟨X,Yq,tb,hp,VI⟩:=RD hk hs1 hw rfl;refine⟨h1,?_,VI⟩;refine(JA (m:=pl.length) (j:=(cl k).j) (d:=⟨0,0,⟨L.toArray⟩⟩) (Q:=fun w1=>At B w1 G R V n now r (ik cl k ⟨(cl k).sq,n,(cl k).buf⟩)) hk hh (Ri q') hp (by rw[WS.kQ];exact fU) (by rw[WS.fI];exact ht) hj (by rw[WS.aM];exact hc.V) ?_).2;intro w3 Y' hs3⟨M3,hc3⟩;rw[WS.aM,WS.set_set]at hs3;have hb3:=rB.ag hc3 qa
 have uJ:=hs3.wi.k k;rw[WS.aM]at uJ;have hid:(S.s k).id=(k:Nat):=hc.id;have Mf: ∀x∈pl,0≤x.a∧x.a<16384:=fun x hx=>by obtain⟨j,h1,h2,_⟩:=hz x.a (List.mem_map.2 ⟨x,hx,rfl⟩);omega
 have done: ∀(w5:qo) (Yq:qp),Sy B w5 G (S.set k (CS.fin {(S.s k).begin q.a mv with V:=V n,cur:= .nilIface,th:=Yq} 0 0 ⟨L.toArray⟩))→At B w5 G R V n now r (ik cl k ⟨(cl k).sq,n,(cl k).buf⟩):=fun w5 Yq hs5=>
  yT (S:=S) (T:=S.t) (K':=S.k) (P:=S.pg) hk hs5 ht hSk fU Jz EW ft ⟨hc.id,hc.sq,rfl,hc.buf,rfl,rfl⟩
 refine(Hh (c:={(S.s k).begin q.a mv with V:=V n,cur:= .nilIface,th:=Y'}) ?_ ino ?_ ?_ hi sz ?_ ?_ pl ?_ ?_ Xj Mf Nr q' w3 (fun J=>oK B G k ⟨0,0,⟨L.toArray⟩⟩ (fun w1=>At B w1 G R V n now r (ik cl k ⟨(cl k).sq,n,(cl k).buf⟩)) pl.length J∧Ch (G.K k).soft w3 J) uJ hb3 ?_).imp ?_
 ·show bq.lQ ((S.s k).id,q.a.h);rw[hid];exact bq.ov ⟨by show(-9223372036854775808:Int)≤(k:Nat);omega,by show((k:Nat):Int)≤9223372036854775807;omega⟩ ⟨by show(-9223372036854775808:Int)≤q.a.h;omega,by show q.a.h≤9223372036854775807;omega⟩
 ·show bq.BA (V n).H (S.s k).id q.a.h=true;rw[hid];exact rC
 ·show bq.yZ (V n).H (S.s k).id q.a.h=ino;rw[hid];exact hoi
 ·show-9223372036854775808≤(InoW.bL (V n).L ino).s-q.a.f∧(InoW.bL (V n).L ino).s-q.a.f≤9223372036854775807;rw[sT];omega
 ·show min q.a.s ((InoW.bL (V n).L ino).s-q.a.f)=sz;rw[sT];omega
 ·show ExtW.ku (InoW.cY (V n).L ino) q.a.f sz=pl;rw[hf0];exact vc
 ·show(InoW.cY (V n).L ino).length≤9223372036854775807;omega
 ·intro rL w4 z4 ro rc mb hc4 dy hd4 hb4 hp4;obtain⟨hF,Qx⟩:=hL (fun _=>none) (fun z hz1=>by rw[rL]at hz1;simp at hz1);refine(Jn pl Xj ro pl.length rc mb 0 _ hF q' z4 w4 hc4 (hb3.ag dy qa) hb4 hp4 hd4).imp fun w5 ⟨h5,fT⟩=>?_;rw[Qx]at h5;have hs5:=hs3.cl hk h5 ((dy.aq fT).mono bQ);rw[WS.set_set]at hs5;have hl0:pl.length=0:=by rw[rL];rfl
  rw[hl0];exact⟨lC hk hs5 (by rw[WS.aM]) (by rw[WS.aM]) (by rw[WS.aM]) (fun w6 hs6=>done w6 Y' hs6),(dy.aq fT).mono bQ⟩
 ·intro w4 hG;obtain⟨wm,z4,ro,rc,mb,oa2,dd,hbm,hb4,hp4,hd4,zG,AU,EW⟩:=hG.ex;rcases EW with⟨_,hq⟩|⟨a,l,hl,hw4⟩
  ·exact hq
  ·have hsm:=hs3.grow hbm;have amb:=hs3.le;have hlen:pl.length=l.length+1:=by have:=qX List.length hl;simpa using this
   rw[hl]at AU;obtain⟨X4,Y4,fb4,hp5,fT⟩:=Xo (p:=q') (q:=z4) (pl:=pl) (S:=S.set k {(S.s k).begin q.a mv with V:=V n,cur:= .nilIface,th:=Y'}) hk hsm hw4 rfl AU hd4 ⟨fun hm=>by have:=hs3.wi.lt mb hm;omega,Y⟩ ⟨hb3.grow hbm,ro,rc,hb4,hp4⟩;rw[WS.set_set]at hp5;refine⟨?_,(Ch.af hbm).aq fT⟩;rw[hlen];refine aaD hk hh hL Xj l 0 w4 _ fb4 a _ hp5 (by rw[WS.kQ];exact fU) (fun z hz1=>hz z (by rw[hl];exact hz1)) (fun z hz1=> .inl (by rw[hl]at hz1;exact hz1)) Y (fun w6 Y6 hs6=>?_);rw[WS.aM,WS.set_set]at hs6;exact done w6 Y6 hs6
end TopW
namespace TopW
open Go.RowKit OpW
variable{w J:qo}{M:List Nat}{G:WK}{S:WS}
theorem EZ(w:qo)(h:fZ w G S):qw qx 90 #[pV G.N.n] w fun e J=>e=qm (pV G.N.l)∧w=J:=by
 obtain⟨cap,_,_,h3⟩:=h.nodes.nodes;obtain⟨z0,z1,z2⟩:=bS h3;clear h h3;go_enter func90,ntmps90;go_wp2_with fail
 go_ret;exact⟨rfl,rfl⟩
theorem fZ.rl(h:fZ w G S):w.cell? ⟨G.gl,0,none⟩=some (pV G.A.cb)∧w.cell? ⟨G.gr,0,none⟩=some (U Z S.r):=by
 obtain⟨x,h1,h2,_⟩:=h.oV;obtain⟨y,h3,h4,_⟩:=h.uh;exact⟨(qI h1 0).trans h2,(qI h3 0).trans h4⟩
structure Cra(G:WK)(w J:qo):Prop where
 os:J.os=w.os
 tape:J.tape=w.tape
 output:J.output=w.output
 size:w.heap.size≤J.heap.size
 block: ∀(b:Nat) (o:Obj),b≠G.gl→b≠G.gr→w.heap[b]? =some o→J.heap[b]? =some o
theorem Hq(q:ConP.dK)(m c:qp)(z:Int)(zP:q.c=0)(hr0:S.r=0)(w:qo)(h:fZ w G S):
 qw qx 57 #[pV G.wb,ql (ConW.aG q m z c)] w fun e J=>e=qm (U Z 0)∧ ∃A:CK,fZ J {G with A:=A} {S with r:=1,a:=Su 0 1}∧(∀x∈A.soft,w.heap.size≤x)∧Cra G w J:=by
 obtain⟨wA,p,hAl,hp,h1,hb,l1⟩:=aD w (qn (ConW.aG q m z c) 65);have HB:=Hd hb;have HX:=Hd h1;have HH:=Hd h;have fM:=Hd (h.grow hb);have q1:wA.cell? ⟨p,1,none⟩=some (U Z (0:Nat)):=by rw[qI h1];show some (U Z q.c)=_;rw[zP];rfl
 have HQ:=Hd zP;clear h h1 hb l1 zP;unfold ConW.aG at hAl;unfold ConW.aG;go_enter func57,ntmps57;go_wp2_with fail
 refine(ja 0 qa wA fM.o).mono ?_;rintro e _⟨rfl,rfl⟩;clear hAl hp;go_wp2_with fail
 have eO:qy (∀X,Ch [] wA X→X.cell? ⟨p,1,none⟩=some (U Z 0)∧X.cell? ⟨G.wb,0,none⟩=some (pV G.N.n)∧X.cell? ⟨G.wb,3,none⟩=some (qh (some ⟨G.gr,0,none⟩) 2 G.cr)∧X.cell? ⟨G.gr,0,none⟩=some (U Z 0)):=Hd fun X hX=>by
  have h1:=hX.heap HX.o qc;have hh:=fM.o.ag hX qc;exact⟨by rw[qI h1,←qI HX.o];exact q1,hh.cells.1,hh.cells.2.2.2.1,by rw[hh.rl.2,hr0]⟩
 have au:qy (Ch [] wA wA.drew):=Hd (Ch.refl _ _).drew;have hw1:IntKind.i64.wrap 1=1:=qa;clear q1;refine aB 23 23 (fun X=>Ch [] wA X) qd rfl ?_;generalize hW0:wA.drew=W0 at au⊢;clear hW0;refine tN 0 13 ?_ au.o ?_ (tN 1 14 ?_ au.o ?_ (tN 2 15 ?_ au.o ?_ (tN 3 16 ?_ au.o ?_ (tN 4 17 ?_ au.o ?_ (tN 5 18 ?_ au.o ?_ (tN 6 19 ?_ au.o ?_ (tN 7 20 ?_ au.o ?_ (tN 8 21 ?_ au.o ?_ (tN 9 22 ?_ au.o ?_ (tN 10 23 ?_ au.o ?_ (tN 11 24 ?_ au.o ?_ (tN 12 25 ?_ au.o ?_ (tN 13 26 ?_ au.o ?_ (tN 14 27 ?_ au.o ?_ ?_))))))))))))))
 iterate 15
  rotate_left
  ·intro wq hq;obtain⟨z0,z1,z2,z3⟩:=eO.o wq hq;exact bJ
 simp only[pS,aS,sZ,sS];refine ay 15 qd rfl rfl (al (some 28) (f:=90) (args:=#[pV G.N.n]) rfl qf (fun v X=>v=pV G.N.l∧W0=X) ((EZ W0 (fM.o.ag au.o qc)).mono fun e J ⟨h1,h2⟩=>⟨_,h1,rfl,h2⟩) ?_);rintro v _⟨rfl,rfl⟩;refine⟨fun _=>au.o,?_⟩;simp only[pS,aS,sZ,sS];refine ay 16 qd rfl rfl (al (some 29) (f:=91) (args:=#[pV G.N.l]) rfl qf (fun v X=> ∃c0 m0 c1 m1 c2 m2,v=ql #[U Z 0,qh (some ⟨c0,0,none⟩) 2 m0]∧cL X c0 m0 c1 m1 c2 m2∧qz W0.heap.size W0 X) ((Rv G.N.l W0 (fM.o.ag au.o qc).lay).mono fun e J ⟨c0,m0,c1,m1,c2,m2,h1,h2,h3,h4,h5,h6⟩=>⟨_,h1,c0,m0,c1,m1,c2,m2,rfl,h2,h6⟩) ?_)
 rintro v w3⟨c0,m0,c1,m1,c2,m2,rfl,h2,h3⟩;have HP:=Hd h2;have eP:=Hd (au.o.step h3);clear h2 h3;refine⟨fun _=>eP.o,?_⟩;simp only[pS,aS,sZ,sS];refine ay 17 qd rfl rfl (al (some 30) (f:=25) (args:=#[U Z 0,U Z 1,ql #[U Z 0,qh (some ⟨c0,0,none⟩) 2 m0]]) rfl qf (fun v X=> ∃A:CK,v= .tuple #[pV A.cb,U Z 0]∧bt X A (Su 0 1)∧(∀x∈A.soft,w3.heap.size≤x)∧qz w3.heap.size w3 X) ((Bh 0 1 qa qa w3 HP.o).mono fun e J ⟨A,h1,h2,h3,h4⟩=>⟨_,h1,A,rfl,h2,h3,h4⟩) ?_);rintro v w4⟨A,rfl,h2,h3,h4⟩;have HC:=Hd h2;have HG:=Hd h3;have cA:=Hd (eP.o.step h4);clear h2 h3 h4;refine⟨fun _=>cA.o,?_⟩;simp only[pS,aS,sZ,sS]
 refine tN 18 12 ?_ cA.o ?_ (tN 19 31 ?_ cA.o ?_ (tN 20 32 ?_ cA.o ?_ (tN 21 5 ?_ cA.o ?_ (tN 22 6 ?_ cA.o ?_ ?_))))
 iterate 5
  rotate_left
  ·intro wq hq;exact bJ
 simp only[pS,aS,sZ,sS];refine aU qd ?_;clear eO;have mL:qy (fZ w4 G S):=Hd (fM.o.ag cA.o qc);have jA:qy (w4.heap[p]? =some (qn (ConW.aG q m z c) 65 (0,0))):=Hd (cA.o.heap HX.o qc);have dp:qy (qz w.heap.size w w4):=Hd ((Ch.pre HB.o cA.o).below qc (Nat.le_refl _));have HGE:qy (∀x∈A.soft,w.heap.size≤x):=Hd fun x hx=>qM (qM HB.o.size eP.o.size) (HG.o x hx);have y1:w4.cell? ⟨p,1,none⟩=some (U Z 0):=by rw[qI jA.o];show some (U Z q.c)=_;rw[HQ.o]
 obtain⟨_,_,y2,y3,_⟩:=mL.o.cells;obtain⟨y4,_⟩:=mL.o.rl;have yf:w4.frozen? ⟨G.gl,0,none⟩=false:=by obtain⟨x,h1,_⟩:=mL.o.oV;exact xx h1 _
 clear au eP cA fM HX HB HG HP hw1;go_wp2_with fail
 go_still_tail 8,qd
 go_wp2_with fail
 have PU:qy (∃x,(w4.setCell ⟨G.gl,0,none⟩ (qi (some ⟨A.cb,0,none⟩))).drew.heap[G.gl]? =some (qn x 39 (0,0))∧x[0]? =some (pV A.cb)∧x[1]? =some (pV G.C.cb)):=Hd (by
  obtain⟨x,h1,h2,h3⟩:=mL.o.oV;refine⟨_,av (w:=w4) (i:=0) h1 (pV A.cb),?_,?_⟩
  ·rw[Array.getElem?_setIfInBounds];rw[qH rfl,qH (by have:=(Array.getElem?_eq_some_iff.1 h2).1;exact this)]
  ·rw[Array.getElem?_setIfInBounds];rw[qB qa];exact h3)
 have eV:qy (nT 39 w4 (w4.setCell ⟨G.gl,0,none⟩ (qi (some ⟨A.cb,0,none⟩))).drew):=Hd (by obtain⟨x,h1,_⟩:=mL.o.oV;exact nT.set (w:=w4) (i:=0) h1)
 have HE5:qy ((w4.setCell ⟨G.gl,0,none⟩ (qi (some ⟨A.cb,0,none⟩))).drew.os=w4.os∧(w4.setCell ⟨G.gl,0,none⟩ (qi (some ⟨A.cb,0,none⟩))).drew.tape=w4.tape∧(w4.setCell ⟨G.gl,0,none⟩ (qi (some ⟨A.cb,0,none⟩))).drew.output=w4.output∧w4.heap.size≤(w4.setCell ⟨G.gl,0,none⟩ (qi (some ⟨A.cb,0,none⟩))).drew.heap.size∧ ∀(b:Nat) (o:Obj),b≠G.gl→w4.heap[b]? =some o→(w4.setCell ⟨G.gl,0,none⟩ (qi (some ⟨A.cb,0,none⟩))).drew.heap[b]? =some o):=Hd (by
  exact⟨rfl,rfl,rfl,qc,fun b o hb ho=>aZ (w:=w4) ho hb⟩)
 clear y1 y2 y3 y4 yf;generalize(w4.setCell ⟨G.gl,0,none⟩ (qi (some ⟨A.cb,0,none⟩))).drew=w5 at PU eV HE5⊢;have bd: ∀(b:Nat) (cs:Array qp) (t:TypeId),w4.heap[b]? =some (qn cs t (0,0))→t≠39→w5.heap[b]? =some (qn cs t (0,0)):=fun b cs t hb ht=>eV.o.cells hb ht;have yB:qy (w5.heap[p]? =some (qn (ConW.aG q m z c) 65 (0,0))):=Hd (bd _ _ _ jA.o qa);have lG:=Hd (bd _ _ _ mL.o.head qa);have kS:qy (∃x,w5.heap[G.gr]? =some (qn x 3 (0,0))∧x[0]? =some (U Z 0)∧x[1]? =some (U Z 0)):=Hd (by obtain⟨x,h1,h2,h3⟩:=mL.o.uh;exact⟨x,bd _ _ _ h1 qa,by rw[h2,hr0],h3⟩);clear bd
 have y1:w5.cell? ⟨p,1,none⟩=some (U Z 0):=by rw[qI yB.o];show some (U Z q.c)=_;rw[HQ.o]
 have y3:w5.cell? ⟨G.wb,3,none⟩=some (qh (some ⟨G.gr,0,none⟩) 2 G.cr):=qI lG.o 3;have y4:w5.cell? ⟨G.gr,0,none⟩=some (U Z 0):=by obtain⟨x,h1,h2,_⟩:=kS.o;exact(qI h1 0).trans h2
 have yf:w5.frozen? ⟨G.gr,0,none⟩=false:=by obtain⟨x,h1,_⟩:=kS.o;exact xx h1 _
 have hw1:IntKind.i64.wrap 1=1:=qa
 go_still_tail 10,qd
 go_wp2_with fail
 have Un:qy (∃x,(w5.setCell ⟨G.gr,0,none⟩ (U Z 1)).drew.heap[G.gr]? =some (qn x 3 (0,0))∧x[0]? =some (U Z 1)∧x[1]? =some (U Z 0)):=Hd (by
  obtain⟨x,h1,h2,h3⟩:=kS.o;refine⟨_,av (w:=w5) (i:=0) h1 (U Z 1),?_,?_⟩
  ·rw[Array.getElem?_setIfInBounds];rw[qH rfl,qH (by have:=(Array.getElem?_eq_some_iff.1 h2).1;exact this)]
  ·rw[Array.getElem?_setIfInBounds];rw[qB qa];exact h3)
 have iD:qy (nT 3 w5 (w5.setCell ⟨G.gr,0,none⟩ (U Z 1)).drew):=Hd (by obtain⟨x,h1,_⟩:=kS.o;exact nT.set (w:=w5) (i:=0) h1)
 have Uo:qy ((w5.setCell ⟨G.gr,0,none⟩ (U Z 1)).drew.os=w5.os∧(w5.setCell ⟨G.gr,0,none⟩ (U Z 1)).drew.tape=w5.tape∧(w5.setCell ⟨G.gr,0,none⟩ (U Z 1)).drew.output=w5.output∧w5.heap.size≤(w5.setCell ⟨G.gr,0,none⟩ (U Z 1)).drew.heap.size∧ ∀(b:Nat) (o:Obj),b≠G.gr→w5.heap[b]? =some o→(w5.setCell ⟨G.gr,0,none⟩ (U Z 1)).drew.heap[b]? =some o):=Hd (by
  exact⟨rfl,rfl,rfl,qc,fun b o hb ho=>aZ (w:=w5) ho hb⟩)
 clear y1 y3 y4 yf hw1;generalize(w5.setCell ⟨G.gr,0,none⟩ (U Z 1)).drew=w6 at Un iD Uo⊢
 have HF:qy (fZ w6 {G with A:=A} {S with r:=1,a:=Su 0 1}∧(∀x∈A.soft,w.heap.size≤x)∧Cra G w w6):=Hd (by
  obtain⟨f1,f2,f3,f4,f5⟩:=HE5.o;obtain⟨g1,g2,g3,g4,g5⟩:=Uo.o
  have pr: ∀b0 n0 b1 n1 b2 n2,cL w4 b0 n0 b1 n1 b2 n2→cL w6 b0 n0 b1 n1 b2 n2:=fun b0 n0 b1 n1 b2 n2 hp=>by
   obtain⟨x,h1,h2,h3⟩:=kS.o;exact(hp.jq eV.o qa qa).apart h1 h2 h3 (fun b o hb ho=>g5 b o hb ho)
  have pr5: ∀b0 n0 b1 n1 b2 n2,cL w4 b0 n0 b1 n1 b2 n2→cL w5 b0 n0 b1 n1 b2 n2:=fun b0 n0 b1 n1 b2 n2 hp=>hp.jq eV.o qa qa
  have pr6: ∀b0 n0 b1 n1 b2 n2,cL w5 b0 n0 b1 n1 b2 n2→cL w6 b0 n0 b1 n1 b2 n2:=fun b0 n0 b1 n1 b2 n2 hp=>by
   obtain⟨x,h1,h2,h3⟩:=kS.o;exact hp.apart h1 h2 h3 (fun b o hb ho=>g5 b o hb ho)
  have t1:39∉pF:=qa;have t2:3∉pF:=qa;have Sx:=HH.o.nd;have aN:=HH.o;refine⟨⟨iD.o.cells lG.o qa,?_,Un.o,(mL.o.nodes.jq eV.o t1).jq iD.o t2,(mL.o.lay.aar eV.o t1 pr5).aar iD.o t2 pr6,(HC.o.jq eV.o f4 t1 pr5).jq iD.o g4 t2 pr6,(mL.o.c.jq eV.o f4 t1 pr5).jq iD.o g4 t2 pr6,?_⟩,HGE.o,?_⟩
  ·obtain⟨x,h1,h2,h3⟩:=PU.o;exact⟨x,iD.o.cells h1 qa,h2,h3⟩
  ·have e1:=(xC.1 Sx);have e2:=List.nodup_append.1 e1.2;have e3:=List.nodup_append.1 e2.2.1
   have lt: ∀x∈G.soft,x<w.heap.size:=fun x hx=>by
    simp only[WK.soft,qG,xa]at hx;rcases hx with rfl|hx|hx|hx
    ·exact qK aN.head
    ·exact aN.nodes.lt x hx
    ·exact aN.a.lt x hx
    ·exact aN.c.lt x hx
   have fO: ∀x∈A.soft,x∉G.soft:=fun x hx hm=>by have:=HGE.o x hx;have:=lt x hm;omega
   show(G.wb::(G.N.soft++(A.soft++G.C.soft))).Nodup;refine xC.2 ⟨?_,List.nodup_append.2 ⟨e2.1,List.nodup_append.2 ⟨HC.o.nd,e3.2.1,fun x hx y hy e=>fO x hx (by subst e;simp[WK.soft,hy])⟩,fun x hx y hy e=>?_⟩⟩
   ·simp only[xa,not_or];exact⟨fun h=>e1.1 (by simp[h]),fun h=>fO _ h (by simp[WK.soft]),fun h=>e1.1 (by simp[h])⟩
   ·subst e;rcases xa.1 hy with h|h
    ·exact fO x h (by simp[WK.soft,hx])
    ·exact e2.2.2 x hx x (by simp[h]) rfl
  ·have hb:=dp.o;exact⟨g1.trans (f1.trans hb.os),g2.trans (f2.trans hb.tape),g3.trans (f3.trans hb.output),qM hb.size (qM f4 g4),fun b o h1 h2 h3=>g5 b o h2 (f5 b o h1 ((hb.block b (qK h3)).trans h3))⟩)
 clear Un iD Uo PU eV HE5 yB lG kS HC mL jA dp HGE HH;go_wp2_with fail
 go_ret;exact⟨rfl,A,HF.o⟩
