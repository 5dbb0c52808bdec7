/- Part 39 of the texts that the law's walk needs. -/
import Derived.Test.YtimabpfjjpjfjaaGreatDoorM38
set_option maxHeartbeats 3200000
set_option maxRecDepth 100000
set_option linter.all false
open Go renaming World→qo,Addr→qt,Calls→qw,Value→qp
open Go.Obj renaming cells→qn
open Go.Value renaming int→U,slice→qh,pointer→qi,string→qg,tuple→qj
open Go.IntKind renaming i64→Z
open Go.Ending renaming returned→qm
open Go.RowKit renaming Below→qz,Hid→qy
namespace Go.Proofs.YtimabpfjjpjfjaaGreatDoor
open Tryz
open Tryz renaming prog→qx
namespace TopW
open Go.RowKit OpW OpP
variable{w J:qo}{M:List Nat}{K:CK}{c:CS}
structure kP(w:qo)(oa:Option qt)(n cap:Nat)(l:List Int):Prop where
 len:n=l.length
 le:n≤cap
 max:cap≤maxLen
 row:l≠[]→ ∃g off cs,oa=some ⟨g,off,none⟩∧w.heap[g]? =some (qn cs 3 (0,0))∧ ∀(j:Nat) (x:Int),l[j]? =some x→cs[off+j]? =some (U Z x)
theorem kP.ag{oa:Option qt}{n cap:Nat}{l:List Int}(h:kP w oa n cap l)(k:Ch M w J):kP J oa n cap l:=
 ⟨h.len,h.le,h.max,fun hl=>by
  obtain⟨g,off,cs,h1,h2,h3⟩:=h.row hl;exact⟨g,off,cs,h1,k.bC _ _ _ _ h2 qa,h3⟩⟩
theorem kP.cell{g off n cap:Nat}{l:List Int}(h:kP w (some ⟨g,off,none⟩) n cap l){j:Nat}{x:Int}(hx:l[j]? =some x):w.cell? ⟨g,off+j,none⟩=some (U Z x):=by
 obtain⟨g',off',cs,h1,h2,h3⟩:=h.row (by rintro rfl;simp at hx);injection h1 with h1
 injection h1 with h1 h4 _
 subst h1 h4;rw[qI h2];exact h3 j x hx
theorem EN(oa:Option qt)(n cap:Nat)(l:List Int)(hl:l.Pairwise (· < ·))(w:qo)(h:kP w oa n cap l)(hn:n≤1000000):
 qw qx 264 #[qh oa n cap] w fun e J=>e=qm (qh oa n cap)∧qz w.heap.size w J:=by
 by_cases h2:n<2
 ·have h2':(n:Int)<2:=by omega
  clear h hl;go_enter func264,ntmps264;go_wp2_with fail
  go_ret;exact⟨rfl,Below.refl _ _⟩
 ·have h2': ¬(n:Int)<2:=by omega
  have bd:l≠[]:=by rintro rfl;have:=h.len;simp at this;omega
  obtain⟨g,off,cs,rfl,hg,ff⟩:=h.row bd;have HR:=Hd h
  have dO:qy (∀(j:Nat) (x y:Int),l[j]? =some x→l[j+1]? =some y→x<y):=Hd fun j x y hx hy=>by
   have:=List.pairwise_iff_getElem.1 hl;obtain⟨h1,rfl⟩:=xb.1 hx;obtain⟨h2,rfl⟩:=xb.1 hy;exact this j (j+1) h1 h2 Y
  have HN:=Hd h.len;have ZL:=Hd h.le;clear h hl hg ff bd;go_enter func264,ntmps264;go_wp2_with fail
  go_loopw [3] (fun k wr=> ∃j:Nat,1≤j∧j≤n∧k=U Z (j:Nat)∧qz w.heap.size w wr) (fun k _=>((n:Int)-intOf k).toNat)
  case atStart=>exact⟨1,Y,Y,rfl,Below.refl _ _⟩
  case round=>
   obtain⟨j,hj1,hj2,rfl,hb⟩:=hrel;have HB:=Hd hb;have HRr:=Hd (HR.o.ag (M:=[]) (Ch.af hb));clear hb;by_cases aN:j<n
   ·obtain⟨i,zv⟩: ∃i,j=i+1:=⟨j-1,Y⟩;obtain⟨x,hx⟩: ∃x,l[i]? =some x:=⟨_,qN (show i<l.length by have:=HN.o;omega)⟩;obtain⟨y,hy⟩: ∃y,l[j]? =some y:=⟨_,qN (show j<l.length by have:=HN.o;omega)⟩;have c0:=HRr.o.cell hx;have c1:=HRr.o.cell hy;have Wr:(y==x)=false:=by have:=dO.o i x y hx (zv▸hy);rw[qP];omega
    have hj0:(0:Int)≤(j:Int):=Y;have Ac:(j:Int)<(n:Int):=Y;have hi0:(0:Int)≤(i:Int):=Y;have VW:(i:Int)<(n:Int):=Y;have ael:(j:Int)-1=(i:Int):=Y;have aem:IntKind.i64.wrap ((j:Int)+1)=((j+1:Nat):Int):=by rw[qO _ ⟨Y,Y⟩];omega
    have HJI:=Hd zv;have ahV:=Hd aN;clear hx hy zv aN;go_wp2_with fail
    go_quiet (fail)
    have az:=Hd (below_drewN HB.o nq);clear c0 c1;go_wp2_with fail
    exact⟨⟨j+1,Y,by have:=ahV.o;omega,qc,az.o⟩,by simp[intOf];omega⟩
   ·have hnl: ¬(j:Int)<(n:Int):=by omega
    clear aN;go_wp2_with fail
    go_ret;exact⟨rfl,HB.o⟩
end TopW
namespace ConW
open Go.RowKit ConP
theorem Rm(B b:Nat)(l:List UInt8)(s:ByteArray)(w:qo)(h:sF B b l w)(hlen:l.length+s.size≤140737488355328)(hBw:B≤w.heap.size):
 qw qx 49 #[qi (some ⟨b,0,none⟩),qg s] w fun e J=>e=qm (qj #[U Z s.size,.nilIface])∧sF B b (l++s.data.toList) J∧Fr B b w J:=by
 have hB:=h.base;obtain⟨i0,hi,hz0,hz1,hz2⟩:=info_parts IU;go_enter func49,ntmps49;go_wp2_with(go_at_call 76;refine(oc B b l _ h).mono ?_)
 rintro e w1⟨rfl,⟨v,eo,aT,bd⟩,hb1⟩;have c0:w1.cell? ⟨b,0,none⟩=some (qi (some ⟨b,0,none⟩)):=by rw[qI eo];rfl
 have c1:w1.cell? ⟨b,1,none⟩=some v:=by rw[qI eo];rfl
 go_wp2_with(at_builtin;refine Lib.wpList_append_own_string _ rfl _ _ 138 9 rfl B 5 i0 underlying138 underlying9 hi hz0 hz1 hz2 _ _ _ rfl aT s rfl ?c3 ?c4 ?c5 ?_)
 case c3=>unfold maxLen;omega
 case c4=>omega
 case c5=>have:=hb1.size;omega
 intro v' w2 oY mU _;have aN:b<w1.heap.size:=qK eo
 have hb2:w2.heap[b]? =some (qn #[qi (some ⟨b,0,none⟩),v] 140 (0,0)):=by
  rw[mU.block b aN (fun e=>bd e.symm)];exact eo
 have d1:w2.cell? ⟨b,1,none⟩=some v:=by rw[qI hb2];rfl
 have f1:w2.frozen? ⟨b,1,none⟩=false:=xx hb2 1
 obtain⟨ao,n',cap,rfl⟩: ∃ao n' cap,v'=qh ao n' cap:=by
  rcases oY.2 with⟨hv,_⟩|⟨g,cap,cur,hv,_⟩
  ·exact⟨_,_,_,hv⟩
  ·exact⟨_,_,_,hv⟩
 have zk:(Value.slice ao n' cap).ownBlock≠some b:=Lib.ownBlock_ne oY hb2 qa;go_wp2
 go_ret2
 refine⟨rfl,⟨hB,_,qh ao n' cap,.inr rfl,?_,?_,zk⟩,?_⟩
 ·rw[heap_setCell_same w2 b 1 _ _ _ hb2];rfl
 ·rw[←lM];have h3:=ownsRow_setCell_other oY (a:=⟨b,1,none⟩) zk (qh ao n' cap);simpa using h3
 ·exact(hb1.grown mU aT (by have:=hb1.size;omega)).setCell 1 hB _
theorem EO(B b:Nat)(p:qp)(w:qo)(eo:w.heap[b]? =some (qn #[p,qh none 0 0] 140 (0,0))):
 qw qx 47 #[qi (some ⟨b,0,none⟩)] w fun e J=>e=qm (qg ⟨#[]⟩)∧Fr B b w J:=by
 have hUS:=rJ
 have c1:w.drew.cell? ⟨b,1,none⟩=some (qh none 0 0):=by
  have:w.drew.heap[b]? =some (qn #[p,qh none 0 0] 140 (0,0)):=eo;rw[qI this];rfl
 have hSD:(Builtin.unsafeSliceData_ #[138] 178 #[qh none 0 0]).run qx w.drew= .ok (qi none) w.drew:=rfl;clear eo;go_enter func47,ntmps47;go_wp2
 go_region
 all_goals (go_wp2;go_ret;exact⟨rfl,(Fr.refl B b w).drew⟩)
end ConW
namespace TopW
open Go.RowKit OpW OpP
theorem Rn(r:Rec)(hk:r.k=10)(v:qp)(w:qo):qw qx 329 #[.agg (ju r.cl r.sq r.k r.p r.t r.sz r.h r.o r.d r.tk r.i v)] w fun e J=>e=qm (qj #[qg r.d,.bool true])∧qz w.heap.size w J:=by
 obtain⟨wA,p,hA,hp,h1,hb,l1⟩:=aD w (qn (ju r.cl r.sq r.k r.p r.t r.sz r.h r.o r.d r.tk r.i v) 61);have HB:=Hd hb;obtain⟨o0,o1,o2,o3,o4,o5,o6,o7,o8,o9,o10,o11⟩:=bP h1;have o2':wA.cell? ⟨p,2,none⟩=some (U Z 10):=by rw[o2,hk]
 clear h1 hb l1 hk o2;go_enter func329,ntmps329;go_wp2_with fail
 go_ret2
 exact⟨rfl,HB.o⟩
variable{w J w'':qo}{M:List Nat}{K:CK}{c:CS}
theorem aac(w:qo)(A B C D E:Obj): ∃wA wB wC wD wE p q s t u,w.alloc A=wA∧wA.alloc B=wB∧wB.alloc C=wC∧wC.alloc D=wD∧wD.alloc E=wE∧w.heap.size=p∧wA.heap.size=q∧wB.heap.size=s∧wC.heap.size=t∧wD.heap.size=u∧
 wE.heap[p]? =some A∧wE.heap[q]? =some B∧wE.heap[s]? =some C∧wE.heap[t]? =some D∧wE.heap[u]? =some E∧qz w.heap.size w wE∧w.heap.size≤p∧w.heap.size≤q∧w.heap.size≤s∧w.heap.size≤t∧w.heap.size≤u:=by
 obtain⟨wA,wB,wC,p,q,s,h1,h2,h3,h4,h5,h6,h7,h8,h9,hb,l1,l2,l3⟩:=Cf w A B C;obtain⟨wD,wE,t,u,g1,g2,g3,g4,g5,g6,g7,g8,g9⟩:=yF wC D E;exact⟨wA,wB,wC,wD,wE,p,q,s,t,u,h1,h2,h3,g1,g2,h4,h5,h6,g3,g4,ae g7 h7,ae g7 h8,ae g7 h9,g5,g6,ai hb g7,l1,l2,l3,qM hb.size g8,qM hb.size g9⟩
abbrev Vc(K:CK):qp:= .func (.func 131) #[pV K.cb] #[]
structure RdW(w J:qo)(K:CK)(c:CS)(oa:Option qt)(n cap:Nat)(mb:Nat)(t:iI)(a:Int):Prop where
 ex: ∃fb p5 p6 p7 p8 p9,bt J K {c with cur:= .iface gm (pV fb),th:= .func (.func 328) #[] #[pV p8,pV p5,pV p7,pV p6,pV p9]}∧jt J fb a false 2 0 ⟨#[]⟩∧
  Bx J p5 39 (pV K.cb)∧Bx J p6 35 (qh oa n cap)∧Bx J p7 298 (.map (some mb))∧Bx J p8 1 (Vc K)∧Bx J p9 300 t.v∧w.heap.size≤fb
 ch:Ch [K.cb] w J
def RdR(w J:qo)(K:CK)(c:CS)(l:List Int)(oa:Option qt)(n cap:Nat)(mb:Nat)(t:iI)(Q:qo→Prop):Prop:=(l=[]∧Q J)∨(∃a r,l=a::r∧RdW w J K c oa n cap mb t a)
theorem Bf(l:List Int)(oa:Option qt)(n cap mb:Nat)(t:iI)(ht:t.ok)(Mf: ∀a∈l,0≤a∧a<16384)(w:qo)(Q:qo→Prop)(h:bt w K c)(hA:kP w oa n cap l)
 (HT:l=[]→ ∀w1,bt w1 K c→Ch [K.cb] w w1→eN t #[.map (some mb)] w1 Q):
 qw qx 263 #[pV K.cb,qh oa n cap,.map (some mb),Vc K,.func (.func t.F) #[] t.cap] w fun e J=>e=qm (qj #[])∧RdR w J K c l oa n cap mb t Q:=by
 have HT':=Hd HT;have uP:=Hd hA;have yG:=Hd Mf;have CD: ∀(args:Array qp) (W:qo),(callFunc t.F args).run qx W= .ok (.enter t.F args) W:=ht;obtain⟨wA,wB,wC,wD,wE,p,q,s,u,v0,hA1,hB1,hC1,hD1,hE1,hp,hq,hs3,hu,hv,h1,h2,h3,h4,h5,hb,l1,l2,l3,l4,l5⟩:=aac w (qn #[pV K.cb] 39) (qn #[qh oa n cap] 35) (qn #[.map (some mb)] 298) (qn #[Vc K] 1) (qn #[.func (.func t.F) #[] t.cap] 300);have HB:=Hd hb;have HP:=Hd h1;have HQ:=Hd h2;have HS:=Hd h3;have HU:=Hd h4;have HV:=Hd h5;have Ro:=Hd (h.grow hb);have HAE:=Hd (hA.ag (M:=[]) (Ch.af hb));have x1:=Bx.cell h1;have x2:=Bx.cell h2;have x3:=Bx.cell h3
 have x4:=Bx.cell h4;have x5:=Bx.cell h5;clear h ht HT h1 h2 h3 h4 h5 hb l1 l2 l3 l4 l5 hA Mf;by_cases gU:l=[]
 ·have HN:qy (l=[]):=Hd gU;have hn0:n=0:=by have:=uP.o.len;rw[gU]at this;simpa using this
  subst hn0;clear gU;go_enter func263,ntmps263;go_wp2_with fail
  refine(HT'.o HN.o wE Ro.o (Ch.af HB.o)).mono ?_;rintro e w2⟨rfl,hq⟩;have Xg:=Hd hq;clear hq;go_wp2_with fail
  exact xB (results_none rfl _ _ _) rfl ⟨rfl,.inl ⟨HN.o,Xg.o⟩⟩
 ·obtain⟨a,r,har⟩: ∃a r,l=a::r:=List.exists_cons_of_ne_nil gU;obtain⟨g,off,cs,rfl,hg,ff⟩:=HAE.o.row gU;have ha0:=yG.o a (by rw[har];simp);have HG:=Hd hg;have Lu:=Hd (ff 0 a (by rw[har];rfl));have HAR:=Hd har;have hn1:((n:Int)==0)=false:=by rw[qP];have:=uP.o.len;rw[har]at this;simp at this;omega
  have hn3:0<n:=by have:=uP.o.len;rw[har]at this;simp at this;omega
  have hn2:(0:Int)<(n:Int):=by have:=uP.o.len;rw[har]at this;simp at this;omega
  have zB: ∀(fn:Fn) (first cap:Array qp) (w:qo),(Instr.makeFunc fn first cap).run qx w= .ok (.func fn first cap) w:=fun _ _ _ _=>rfl;clear gU hg ff har;go_enter func263,ntmps263;go_wp2_with fail
  clear hA1 hB1 hC1 hD1 hE1 hp hq hs3 hu hv x1 x2 x3 x4 x5;obtain⟨b0,n0,b1,n1,b2,n2,hr,dx⟩:=Ro.o.row;have UR:=Hd dx;have au:qy (PS K b0 n0 wE wE.drew):=Hd (PS.start hr);have pD:qy (bt wE.drew K c):=Hd (Ro.o.ag (M:=[]) (Ch.refl _ _).drew qc);clear hr dx
  have HZ4:qy (∀X,Ch [K.cb] wE X→X.cell? ⟨g,off,none⟩=some (U Z a)):=Hd fun X hX=>by
   rw[qI (hX.bC _ _ _ _ HG.o qa)];simpa using Lu.o
  refine aB 12 12 (PS K b0 n0 wE) qd rfl ?_;refine tN 0 16 ?_ au.o ?_ (tN 1 17 ?_ au.o ?_ (tN 2 18 ?_ au.o ?_ (tN 3 19 ?_ au.o ?_ (tN 4 20 ?_ au.o ?_ (tN 5 21 ?_ au.o ?_ (tN 6 22 ?_ au.o ?_ (tN 7 23 ?_ au.o ?_ (tN 10 26 ?_ au.o ?_ ?_))))))))
  iterate 9
   rotate_left
   ·intro wq hq;have z0:=(Bx.ag HP.o hq.ch qa).cell;have z1:=hq.c2;have z2:=hq.c3;have z3:=(Bx.ag HQ.o hq.ch qa).cell;have z4:=HZ4.o wq hq.ch;exact bJ
  simp only[pS,aS,sZ,sS];refine ay 8 qd rfl rfl (al (some 24) (f:=246) (args:=#[.agg #[U Z 0,qh (some ⟨b0,0,none⟩) 2 n0],U Z a,.bool false]) rfl qf (fun v X=> ∃fb,v=pV fb∧jt X fb a false 2 0 ⟨#[]⟩∧wE.heap.size≤fb∧qz wE.drew.heap.size wE.drew X) ((Qa a false ha0 wE.drew (UR.o.ag (M:=[]) (Ch.refl _ _).drew)).mono fun e J ⟨fb,h1,h2,h3,h4⟩=>⟨_,h1,fb,rfl,h2,h3,h4⟩) ?_);rintro v w3⟨fb,rfl,oW,hl,hb3⟩;have eP:=Hd (au.o.step hb3);have Ef:=Hd oW;have yG:=Hd hl;have mL:=Hd (pD.o.grow hb3);clear oW hl hb3;refine⟨fun _=>eP.o,?_⟩;simp only[pS,aS,sZ,sS];refine tN 9 25 ?_ eP.o ?_ ?_;rotate_left
  ·intro wq hq;exact bJ
  simp only[pS,aS,sZ,sS];refine ay 11 qd rfl rfl (al (some 27) (f:=177) (args:=#[pV K.cb,.iface gm (pV fb),.func (.func 328) #[] #[pV u,pV p,pV s,pV q,pV v0]]) rfl qf (fun v X=>bt X K {c with cur:= .iface gm (pV fb),th:= .func (.func 328) #[] #[pV u,pV p,pV s,pV q,pV v0]}∧PS K b0 n0 wE X∧Ch [K.cb] w3 X) ((vw gm fb 328 #[pV u,pV p,pV s,pV q,pV v0] w3 mL.o).mono fun e J ⟨h1,h2,h3,h4⟩=>⟨_,h1,h2,eP.o.run h3 h4,h3⟩) ?_);rintro v w4⟨h1,h2,h3⟩;have H1:=Hd h1;have H2:=Hd h2;have H3:=Hd h3;clear h1 h2 h3;refine⟨fun _=>H2.o,?_⟩;simp only[pS,aS,sZ,sS];refine aU qd ?_;go_wp2_with fail
  go_end0
  refine⟨rfl,.inr ⟨a,r,HAR.o,⟨⟨fb,p,q,s,u,v0,H1.o,Ef.o.ag H3.o ?_,Bx.ag HP.o H2.o.ch qa,Bx.ag HQ.o H2.o.ch qa,Bx.ag HS.o H2.o.ch qa,Bx.ag HU.o H2.o.ch qa,Bx.ag HV.o H2.o.ch qa,?_⟩,Ch.pre HB.o H2.o.ch⟩⟩⟩
  ·have:=Ro.o.lt K.cb (by simp[CK.soft]);have:=yG.o;simp;omega
  ·exact qM HB.o.size yG.o
def ke(w:qo)(mb n:Nat)(g:Int→Option ByteArray):Prop:=an InoW.iV InoW.kI Value.string w mb n g
theorem ke.lt{mb n:Nat}{g:Int→Option ByteArray}(h:ke w mb n g):mb<w.heap.size:=an.lt h
theorem ke.ag{mb n:Nat}{g:Int→Option ByteArray}(h:ke w mb n g)(k:Ch M w J)(hn:mb∉M):ke J mb n g:=an.of_block h (k.block _ (an.lt h) hn)
theorem ke.soft{mb n:Nat}{g:Int→Option ByteArray}(h:ke w mb n g): ∀(cs:Array qp) (t:TypeId) (fr:Nat×Nat),w.heap[mb]? =some (qn cs t fr)→t∉kU:=by
 intro cs t fr e;obtain⟨es,cl,h1,_⟩:=h;rw[h1]at e;cases e
theorem kP.tail{g off n cap:Nat}{a:Int}{l:List Int}(h:kP w (some ⟨g,off,none⟩) n cap (a::l)):kP w (if cap=1 then some ⟨g,off,none⟩else some ⟨g,off+1,none⟩) (n-1) (cap-1) l where
 len:=by have:=h.len;simp at this;omega
 le:=by have:=h.le;omega
 max:=by have:=h.max;omega
 row:=fun hl=>by
  obtain⟨g',off',cs,h1,h2,h3⟩:=h.row qc;injection h1 with h1
  injection h1 with h1 h4 _
  subst h1 h4
  have hc: ¬cap=1:=by
   have h5:=h.len;have h6:=h.le;have h7:=List.length_pos_iff.2 hl;simp at h5;omega
  rw[qB hc];exact⟨g,off+1,cs,rfl,h2,fun j x hx=>by rw[show off+1+j=off+(j+1) by omega];exact h3 (j+1) x (by simpa using hx)⟩
theorem Mg(s:ByteArray)(r:Rec)(ht:Ce s r)(hk:r.k=10)(a:Int)(ha:0≤a∧a<16384)(l:List Int)(Mf: ∀a∈l,0≤a∧a<16384)(oa:Option qt)(n cap mb mn:Nat)(hmn:mn≤100000)(g:Int→Option ByteArray)(t:iI)(Mh:t.ok)(p5 p6 p7 p8 p9:Nat)(w:qo)(Q:qo→Prop)(hf:Fl w)(h:bt w K c)
 (h5:Bx w p5 39 (pV K.cb)) (h6:Bx w p6 35 (qh oa n cap)) (h7:Bx w p7 298 (.map (some mb))) (h8:Bx w p8 1 (Vc K)) (h9:Bx w p9 300 t.v)
 (hA:kP w oa n cap (a::l)) (hM:ke w mb mn g) (zG:mb∉K.soft) (ajB:10≤mb)
 (HT:l=[]→ ∀w1,bt w1 K c→Ch [mb,K.cb] w w1→ke w1 mb (mn+1) (fun z=>if z=a then some r.d else g z)→eN t #[.map (some mb)] w1 Q):
 qw qx 328 #[.agg (nQ 0 1 s),pV p8,pV p5,pV p7,pV p6,pV p9] w fun e J=>e=qm (qj #[])∧ ∃wm oa',Ch [mb] w wm∧ke wm mb (mn+1) (fun z=>if z=a then some r.d else g z)∧kP wm oa' (n-1) (cap-1) l∧RdR wm J K c l oa' (n-1) (cap-1) mb t Q:=by
 have HT':=Hd HT;have HH:=Hd h;have ru:=Hd ht;have HK:=Hd hk;have yG:=Hd Mf;have uP:=Hd hA;have HMM:=Hd hM;obtain⟨wA,p,hA1,hp,h1,hb,l1⟩:=aD w (qn (nQ 0 1 s) 286);have HB:=Hd hb;have HX:=Hd h1;have ZT:=Hd (hf.ag hb);have H5:=Hd h5;have H6:=Hd h6;have H7:=Hd h7;have H8:=Hd h8;have H9:=Hd h9;obtain⟨f0,f1,f2,f3⟩:=ka h1;clear h ht hk Mf hA hM h1 hb l1 hf h5 h6 h7 h8 h9 HT;go_enter func328,ntmps328;go_wp2_with fail
 refine(eU s ru.o.1 wA ZT.o).mono ?_;rintro e w2⟨r',x,oo,nn,cc,rfl,Iq,Eu,oQ,hb2,gU⟩;rw[ru.o.2]at gU;rcases gU with⟨e1,e2⟩|⟨e1,_⟩
 rotate_left
 ·cases e1
 injection e1 with e1
 subst e1 e2;have az:=Hd (ai HB.o hb2);have aF:=Hd (ae hb2 HX.o);clear Iq Eu oQ hb2 hA1 hp f0 f1 f2 f3;obtain⟨wB,ob,hB,rC,ho,hb3,l3⟩:=aD w2 (qn (ju r.cl r.sq r.k r.p r.t r.sz r.h r.o r.d r.tk r.i (qh oo nn cc)) 61);have cu:=Hd (ai az.o hb3);have jn:=Hd (ae hb3 aF.o);obtain⟨o0,o1,o2,o3,o4,o5,o6,o7,o8,o9,o10,o11⟩:=bP ho;clear ho hb3 l3;go_wp2_with fail
 refine(Rn r HK.o (qh oo nn cc) wB).mono ?_;rintro e w4⟨rfl,hb4⟩;have dp:=Hd (ai cu.o hb4);obtain⟨f0,f1,f2,f3⟩:=ka (ae hb4 jn.o);clear hb4 hB rC o0 o1 o2 o3 o4 o5 o6 o7 o8 o9 o10 o11;go_wp2_with fail
 clear f0 f1 f2 f3 jn aF HX HB az cu;obtain⟨gg,off,cs,rfl,hg,ff⟩:=uP.o.row qc;have HG:=Hd hg;have Lu:=Hd (ff 0 a rfl);have hn3:0<n:=by have:=uP.o.len;simp at this;omega
 have hn2:(0:Int)<(n:Int):=Y;clear hg ff;have iH:qy (Ch [mb] w w4):=Hd (Ch.af dp.o)
 have eO:qy (∀X,Ch [mb] w X→X.cell? ⟨p5,0,none⟩=some (pV K.cb)∧X.cell? ⟨p6,0,none⟩=some (qh (some ⟨gg,off,none⟩) n cap)∧X.cell? ⟨p7,0,none⟩=some (.map (some mb))∧X.cell? ⟨p8,0,none⟩=some (Vc K)∧X.cell? ⟨p9,0,none⟩=some (.func (.func t.F) #[] t.cap)∧X.cell? ⟨gg,off,none⟩=some (U Z a)):=Hd fun X hX=>
  ⟨(Bx.ag H5.o hX qa).cell,(Bx.ag H6.o hX qa).cell,(Bx.ag H7.o hX qa).cell,(Bx.ag H8.o hX qa).cell,(Bx.ag H9.o hX qa).cell,by
    rw[qI (hX.bC _ _ _ _ HG.o qa)];simpa using Lu.o⟩
 have au:qy (Ch [mb] w w4.drew):=Hd iH.o.drew;have Wq:qy (ke w4.drew mb mn g):=Hd (an.drew (an.ag HMM.o dp.o));refine aB 6 6 (fun X=>Ch [mb] w X) qd rfl ?_;generalize w4.drew=W0 at au Wq⊢;refine tN 0 50 ?_ au.o ?_ (tN 1 51 ?_ au.o ?_ (tN 2 52 ?_ au.o ?_ (tN 3 53 ?_ au.o ?_ (tN 4 54 ?_ au.o ?_ ?_))))
 iterate 5
  rotate_left
  ·intro wq hq;obtain⟨z5,z6,z7,z8,z9,zg⟩:=eO.o wq hq;exact bJ
 simp only[pS,aS,sZ,sS];obtain⟨w5,dV,hm5,ho5,hs5⟩:=an.store Wq.o InoW.sW underlying298 a r.d (InoW.ew Y);have Wh:(Instr.mapUpdate 298 (.map (some mb)) (U Z a) (qg r.d)).run qx W0= .ok () w5:=dV;have ou:qy (ke w5 mb (mn+1) (fun z=>if z=a then some r.d else g z)):=Hd hm5;have br:qy (Ch [mb] w w5):=Hd (au.o.aq (Ch.lI ho5 qc Wq.o.soft));clear dV hm5 ho5 hs5;refine ay 5 qd rfl rfl (bm none (J:=w5) rfl qf ⟨fun _=>br.o,?_⟩);simp only[Act.put,aS,sZ,sS];refine aU qd ?_;clear au Wq Wh iH dp;go_wp2_with fail
 have ahW:=Hd (uP.o.ag br.o);have dT:qy (Ch [mb,K.cb] w w5.drew):=Hd (br.o.mono qc).drew;have Ei:qy (Ch [mb] w w5.drew):=Hd br.o.drew;refine aB 6 7 (fun X=>Ch [mb,K.cb] w X) qd rfl ?_
 have vr:qy (∀X,Ch [mb,K.cb] w X→X.cell? ⟨p5,0,none⟩=some (pV K.cb)∧X.cell? ⟨p6,0,none⟩=some (qh (some ⟨gg,off,none⟩) n cap)∧X.cell? ⟨p7,0,none⟩=some (.map (some mb))∧X.cell? ⟨p8,0,none⟩=some (Vc K)∧X.cell? ⟨p9,0,none⟩=some (.func (.func t.F) #[] t.cap)):=Hd fun X hX=>
  ⟨(Bx.ag H5.o hX qa).cell,(Bx.ag H6.o hX qa).cell,(Bx.ag H7.o hX qa).cell,(Bx.ag H8.o hX qa).cell,(Bx.ag H9.o hX qa).cell⟩
 have WI:(1:Int)≤(n:Int):=Y;have WJ:(n:Int)≤(cap:Int):=by have:=uP.o.le;omega
 have ajC:1≤n:=Y;have ajD:n≤cap:=uP.o.le;have acd:(cap:Int)≤9223372036854775807:=by have:=uP.o.max;unfold maxLen at this;omega
 refine tL 0 55 ?_ dT.o ?_ (tL 3 58 ?_ dT.o ?_ (tL 4 59 ?_ dT.o ?_ (tL 5 60 ?_ dT.o ?_ ?_)))
 iterate 4
  rotate_left
  ·intro wq hq;obtain⟨z5,z6,z7,z8,z9⟩:=vr.o wq hq;exact bJ
 simp only[pS,aS,sZ,sS];obtain⟨z5,z6,z7,z8,z9⟩:=vr.o _ dT.o;have aae:=Hd ((ahW.o.ag (M:=[]) (Ch.refl _ _).drew).tail);have HMD:qy (ke w5.drew mb (mn+1) (fun z=>if z=a then some r.d else g z)):=Hd (an.drew ou.o);have ki:qy (bt w5.drew K c):=Hd (HH.o.ag Ei.o (fun x hx e=>zG (by simp at e;exact e▸hx)));have bd:K.cb≠mb:=fun e=>zG (by simp[CK.soft,←e]);clear eO vr br ou;generalize w5.drew=W6 at dT Ei aae HMD ki z5 z6 z7 z8 z9⊢;refine ay 1 qd rfl rfl (aw (some 56) (v:=qh (some ⟨gg,off,none⟩) n cap) (J:=W6) rfl qf ⟨fun _=>dT.o,?_⟩);simp only[pS,aS,sZ,sS]
 refine ay 2 qd rfl rfl (aw (some 57) (v:=qh (if cap=1 then some ⟨gg,off,none⟩else some ⟨gg,off+1,none⟩) (n-1) (cap-1)) (J:=W6) rfl qf ⟨fun _=>dT.o,?_⟩);simp only[pS,aS,sZ,sS];obtain⟨oa',Eu⟩: ∃o,(if cap=1 then some (⟨gg,off,none⟩:qt)else some ⟨gg,off+1,none⟩)=o:=⟨_,rfl⟩;have nh:qy (kP W6 oa' (n-1) (cap-1) l):=Hd (Eu▸aae.o);rw[Eu];clear Eu aae;refine ay 6 qd rfl rfl ?_;refine al (some 61) (f:=263) (args:=#[pV K.cb,qh oa' (n-1) (cap-1),.map (some mb),Vc K,.func (.func t.F) #[] t.cap]) rfl ?_ (fun v X=>RdR W6 X K c l oa' (n-1) (cap-1) mb t Q) ?_ ?_
 ·go_simp
 ·have hR:=Bf l oa' (n-1) (cap-1) mb t Mh yG.o W6 Q ki.o nh.o (fun e w1 h1 h2=>HT'.o e w1 h1 ((Ei.o.mono qc).aq (h2.mono qc)) (HMD.o.ag h2 (by simpa using fun e=>bd e.symm)));exact hR.mono fun e J h=>⟨_,h.1,h.2⟩
 rintro v w7 hq7;have HQ7:=Hd hq7;clear hq7 z5 z6 z7 z8 z9;refine⟨fun h=>qZ rfl h,?_⟩;simp only[pS,aS,sZ,sS];refine aU qd ?_;go_wp2_with fail
 go_end0
 exact⟨rfl,W6,oa',Ei.o,HMD.o,nh.o,HQ7.o⟩
structure iZ(w:qo)(oa:Option qt)(n cap:Nat)(l:List ExtW.Pt):Prop where
 len:n=l.length
 row:l≠[]→ ∃g cs,oa=some ⟨g,0,none⟩∧w.heap[g]? =some (qn cs 384 (0,0))∧ ∀(j:Nat) (x:ExtW.Pt),l[j]? =some x→cs[j*4]? =some (U Z x.o)∧cs[j*4+1]? =some (U Z x.n)∧cs[j*4+2]? =some (U Z x.a)∧cs[j*4+3]? =some (U Z x.f)
theorem iZ.ag{oa:Option qt}{n cap:Nat}{l:List ExtW.Pt}(h:iZ w oa n cap l)(k:Ch M w J):iZ J oa n cap l:=
 ⟨h.len,fun hl=>by
  obtain⟨g,cs,h1,h2,h3⟩:=h.row hl;exact⟨g,cs,h1,k.bC _ _ _ _ h2 qa,h3⟩⟩
theorem iZ.mW{B:Nat}{oa:Option qt}{n cap:Nat}{l:List ExtW.Pt}(h:ExtW.Row B w (qh oa n cap) l)(hn:n=l.length):iZ w oa n cap l:=by
 refine⟨hn,fun hl=>?_⟩;obtain⟨x,hx⟩: ∃x,l[0]? =some x:=⟨_,qN (List.length_pos_iff.2 hl)⟩;obtain⟨g,cur,rfl,_,_,hg,_⟩:=ExtW.nc h hx;refine⟨g,cur,rfl,hg,fun j y hy=>?_⟩;obtain⟨g',cur',e,_,_,hg',_,_,_,_,_,_,r⟩:=ExtW.nc h hy;injection e with e
 injection e with e _ _
 subst e;rw[hg]at hg';injection hg' with hg'
 injection hg' with hg'
 subst hg';exact r
theorem iZ.cells{g n cap:Nat}{l:List ExtW.Pt}(h:iZ w (some ⟨g,0,none⟩) n cap l){j:Nat}{x:ExtW.Pt}(hx:l[j]? =some x):
 w.cell? ⟨g,j*4,none⟩=some (U Z x.o)∧w.cell? ⟨g,j*4+1,none⟩=some (U Z x.n)∧w.cell? ⟨g,j*4+2,none⟩=some (U Z x.a)∧w.cell? ⟨g,j*4+3,none⟩=some (U Z x.f):=by
 obtain⟨g',cs,h1,h2,h3⟩:=h.row (by rintro rfl;simp at hx);injection h1 with h1
 injection h1 with h1 _ _
 subst h1;obtain⟨a,b,c,d⟩:=h3 j x hx;exact⟨by rw[qI h2];exact a,by rw[qI h2];exact b,by rw[qI h2];exact c,by rw[qI h2];exact d⟩
def EP(s:ByteArray)(f n:Int):ByteArray:=s.extract f.toNat (f+n).toNat
def mo(g:Int→Option ByteArray)(l:List ExtW.Pt):List UInt8:=l.flatMap fun x=>(EP ((g x.a).getD ⟨#[]⟩) x.f x.n).data.toList
theorem Mi{g:Int→Option ByteArray}{l:List ExtW.Pt}{k:Nat}{x:ExtW.Pt}(h:l[k]? =some x):mo g (l.take (k+1))=mo g (l.take k)++(EP ((g x.a).getD ⟨#[]⟩) x.f x.n).data.toList:=by
 unfold mo;rw[xA,h,xy];simp
def Fits(g:Int→Option ByteArray)(l:List ExtW.Pt):Prop:= ∀x∈l,(0≤x.a∧x.a<16384)∧0≤x.f∧1≤x.n∧x.n≤8192∧ ∃s:ByteArray,g x.a=some s∧x.f+x.n≤(s.size:Nat)∧s.size≤1000000
theorem nZ{s:ByteArray}{f n:Int}(h1:0≤f)(h2:0≤n)(h3:f+n≤(s.size:Nat)):(EP s f n).size=n.toNat:=by
 unfold EP;rw[ByteArray.size_extract];omega
theorem yL{g:Int→Option ByteArray}: ∀{l:List ExtW.Pt},Fits g l→(mo g l).length≤8192*l.length
 |[],_=>by simp[mo]
 |x::l,h=>by
  obtain⟨_,h1,h2,h3,s,h4,h5,_⟩:=h x qc;have ih:=yL (l:=l) fun y hy=>h y (by simp[hy]);have:=nZ h1 Y h5;unfold mo at ih⊢;rw[qU,qY,h4];simp only[Option.getD_some];rw[PathW.dH,this];simp only[xf];omega
theorem Vd{g:Int→Option ByteArray}{l:List ExtW.Pt}(h:Fits g l)(hl:l≠[]):mo g l≠[]:=by
 obtain⟨x,r,rfl⟩:=List.exists_cons_of_ne_nil hl;obtain⟨_,h1,h2,h3,s,h4,h5,_⟩:=h x qc;have h6:=nZ h1 Y h5;intro e;have h7:=qX List.length e;unfold mo at h7;rw[qU,qY,h4]at h7;simp only[Option.getD_some]at h7;rw[PathW.dH,h6]at h7;simp at h7;omega
theorem Ve{B b:Nat}{l:List UInt8}(h:ConW.sF B b l w)(k:qz w.heap.size w J):ConW.sF B b l J:=by
 obtain⟨p,v,h1,h2,h3,h4⟩:=h.ex
 exact⟨h.base,p,v,h1,ae k h2,World.ownsRow.kept h3 (row:=none) ⟨k.os,k.tape,k.output,k.size,fun j hj _=>k.block j hj⟩ (by
  cases hv:v.ownBlock with
  |none=>exact .inl rfl
  |some k=>exact .inr qc),h4⟩
theorem Mj(l:List ExtW.Pt)(hl:l.length≤1000)(oa:Option qt)(n cap mb mn:Nat)(g:Int→Option ByteArray)(hF:Fits g l)(w:qo)(h:bt w K c)(hP:iZ w oa n cap l)(hM:ke w mb mn g):
 qw qx 192 #[pV K.cb,qh oa n cap,.map (some mb)] w fun e J=>e=qm (qj #[])∧bt J K (c.fin 0 0 ⟨(mo g l).toArray⟩)∧Ch [K.cb] w J:=by
 have HH:=Hd h;have HFF:=Hd hF;have yu:=Hd hP;have HMM:=Hd hM;have Ee:=Hd hl;have HCL:=Hd (yL hF);obtain⟨wA,b,hA,hb,h1,rm,l1⟩:=aD w (qn #[qi none,qh none 0 0] 140);have HB:=Hd rm;have HX:=Hd h1;have so:b=w.heap.size:=hb.symm;have Fq:=Hd so;have FR:qy (ConW.sF b b [] wA):=Hd ⟨Nat.le_refl _,_,_,.inl rfl,h1,ConW.Eo _ _,by simp[Value.ownBlock]⟩;have HN:=Hd hP.len;clear h hF hP hM hl h1 rm l1 so;go_enter func192,ntmps192;go_wp2_with fail
 clear hA hb
 go_loopw [12] (fun i wr=> ∃k:Nat,k≤n∧i=U Z (k:Nat)∧ConW.sF b b (mo g (l.take k)) wr∧qz w.heap.size w wr∧(k=0→ ∃p,wr.heap[b]? =some (qn #[p,qh none 0 0] 140 (0,0)))) (fun i _=>((n:Int)-intOf i).toNat)
 case atStart=>exact⟨0,Y,rfl,FR.o,HB.o,fun _=>⟨_,HX.o⟩⟩
 case round=>
  obtain⟨k,hk,rfl,Ta,hbr,hz⟩:=hrel;have MN:=Hd hbr;have aep:=Hd Ta;have HZ:=Hd hz;clear Ta hbr hz;by_cases aN:k<n
  ·obtain⟨x,hx⟩: ∃x,l[k]? =some x:=⟨_,qN (show k<l.length by have:=HN.o;omega)⟩;have bd:l≠[]:=by rintro rfl;simp at hx
   obtain⟨pg,cs,rfl,_,_⟩:=yu.o.row bd;obtain⟨c0,c1,c2,c3⟩:=(yu.o.ag (M:=[]) (Ch.af MN.o)).cells hx;have HXM:=Hd (xp hx);have HXK:=Hd hx;have vN:(k:Int)<(n:Int):=Y;have hk0:(0:Int)≤(k:Int):=Y;have dO:=Hd aN;have hk1:IntKind.i64.wrap ((k:Int)+1)=((k+1:Nat):Int):=by rw[qO _ ⟨Y,by have:=Ee.o;have:=HN.o;omega⟩];omega
   clear hx bd aN;obtain⟨⟨a0,a1⟩,f0,n0,n1,s,hs,hfn,dY⟩:=HFF.o x HXM.o;obtain⟨F,hFx⟩: ∃F:Nat,x.f=(F:Int):=⟨x.f.toNat,Y⟩;obtain⟨N,hNx⟩: ∃N:Nat,x.n=(N:Int):=⟨x.n.toNat,Y⟩;obtain⟨wB,q,hB,hq,h1,hb1,l1⟩:=aD wr (qn #[U Z x.o,U Z (N:Int),U Z x.a,U Z (F:Int)] 384);obtain⟨y0,y1,y2,y3⟩:=kE h1;have az:=Hd (ai MN.o hb1);have cq:=Hd hb1;have ha: ¬x.a<0:=Y;have UQ:=Hd (HMM.o.ag (M:=[]) (Ch.af az.o) qc);have HS:=Hd hs;have aaf:=an.look UQ.o InoW.sW underlying298 (z:=qg ⟨#[]⟩) (by rfl) x.a (InoW.ew Y) false
   have NH:(Instr.lookup 298 (.map (some mb)) (U Z x.a) false).run qx wB= .ok (qg s) wB:=by
    rw[hs]at aaf;exact aaf
   have ahZ:F+N≤s.size:=Y;have ael:IntKind.i64.wrap ((s.size:Int)-(N:Int))=(s.size:Int)-(N:Int):=qO _ ⟨Y,Y⟩;have aem:IntKind.i64.wrap ((F:Int)+(N:Int))=(F:Int)+(N:Int):=qO _ ⟨Y,Y⟩;have YT: ¬(s.size:Int)-(N:Int)<(F:Int):=Y;have b1:(F:Int)≤(F:Int)+(N:Int):=Y;have b2:(F:Int)+(N:Int)≤(s.size:Int):=Y;have b3:(0:Int)≤(F:Int)+(N:Int):=Y;have b4:(0:Int)≤(F:Int):=Y;have HFX:=Hd hFx;have HNX:=Hd hNx;clear h1 hb1 l1 hs aaf a0 a1 f0 n0 n1 hfn;go_wp2_with fail
   have Zk:=Hd (Ve aep.o cq.o)
   have hlen:(mo g (l.take k)).length+(s.extract F (F+N)).size≤140737488355328:=by
    have h1:(mo g (l.take k)).length≤8192*(l.take k).length:=yL (fun y hy=>HFF.o y (List.mem_of_mem_take hy));have h2:=Ee.o;rw[xF]at h1;rw[ByteArray.size_extract];omega
   have hBW:b≤wB.heap.size:=by rw[Fq.o];exact az.o.size
   refine(ConW.Rm b b _ (s.extract F (F+N)) wB Zk.o hlen hBW).mono ?_;rintro e w3⟨rfl,Qr,Qs⟩
   have Zl:qy (ConW.sF b b (mo g (l.take (k+1))) w3):=Hd (by
    rw[Mi HXK.o,HS.o];have e1:EP s x.f x.n=s.extract F (F+N):=by unfold EP;rw[HFX.o,HNX.o];congr 1
    simp only[Option.getD_some];rw[e1];exact Qr)
   have cu:qy (qz w.heap.size w w3):=Hd (az.o.trans (Qs.below.mono (by rw[Fq.o];exact Nat.le_refl _)));clear Qr Qs hlen hBW NH hFx hNx ahZ ael aem YT b1 b2 b3 b4 hB hq y0 y1 y2 y3 c0 c1 c2 c3;go_wp2_with fail
   exact⟨⟨k+1,by have:=dO.o;omega,qc,Zl.o,cu.o,fun h=>by omega⟩,by simp[intOf];omega⟩
  ·have hnl: ¬(k:Int)<(n:Int):=by omega
   have FE:k=n:=Y;have HKN:=Hd FE;clear aN FE hk;go_wp2_with fail
   have hS:qw qx 47 #[qi (some ⟨b,0,none⟩)] wr fun e J=>e=qm (qg ⟨(mo g l).toArray⟩)∧qz w.heap.size w J:=by
    have BG:l.take k=l:=qT (by have:=HKN.o;have:=HN.o;omega);by_cases h0:l=[]
    ·obtain⟨p,hp⟩:=HZ.o (by have:=HKN.o;have:=HN.o;rw[h0]at this;simp at this;omega);refine(ConW.EO b b p wr hp).mono fun e J h=>⟨?_,?_⟩
     ·rw[h.1,h0];rfl
     ·exact MN.o.trans (h.2.below.mono (by rw[Fq.o];exact Nat.le_refl _))
    ·have Ta:=aep.o;rw[BG]at Ta;refine(ConW.uO b b _ wr (Vd HFF.o h0) Ta).mono fun e J h=>⟨h.1,?_⟩;exact MN.o.trans (h.2.below.mono (by rw[Fq.o];exact Nat.le_refl _))
   refine hS.mono ?_;rintro e w5⟨rfl,hb5⟩;have gx:=Hd hb5;clear hS hb5;go_wp2_with fail
   refine(rq 0 0 ⟨(mo g l).toArray⟩ w5 (HH.o.grow gx.o)).mono ?_;rintro e w6⟨rfl,h1,h2⟩;have H1:=Hd h1;have H2:=Hd (Ch.pre gx.o h2);clear h1 h2;go_wp2_with fail
   go_end0
   exact⟨rfl,H1.o,H2.o⟩
open Go.Sort Go.Shelf
theorem Hf{l:List Int}(h:l.Pairwise (· < ·)):l.mergeSort (fun x y=>decide (x≤y))=l:=by
 refine List.mergeSort_of_pairwise (h.imp fun h=>?_);simp only[qC];omega
theorem Rp(oa:Option qt)(n cap:Nat)(l:List Int)(hl:l.Pairwise (· < ·))(w:qo)(h:kP w oa n cap l)(hn:n≤1000000):
 qw qx 34 #[qh oa n cap] w fun e J=>e=qm (qj #[])∧qz w.heap.size w J:=by
 by_cases h0:l=[]
 ·have hn0:n=0:=by rw[h.len,h0];rfl
  subst hn0;refine(AnyM.slices_Sort_int_none Tryz.AZ oa cap w).mono ?_;rintro e J⟨rfl,rfl⟩;exact⟨rfl,Below.refl _ _⟩
 ·obtain⟨g,off,cs,rfl,hg,ff⟩:=h.row h0
  have hH:Holds (U Z) w g off l.toArray:=fun j hj=>by
   have hj':j<l.length:=by simpa using hj
   refine⟨?_,xx hg _⟩;rw[h.cell (qN hj')];simp[hj']
  have hlen:=h.len;have:=AnyM.slices_Sort_int Tryz.AZ g off cap l w hH (qK hg) Y;rw[←hlen]at this;refine this.mono ?_;rintro e J⟨rfl,m,os,rfl⟩;rw[Hf hl];have hA:Holds (U Z) (Sort.ahead w m) g off l.toArray:=hH;rw[putRow_self _ _ _ _ _ hA];refine⟨rfl,?_⟩;refine⟨rfl,rfl,rfl,?_,fun k hk=>?_⟩
  ·simp[Sort.ahead]
  ·exact heap_grow_old (Sort.ahead w m) os hk
end TopW
namespace TopW
open Go.RowKit OpW OpP
variable{w J w'':qo}{M:List Nat}{K:CK}{c:CS}
theorem kP.Gi{B n:Nat}{v:qp}{l:List Int}(h:w.ownsRow B 3 1 v n (l.map (U Z)))(hn:n=l.length): ∃oa cap,v=qh oa n cap∧kP w oa n cap l:=by
 rcases h.2 with⟨hv,h0⟩|⟨g,cap,cur,hv,hb,hg,XC,Bq,ff,aeq⟩
 ·refine⟨none,0,by rw[hv,h0],⟨hn,Y,by unfold maxLen;omega,fun hl=>?_⟩⟩;exact qZ (List.length_pos_iff.2 hl) Y
 ·refine⟨_,cap,hv,⟨hn,XC,Bq,fun hl=>⟨g,0,cur,rfl,hg,fun j x hx=>?_⟩⟩⟩;have hj:j<n:=by rw[hn];exact(xb.1 hx).1
  have h1:(cur.toList.take (n*1))[j]? =(l.map (U Z))[j]? :=by rw[aeq]
  rw[List.getElem?_take_of_lt Y,List.getElem?_map,hx]at h1;rw[Nat.zero_add];simpa using h1
theorem Vf:(prog.info? 3).map (fun i=>(i.zero,i.size,i.bytes))=some (some (U Z 0),1,8):=qd
theorem Hg(l:List ExtW.Pt)(hl:l.length≤1000)(Mf: ∀x∈l,0≤x.a∧x.a<16384)(Nr:(l.map (·.a)).Pairwise (· < ·))(oa:Option qt)(n cap:Nat)(t:iI)(ht:t.ok)(w:qo)(Q:qo→Prop)(h:bt w K c)(hP:iZ w oa n cap l)
 (HT:l=[]→ ∀w1 mb,bt w1 K c→Ch [K.cb] w w1→ke w1 mb 0 (fun _=>none)→eN t #[.map (some mb)] w1 Q):
 qw qx 190 #[pV K.cb,qh oa n cap,Vc K,.func (.func t.F) #[] t.cap] w fun e J=>e=qm (qj #[])∧ ∃wm mb oa2 dd,qz w.heap.size w wm∧ke wm mb 0 (fun _=>none)∧w.heap.size≤mb∧kP wm oa2 n dd (l.map (·.a))∧RdR wm J K c (l.map (·.a)) oa2 n dd mb t Q:=by
 have HH:=Hd h;have yu:=Hd hP;have Ee:=Hd hl;have yG:=Hd Mf;have HUP:=Hd Nr;have HN:=Hd hP.len;have HT':=Hd HT;obtain⟨i0,hi,hz0,hz1,hz2⟩:=info_parts Vf;clear h hP hl Mf Nr HT;go_enter func190,ntmps190;go_wp2_with fail
 go_loopw [8,13] (fun v i wr=> ∃k:Nat,k≤n∧i=U Z (k:Nat)∧wr.ownsRow w.heap.size 3 1 v k (((l.take k).map (·.a)).map (U Z))∧qz w.heap.size w wr) (fun _ i _=>((n:Int)-intOf i).toNat)
 case atStart=>exact⟨0,Y,rfl,⟨rfl,.inl ⟨rfl,rfl⟩⟩,Below.refl _ _⟩
 case round=>
  obtain⟨k,hk,rfl,aT,hbr⟩:=hrel;have MN:=Hd hbr;obtain⟨ao,ac,rfl⟩:=fg aT;have ei:=Hd aT;clear hbr aT;by_cases aN:k<n
  ·obtain⟨x,hx⟩: ∃x,l[k]? =some x:=⟨_,qN (show k<l.length by have:=HN.o;omega)⟩;have bd:l≠[]:=by rintro rfl;simp at hx
   obtain⟨pg,cs,rfl,_,_⟩:=yu.o.row bd;obtain⟨c0,c1,c2,c3⟩:=(yu.o.ag (M:=[]) (Ch.af MN.o)).cells hx;have HXK:=Hd hx;have vN:(k:Int)<(n:Int):=Y;have hk0:(0:Int)≤(k:Int):=Y;have dO:=Hd aN;have hk1:IntKind.i64.wrap ((k:Int)+1)=((k+1:Nat):Int):=by rw[qO _ ⟨Y,by have:=Ee.o;have:=HN.o;omega⟩];omega
   obtain⟨a0,a1⟩:=yG.o x (xp hx);clear hx bd aN;obtain⟨wB,q,hB,hq,h1,hb1,l1⟩:=aD wr (qn #[U Z x.o,U Z x.n,U Z x.a,U Z x.f] 384);obtain⟨y0,y1,y2,y3⟩:=kE h1;have az:=Hd (ai MN.o hb1);have EJ:qy (wB.ownsRow w.heap.size 3 1 (qh ao k ac) k (((l.take k).map (·.a)).map (U Z))):=Hd (by rw[←hB];exact ei.o.alloc _);have ML:k+1≤1001:=by have:=Ee.o;have:=HN.o;omega
   clear h1 hb1 l1;go_wp2_with(at_builtin;refine bB rfl _ _ 35 rfl w.heap.size 3 i0 (U Z 0) 1 8 underlying35 hi hz0 hz1 hz2 rfl qa _ _ _ (by rfl) EJ.o 1 1 (by rfl) rfl (by simp[Value.oneCell']) (by unfold maxLen;omega) Y az.o.size ?_;intro oa5 kF w6 fE nf _;have dT:=Hd fE;have jd:=Hd nf;clear fE nf)
   have aT:w6.ownsRow w.heap.size 3 1 (qh oa5 (k+1) kF) (k+1) (((l.take (k+1)).map (·.a)).map (U Z)):=by
    have h:=dT.o;rw[xA,HXK.o];simpa using h
   exact⟨⟨k+1,by have:=dO.o;omega,qc,aT,az.o.trans jd.o⟩,by simp[intOf];omega⟩
  ·have hnl: ¬(k:Int)<(n:Int):=by omega
   have FE:k=n:=Y;subst FE;clear aN hk;have BG:l.take k=l:=qT (by have:=HN.o;omega);have aT:=ei.o;rw[BG]at aT;obtain⟨oa2,dd,he,hAd⟩:=kP.Gi aT (by have:=HN.o;simpa using this);injection he with he1 _ he3
   subst he1 he3;have uP:=Hd hAd;clear aT hAd BG ei;go_wp2_with fail
   refine(Rp ao k ac (l.map (·.a)) HUP.o wr uP.o (by have:=Ee.o;have:=HN.o;omega)).mono ?_;rintro e w2⟨rfl,hb2⟩;have az:=Hd (ai MN.o hb2);have aag:=Hd (uP.o.ag (M:=[]) (Ch.af hb2));clear hb2 uP;go_wp2_with fail
   refine(EN ao k ac (l.map (·.a)) HUP.o w2 aag.o (by have:=Ee.o;have:=HN.o;omega)).mono ?_;rintro e w3⟨rfl,hb3⟩;have cu:=Hd (ai az.o hb3);have aia:=Hd (aag.o.ag (M:=[]) (Ch.af hb3));have Ij:= @run_makeMap qx;clear hb3 aag;go_wp2_with fail
   have HM4:qy (ke (w3.alloc (.map #[] 0)) w3.heap.size 0 (fun _=>none)):=Hd (an.made w3);have dp:qy (qz w.heap.size w (w3.alloc (.map #[] 0))):=Hd (ai cu.o (aa w3 _));have aah:=Hd (aia.o.ag (M:=[]) (Ch.af (aa w3 (.map #[] 0))));have HZ:qy (w.heap.size≤w3.heap.size):=Hd cu.o.size;obtain⟨mb,zG⟩: ∃mb,w3.heap.size=mb:=⟨_,rfl⟩;rw[zG]at HM4 HZ⊢;generalize w3.alloc (.map #[] 0)=w4 at HM4 dp aah⊢;have mL:=Hd (HH.o.grow dp.o);clear zG Ij;have bd:K.cb≠mb:=by have:=HH.o.lt K.cb (by simp[CK.soft]);have:=HZ.o;omega
   refine(Bf (l.map (·.a)) ao k ac mb t ht (fun a ha=>by obtain⟨x,hx,rfl⟩:=List.mem_map.1 ha;exact yG.o x hx) w4 Q mL.o aah.o (fun e w1 h1 h2=>HT'.o (by simpa using e) w1 mb h1 (Ch.pre dp.o h2) (HM4.o.ag h2 (by simpa using fun e=>bd e.symm)))).mono ?_;rintro e w5⟨rfl,hR⟩;have HR:=Hd hR;clear hR;go_wp2_with fail
   go_end0
   exact⟨rfl,w4,mb,ao,ac,dp.o,HM4.o,HZ.o,aah.o,HR.o⟩
theorem Mk(bI:bq.lQ (c.id,c.a.h))(rC:bq.BA c.V.H c.id c.a.h=false)(p:Nat)(w:qo)(h:bt w K c)(hp:Bx w p 39 (pV K.cb)):
 eN (GX p) #[] w fun J=>bt J K (c.fin 68 0 ⟨#[]⟩)∧Ch [K.cb] w J:=by
 have HH:=Hd h;have HP:=Hd hp;have EJ:=Hd rC;clear h hp rC;show qw qx 184 #[pV p] w _;go_enter func184,ntmps184;go_wp2_with fail
 have eO:qy (∀X,Ch [] w X→X.cell? ⟨p,0,none⟩=some (pV K.cb)∧X.cell? ⟨K.cb,4,none⟩=some (pV K.B.st)∧X.cell? ⟨K.cb,0,none⟩=some (U Z c.id)∧X.cell? ⟨K.cb,20,none⟩=some (U Z c.a.h)):=Hd fun X hX=>by
  obtain⟨b0,n0,b1,n1,b2,n2,hr,dx⟩:=HH.o.row;have hh:=hX.heap hr qc;exact⟨(Bx.ag HP.o hX qa).cell,ar hh 4 _ rfl,ar hh 0 _ rfl,ar hh 20 _ rfl⟩
 have au:qy (Ch [] w w.drew):=Hd (Ch.refl _ _).drew;have fP:qy (bt w.drew K c):=Hd (HH.o.ag (M:=[]) (Ch.refl _ _).drew qc);refine aB 20 20 (fun X=>Ch [] w X) qd rfl ?_;generalize w.drew=W0 at au fP⊢;refine tN 0 8 ?_ au.o ?_ (tN 1 9 ?_ au.o ?_ (tN 2 10 ?_ au.o ?_ (tN 3 11 ?_ au.o ?_ (tN 5 13 ?_ au.o ?_ (tN 6 14 ?_ au.o ?_ (tN 7 15 ?_ au.o ?_ (tN 8 16 ?_ au.o ?_ (tN 9 17 ?_ au.o ?_ (tN 10 18 ?_ au.o ?_ (tN 11 19 ?_ au.o ?_ (tN 12 20 ?_ au.o ?_ (tN 13 21 ?_ au.o ?_ ?_))))))))))))
 iterate 13
  rotate_left
  ·intro wq hq;obtain⟨z0,z1,z2,z3⟩:=eO.o wq hq;exact bJ
 simp only[pS,aS,sZ,sS];refine ay 4 qd rfl rfl (al (some 12) (f:=185) (args:=#[pV K.B.st]) rfl qf (fun v X=>v=pV K.B.hb∧W0=X) ((sL W0 fP.o.st).mono fun e J ⟨h1,h2⟩=>⟨_,h1,rfl,h2⟩) ?_);rintro v _⟨rfl,rfl⟩;refine⟨fun _=>au.o,?_⟩;simp only[pS,aS,sZ,sS];refine ay 14 qd rfl rfl (al (some 22) (f:=186) (args:=#[pV K.B.hb,U Z c.id,U Z c.a.h]) rfl qf (fun v X=>v=qj #[U Z (bq.yZ c.V.H c.id c.a.h),.bool (bq.BA c.V.H c.id c.a.h)]∧W0=X) ((bq.kJ K.B.hb K.B.hm c.V.H c.V.ls c.id c.a.h bI W0 fP.o.st.h).mono fun e J ⟨h1,h2⟩=>⟨_,h1,rfl,h2⟩) ?_);rintro v _⟨rfl,rfl⟩;refine⟨fun _=>au.o,?_⟩;simp only[pS,aS,sZ,sS]
 rw[EJ.o];refine tN 15 7 ?_ au.o ?_ (tN 16 23 ?_ au.o ?_ (tN 17 24 ?_ au.o ?_ (tN 18 1 ?_ au.o ?_ (tN 19 2 ?_ au.o ?_ ?_))))
 iterate 5
  rotate_left
  ·intro wq hq;exact bJ
 simp only[pS,aS,sZ,sS];refine aU qd ?_;have z0:=(eO.o W0 au.o).1;clear eO;go_wp2_with fail
 refine(yE 68 W0 fP.o).mono ?_;rintro e w6⟨rfl,h1,h2⟩;have H1:=Hd h1;have H2:qy (Ch [K.cb] w w6):=Hd ((au.o.mono qc).aq h2);clear h1 h2;go_wp2_with fail
 exact xB (results_none rfl _ _ _) rfl ⟨rfl,H1.o,H2.o⟩
theorem iZ.other{oa:Option qt}{n cap b i:Nat}{v:qp}{l:List ExtW.Pt}{cs:Array qp}{t:TypeId}(h:iZ w oa n cap l)(hb:w.heap[b]? =some (qn cs t (0,0)))(ht:t≠384):iZ (w.setCell ⟨b,i,none⟩ v) oa n cap l:=
 ⟨h.len,fun hl=>by
  obtain⟨g,cs',h1,h2,h3⟩:=h.row hl;exact⟨g,cs',h1,aZ h2 (by rintro rfl;rw[hb]at h2;injection h2 with h2;injection h2 with _ h2 _;exact ht h2),h3⟩⟩
abbrev zN(p q:Nat):iI:=⟨191,#[pV p,pV q]⟩
theorem Rq(p q:Nat):(zN p q).ok:=fun args W=>by simp[zN,go_sem]
structure RdG(w J:qo)(K:CK)(c:CS)(p:Nat)(pl:List ExtW.Pt)(Q:qo→Prop):Prop where
 ex: ∃wm q ro rc mb oa2 dd,qz w.heap.size w wm∧Bx wm q 93 (qh ro pl.length rc)∧iZ wm ro pl.length rc pl∧ke wm mb 0 (fun _=>none)∧w.heap.size≤mb∧kP wm oa2 pl.length dd (pl.map (·.a))∧RdR wm J K c (pl.map (·.a)) oa2 pl.length dd mb (zN p q) Q
theorem Hh(bI:bq.lQ (c.id,c.a.h))(ino:Int)(rC:bq.BA c.V.H c.id c.a.h=true)(hoi:bq.yZ c.V.H c.id c.a.h=ino)(hi:InoW.kI ino)(eg:Int)(dY: -9223372036854775808≤(InoW.bL c.V.L ino).s-c.a.f∧(InoW.bL c.V.L ino).s-c.a.f≤9223372036854775807)(heg:min c.a.s ((InoW.bL c.V.L ino).s-c.a.f)=eg)
 (pl:List ExtW.Pt) (vc:ExtW.ku (InoW.cY c.V.L ino) c.a.f eg=pl) (aai:(InoW.cY c.V.L ino).length≤9223372036854775807) (Xj:pl.length≤1000) (Mf: ∀x∈pl,0≤x.a∧x.a<16384) (Nr:(pl.map (·.a)).Pairwise (· < ·)) (p:Nat) (w:qo) (Q:qo→Prop) (h:bt w K c) (hp:Bx w p 39 (pV K.cb))
 (HT:pl=[]→ ∀w1 q ro rc mb,bt w1 K c→Ch [K.cb] w w1→ke w1 mb 0 (fun _=>none)→Bx w1 q 93 (qh ro pl.length rc)→iZ w1 ro pl.length rc pl→eN (zN p q) #[.map (some mb)] w1 Q):
 eN (GX p) #[] w fun J=>RdG w J K c p pl Q:=by
 have HH:=Hd h;have HP:=Hd hp;have EJ:=Hd rC;have HOI:=Hd hoi;have HT':=Hd HT;have yG:=Hd Mf;have HUP:=Hd Nr;have Eh:=Hd vc;have Qv:=Hd Xj;have hwr:IntKind.i64.wrap ((InoW.bL c.V.L ino).s-c.a.f)=(InoW.bL c.V.L ino).s-c.a.f:=qO _ dY;clear h hp rC hoi HT Mf Nr Xj;show qw qx 184 #[pV p] w _;go_enter func184,ntmps184;go_wp2_with fail
 have eO:qy (∀X,Ch [] w X→X.cell? ⟨p,0,none⟩=some (pV K.cb)∧X.cell? ⟨K.cb,4,none⟩=some (pV K.B.st)∧X.cell? ⟨K.cb,0,none⟩=some (U Z c.id)∧X.cell? ⟨K.cb,20,none⟩=some (U Z c.a.h)):=Hd fun X hX=>by
  obtain⟨b0,n0,b1,n1,b2,n2,hr,dx⟩:=HH.o.row;have hh:=hX.heap hr qc;exact⟨(Bx.ag HP.o hX qa).cell,ar hh 4 _ rfl,ar hh 0 _ rfl,ar hh 20 _ rfl⟩
 have au:qy (Ch [] w w.drew):=Hd (Ch.refl _ _).drew;have fP:qy (bt w.drew K c):=Hd (HH.o.ag (M:=[]) (Ch.refl _ _).drew qc);refine aB 20 20 (fun X=>Ch [] w X) qd rfl ?_;generalize w.drew=W0 at au fP⊢;refine tN 0 8 ?_ au.o ?_ (tN 1 9 ?_ au.o ?_ (tN 2 10 ?_ au.o ?_ (tN 3 11 ?_ au.o ?_ (tN 5 13 ?_ au.o ?_ (tN 6 14 ?_ au.o ?_ (tN 7 15 ?_ au.o ?_ (tN 8 16 ?_ au.o ?_ (tN 9 17 ?_ au.o ?_ (tN 10 18 ?_ au.o ?_ (tN 11 19 ?_ au.o ?_ (tN 12 20 ?_ au.o ?_ (tN 13 21 ?_ au.o ?_ ?_))))))))))))
 iterate 13
  rotate_left
  ·intro wq hq;obtain⟨z0,z1,z2,z3⟩:=eO.o wq hq;exact bJ
 simp only[pS,aS,sZ,sS];refine ay 4 qd rfl rfl (al (some 12) (f:=185) (args:=#[pV K.B.st]) rfl qf (fun v X=>v=pV K.B.hb∧W0=X) ((sL W0 fP.o.st).mono fun e J ⟨h1,h2⟩=>⟨_,h1,rfl,h2⟩) ?_);rintro v _⟨rfl,rfl⟩;refine⟨fun _=>au.o,?_⟩;simp only[pS,aS,sZ,sS];refine ay 14 qd rfl rfl (al (some 22) (f:=186) (args:=#[pV K.B.hb,U Z c.id,U Z c.a.h]) rfl qf (fun v X=>v=qj #[U Z (bq.yZ c.V.H c.id c.a.h),.bool (bq.BA c.V.H c.id c.a.h)]∧W0=X) ((bq.kJ K.B.hb K.B.hm c.V.H c.V.ls c.id c.a.h bI W0 fP.o.st.h).mono fun e J ⟨h1,h2⟩=>⟨_,h1,rfl,h2⟩) ?_);rintro v _⟨rfl,rfl⟩;refine⟨fun _=>au.o,?_⟩;simp only[pS,aS,sZ,sS]
 rw[EJ.o,HOI.o];refine tN 15 7 ?_ au.o ?_ (tN 16 23 ?_ au.o ?_ (tN 17 24 ?_ au.o ?_ (tN 18 1 ?_ au.o ?_ (tN 19 2 ?_ au.o ?_ ?_))))
 iterate 5
  rotate_left
  ·intro wq hq;exact bJ
 simp only[pS,aS,sZ,sS];refine aU qd ?_;obtain⟨z0,z1,z2,z3⟩:=eO.o W0 au.o;clear eO;go_wp2_with fail
 refine(Ba W0 fP.o.st).mono ?_;rintro e _⟨rfl,rfl⟩;go_wp2_with fail
 refine(gj K.B.rb K.B.tb K.B.nb W0 fP.o.st.t.cells.1).mono ?_;rintro e _⟨rfl,rfl⟩;go_wp2_with fail
 refine(InoW.wu ino hi W0 fP.o.st.t.t).mono ?_;rintro e w2⟨rfl,hb2⟩;have az:=Hd hb2;have mC:qy (Ch [] w w2):=Hd (au.o.step hb2);clear z0 z1 z2 z3 hb2;obtain⟨wS,sb,hS,uK,h1,hb1,l1⟩:=aD w2 (qn #[U Z (InoW.bL c.V.L ino).i,U Z (InoW.bL c.V.L ino).k,U Z (InoW.bL c.V.L ino).l,U Z (InoW.bL c.V.L ino).s] 28);have HDS:qy (Ch [] w wS):=Hd (mC.o.step hb1);have HX:=Hd h1;clear h1 hb1 l1;go_wp2_with fail
 clear hS uK
 have vr:qy (∀X,Ch [] wS X→X.cell? ⟨p,0,none⟩=some (pV K.cb)∧X.cell? ⟨K.cb,21,none⟩=some (U Z c.a.f)∧X.cell? ⟨K.cb,22,none⟩=some (U Z c.a.s)∧X.cell? ⟨sb,3,none⟩=some (U Z (InoW.bL c.V.L ino).s)):=Hd fun X hX=>by
  obtain⟨b0,n0,b1,n1,b2,n2,hr,dx⟩:=HH.o.row;have hh:=(HDS.o.aq hX).heap hr qc;exact⟨(Bx.ag HP.o (HDS.o.aq hX) qa).cell,ar hh 21 _ rfl,ar hh 22 _ rfl,(kE (hX.heap HX.o qc)).2.2.2⟩
 have br:qy (Ch [] wS wS.drew):=Hd (Ch.refl _ _).drew;have dP:qy (bt wS.drew K c):=Hd (HH.o.ag (HDS.o.drew) qc);refine aB 25 25 (fun X=>Ch [] wS X) qd rfl ?_;generalize wS.drew=W5 at br dP⊢
 refine tN 0 41 ?_ br.o ?_ (tN 1 42 ?_ br.o ?_ (tN 3 44 ?_ br.o ?_ (tN 4 45 ?_ br.o ?_ (tN 5 46 ?_ br.o ?_ (tN 6 47 ?_ br.o ?_ (tN 7 48 ?_ br.o ?_ (tN 8 49 ?_ br.o ?_ (tN 9 50 ?_ br.o ?_ (tN 10 51 ?_ br.o ?_ (tN 11 52 ?_ br.o ?_ (tN 12 53 ?_ br.o ?_ (tN 13 54 ?_ br.o ?_ (tN 14 55 ?_ br.o ?_ (tN 15 56 ?_ br.o ?_ (tN 16 57 ?_ br.o ?_ (tN 17 58 ?_ br.o ?_ (tN 18 59 ?_ br.o ?_ (tN 19 60 ?_ br.o ?_ (tN 20 61 ?_ br.o ?_ (tN 21 62 ?_ br.o ?_ ?_))))))))))))))))))))
 iterate 21
  rotate_left
  ·intro wq hq;obtain⟨y0,y1,y2,y3⟩:=vr.o wq hq;exact bJ
 simp only[pS,aS,sZ,sS];refine oP 2 23 qd rfl rfl rfl rfl (al (some 43) (f:=189) (args:=#[pV K.B.tb,U Z ino]) rfl qf (fun v X=> ∃oa' cap',v=qh oa' (InoW.cY c.V.L ino).length cap'∧ExtW.Row 0 X (qh oa' (InoW.cY c.V.L ino).length cap') (InoW.cY c.V.L ino)∧qz (W5).heap.size (W5) X) ((InoW.Ag ino hi (W5) dP.o.st.t.t).mono fun e J ⟨oa',cap',h1,h2,h3⟩=>⟨_,h1,oa',cap',rfl,h2.mono (Nat.zero_le _),h3⟩) ?zqc) (aw (some 6) (v:=qi (some ⟨(W5).heap.size,0,none⟩)) (J:=(W5).alloc (qn #[qh none 0 0] 93)) rfl qf ⟨fun _=>br.o.alloc _,?zqa⟩)
 case' zqc=>
  rintro v wk1⟨oa',cap',rfl,hpt,hb⟩;have dZ:=Hd (br.o.step hb);have fF:=Hd (dP.o.grow hb);have XT:=Hd hpt;clear hpt hb;refine⟨fun _=>dZ.o,?_⟩;simp only[pS,aS,sZ,sS]
  refine oP 22 23 qd rfl rfl rfl rfl (al (some 63) (f:=188) (args:=#[qh oa' (InoW.cY c.V.L ino).length cap',U Z c.a.f,U Z eg]) rfl qf (fun v X=>ExtW.Row (wk1).heap.size X v pl∧qz (wk1).heap.size (wk1) X) ((ExtW.wk oa' cap' (InoW.cY c.V.L ino) c.a.f eg aai (wk1) XT.o.sU).mono fun e J ⟨v,h1,h2,h3⟩=>⟨v,h1,vc▸h2,h3⟩) ?zqcc) (aw (some 6) (v:=qi (some ⟨(wk1).heap.size,0,none⟩)) (J:=(wk1).alloc (qn #[qh none 0 0] 93)) rfl qf ⟨fun _=>dZ.o.alloc _,?zqca⟩)
  case' zqcc=>
   rintro v wk2⟨aW,hb⟩;obtain⟨ro,rc,rfl,hrn,Xk,hrz⟩:=aW.form;have cX:=Hd (dZ.o.step hb);have dD:=Hd (fF.o.grow hb);have eB:qy (iZ wk2 ro pl.length rc pl):=Hd (iZ.mW aW rfl);clear aW hb hrn Xk hrz;refine⟨fun _=>cX.o,?_⟩;simp only[pS,aS,sZ,sS];refine ay 23 qd rfl rfl (aw (some 6) (v:=qi (some ⟨(wk2).heap.size,0,none⟩)) (J:=(wk2).alloc (qn #[qh none 0 0] 93)) rfl qf ⟨fun _=>cX.o.alloc _,?_⟩);simp only[pS,aS,sZ,sS];have eP:qy (Ch [] wS ((wk2).alloc (qn #[qh none 0 0] 93))):=Hd (cX.o.alloc _);have jY:qy (bt ((wk2).alloc (qn #[qh none 0 0] 93)) K c):=Hd (dD.o.grow (aa _ _))
   have jn:qy (((wk2).alloc (qn #[qh none 0 0] 93)).heap[(wk2).heap.size]? =some (qn #[qh none 0 0] 93 (0,0))∧wS.heap.size≤(wk2).heap.size):=Hd ⟨qA _ _,cX.o.size⟩;have eE:=Hd (eB.o.ag (M:=[]) (Ch.af (aa (wk2) (qn #[qh none 0 0] 93))));generalize(wk2).alloc (qn #[qh none 0 0] 93)=wk3 at eP jY jn eE⊢;generalize(wk2).heap.size=gb at jn⊢;have HZ:qy (Ch [] wS wk3∧bt wk3 K c∧(wk3.heap[gb]? =some (qn #[qh none 0 0] 93 (0,0))∧wS.heap.size≤gb)∧iZ wk3 ro pl.length rc pl):=Hd ⟨eP.o,jY.o,jn.o,eE.o⟩;clear eP jY jn eE;generalize wk3=wz at HZ⊢
  case' zqca=>
   simp only[pS,aS,sZ,sS];have cA:qy (Ch [] wS ((wk1).alloc (qn #[qh none 0 0] 93))):=Hd (dZ.o.alloc _);have iH:qy (bt ((wk1).alloc (qn #[qh none 0 0] 93)) K c):=Hd (fF.o.grow (aa _ _));have jA:qy (((wk1).alloc (qn #[qh none 0 0] 93)).heap[(wk1).heap.size]? =some (qn #[qh none 0 0] 93 (0,0))∧wS.heap.size≤(wk1).heap.size):=Hd ⟨qA _ _,dZ.o.size⟩;have pB:=Hd (XT.o.grow (aa (wk1) (qn #[qh none 0 0] 93)));generalize(wk1).alloc (qn #[qh none 0 0] 93)=wk4 at cA iH jA pB⊢;generalize(wk1).heap.size=gb at jA⊢
   refine ay 22 qd rfl rfl (al (some 63) (f:=188) (args:=#[qh oa' (InoW.cY c.V.L ino).length cap',U Z c.a.f,U Z eg]) rfl qf (fun v X=>ExtW.Row (wk4).heap.size X v pl∧qz (wk4).heap.size (wk4) X) ((ExtW.wk oa' cap' (InoW.cY c.V.L ino) c.a.f eg aai (wk4) pB.o.sU).mono fun e J ⟨v,h1,h2,h3⟩=>⟨v,h1,vc▸h2,h3⟩) ?_);rintro v wk5⟨aW,hb⟩;obtain⟨ro,rc,rfl,hrn,Xk,hrz⟩:=aW.form;have br:=Hd (cA.o.step hb);have dP:=Hd (iH.o.grow hb);have kS:qy (iZ wk5 ro pl.length rc pl):=Hd (iZ.mW aW rfl);have yB:qy (wk5.heap[gb]? =some (qn #[qh none 0 0] 93 (0,0))∧wS.heap.size≤gb):=Hd ⟨ae hb jA.o.1,jA.o.2⟩
   clear aW hb hrn Xk hrz;refine⟨fun _=>br.o,?_⟩;simp only[pS,aS,sZ,sS];have HZ:qy (Ch [] wS wk5∧bt wk5 K c∧(wk5.heap[gb]? =some (qn #[qh none 0 0] 93 (0,0))∧wS.heap.size≤gb)∧iZ wk5 ro pl.length rc pl):=Hd ⟨br.o,dP.o,yB.o,kS.o⟩;clear br dP yB kS;generalize wk5=wz at HZ⊢
 case' zqa=>
  simp only[pS,aS,sZ,sS];have dT:qy (Ch [] wS ((W5).alloc (qn #[qh none 0 0] 93))):=Hd (br.o.alloc _);have ee:qy (bt ((W5).alloc (qn #[qh none 0 0] 93)) K c):=Hd (dP.o.grow (aa _ _));have vp:qy (((W5).alloc (qn #[qh none 0 0] 93)).heap[(W5).heap.size]? =some (qn #[qh none 0 0] 93 (0,0))∧wS.heap.size≤(W5).heap.size):=Hd ⟨qA _ _,br.o.size⟩;generalize(W5).alloc (qn #[qh none 0 0] 93)=wk6 at dT ee vp⊢;generalize(W5).heap.size=gb at vp⊢
  refine ay 2 qd rfl rfl (al (some 43) (f:=189) (args:=#[pV K.B.tb,U Z ino]) rfl qf (fun v X=> ∃oa' cap',v=qh oa' (InoW.cY c.V.L ino).length cap'∧ExtW.Row 0 X (qh oa' (InoW.cY c.V.L ino).length cap') (InoW.cY c.V.L ino)∧qz (wk6).heap.size (wk6) X) ((InoW.Ag ino hi (wk6) ee.o.st.t.t).mono fun e J ⟨oa',cap',h1,h2,h3⟩=>⟨_,h1,oa',cap',rfl,h2.mono (Nat.zero_le _),h3⟩) ?_);rintro v wk7⟨oa',cap',rfl,hpt,hb⟩;have Ei:=Hd (dT.o.step hb);have sY:=Hd (ee.o.grow hb);have HP7:=Hd hpt;have HX7:qy (wk7.heap[gb]? =some (qn #[qh none 0 0] 93 (0,0))∧wS.heap.size≤gb):=Hd ⟨ae hb vp.o.1,vp.o.2⟩;clear hpt hb
  refine⟨fun _=>Ei.o,?_⟩;simp only[pS,aS,sZ,sS];refine ay 22 qd rfl rfl (al (some 63) (f:=188) (args:=#[qh oa' (InoW.cY c.V.L ino).length cap',U Z c.a.f,U Z eg]) rfl qf (fun v X=>ExtW.Row (wk7).heap.size X v pl∧qz (wk7).heap.size (wk7) X) ((ExtW.wk oa' cap' (InoW.cY c.V.L ino) c.a.f eg aai (wk7) HP7.o.sU).mono fun e J ⟨v,h1,h2,h3⟩=>⟨v,h1,vc▸h2,h3⟩) ?_);rintro v wk8⟨aW,hb⟩;obtain⟨ro,rc,rfl,hrn,Xk,hrz⟩:=aW.form;have Jg:=Hd (Ei.o.step hb);have IQ:=Hd (sY.o.grow hb);have HR8:qy (iZ wk8 ro pl.length rc pl):=Hd (iZ.mW aW rfl)
  have HX8:qy (wk8.heap[gb]? =some (qn #[qh none 0 0] 93 (0,0))∧wS.heap.size≤gb):=Hd ⟨ae hb HX7.o.1,HX7.o.2⟩;clear aW hb hrn Xk hrz;refine⟨fun _=>Jg.o,?_⟩;simp only[pS,aS,sZ,sS];have HZ:qy (Ch [] wS wk8∧bt wk8 K c∧(wk8.heap[gb]? =some (qn #[qh none 0 0] 93 (0,0))∧wS.heap.size≤gb)∧iZ wk8 ro pl.length rc pl):=Hd ⟨Jg.o,IQ.o,HX8.o,HR8.o⟩;clear Jg IQ HX8 HR8;generalize wk8=wz at HZ⊢
 all_goals
  obtain⟨g1,g2,⟨g3,g4⟩,g5⟩:=HZ.o;clear HZ;have WA:qy (Ch [] wS (wz.setCell ⟨gb,0,none⟩ (qh ro pl.length rc))):=Hd (g1.set 0 _ (.inr g4) (fun _ _ _ _=> .inr g4));have Vg:qy (bt (wz.setCell ⟨gb,0,none⟩ (qh ro pl.length rc)) K c):=Hd (HH.o.ag (HDS.o.aq WA.o) qc);have HX9:qy (Bx (wz.setCell ⟨gb,0,none⟩ (qh ro pl.length rc)) gb 93 (qh ro pl.length rc)):=Hd (av (i:=0) g3 _);have HR9:qy (iZ (wz.setCell ⟨gb,0,none⟩ (qh ro pl.length rc)) ro pl.length rc pl):=Hd (g5.other g3 qa);have y0:wz.cell? ⟨gb,0,none⟩=some (qh none 0 0):=by rw[qI g3];rfl
  have y1:wz.frozen? ⟨gb,0,none⟩=false:=xx g3 _;clear g1 g2 g3 g4 g5;refine ay 24 qd rfl rfl (bm none (J:=wz.setCell ⟨gb,0,none⟩ (qh ro pl.length rc)) rfl qf ⟨fun _=>WA.o,?_⟩);simp only[Act.put];refine aU qd ?_;clear y0 y1 vr br dP;generalize wz.setCell ⟨gb,0,none⟩ (qh ro pl.length rc)=w9 at WA Vg HX9 HR9⊢;have HD9:qy (Ch [] w w9):=Hd (HDS.o.aq WA.o);have y2:w9.cell? ⟨p,0,none⟩=some (pV K.cb):=(Bx.ag HP.o HD9.o qa).cell;have y3:w9.cell? ⟨gb,0,none⟩=some (qh ro pl.length rc):=HX9.o.cell;go_wp2_with fail
  refine(Hg pl Qv.o yG.o HUP.o ro pl.length rc (zN p gb) (Rq p gb) w9 Q Vg.o HR9.o (fun e w1 mb h1 h2 h3=>HT'.o e w1 gb ro rc mb h1 ((HD9.o.mono qc).aq h2) h3 (HX9.o.ag h2 qa) (HR9.o.ag h2))).mono ?_;rintro e w10⟨rfl,wm,mb,oa2,dd,b1,b2,b3,b4,b5⟩;have HE:qy (RdG w w10 K c p pl Q):=Hd ⟨wm,gb,ro,rc,mb,oa2,dd,ai (HD9.o.below qc (Nat.le_refl _)) b1,HX9.o.grow b1,HR9.o.ag (M:=[]) (Ch.af b1),b2,qM HD9.o.size b3,b4,b5⟩;clear b1 b2 b3 b4 b5;go_wp2_with fail
  go_end0
  exact⟨rfl,HE.o⟩
theorem Jn(l:List ExtW.Pt)(hl:l.length≤1000)(oa:Option qt)(n cap mb mn:Nat)(g:Int→Option ByteArray)(hF:Fits g l)(p q:Nat)(w:qo)(h:bt w K c)(hp:Bx w p 39 (pV K.cb))(hq:Bx w q 93 (qh oa n cap))(hP:iZ w oa n cap l)(hM:ke w mb mn g):
 eN (zN p q) #[.map (some mb)] w fun J=>bt J K (c.fin 0 0 ⟨(mo g l).toArray⟩)∧Ch [K.cb] w J:=by
 have HH:=Hd h;have NO:=Hd hP;have HM:=Hd hM;have HF:=Hd hF;have HL:=Hd hl;have z0:=hp.cell;have z1:=hq.cell;clear h hp hq hP hM hF hl;show qw qx 191 #[.map (some mb),pV p,pV q] w _;go_enter func191,ntmps191;go_wp2_with fail
 refine(Mj l HL.o oa n cap mb mn g HF.o w HH.o NO.o HM.o).mono ?_;rintro e w1⟨rfl,h1,h2⟩;have H1:=Hd h1;have H2:=Hd h2;clear h1 h2;go_wp2_with fail
 go_end0
 exact⟨rfl,H1.o,H2.o⟩
open ExtW
def bR:List ByteArray→Int
 |[]=>0
 |x::d=>(x.size:Nat)+bR d
def dS:Int→Int→List ByteArray→List Pt
 |_,_,[]=>[]
 |a,o,x::d=>⟨o,(x.size:Nat),a,0⟩::dS (a+1) (o+(x.size:Nat)) d
theorem Ml(d:List ByteArray)(x:ByteArray):bR (d++[x])=bR d+(x.size:Nat):=by
 induction d with
 |nil=>simp[bR]
 |cons y d ih=>simp only[xd,bR,ih];omega
theorem vC(d:List ByteArray):0≤bR d:=by
 induction d with
 |nil=>simp[bR]
 |cons y d ih=>simp only[bR];omega
theorem Vh{d:List ByteArray}(h: ∀x∈d,x.size≤200):bR d≤200*(d.length:Nat):=by
 induction d with
 |nil=>simp[bR]
 |cons y d ih=>
  have h1:=ih (fun x hx=>h x (by simp[hx]));have h2:=h y qc;simp only[bR,xf];omega
theorem Mm(d:List ByteArray)(x:ByteArray): ∀(a o:Int),dS a o (d++[x])=dS a o d++[⟨o+bR d,(x.size:Nat),a+(d.length:Nat),0⟩]:=by
 induction d with
 |nil=>intro a o;simp[dS,bR]
 |cons y d ih=>
  intro a o;simp only[xd,dS,ih,bR,xf];rw[show o+(y.size:Nat)+bR d=o+((y.size:Nat)+bR d) by omega,show a+1+(d.length:Nat)=a+((d.length+1:Nat):Int) by omega]
theorem yM(d:List ByteArray): ∀a o:Int,(dS a o d).length=d.length:=by
 induction d with
 |nil=>intro a o;rfl
 |cons y d ih=>intro a o;simp[dS,ih]
theorem yN(d:List ByteArray): ∀(a o:Int) (p:Pt),p∈dS a o d→(o≤p.o∧p.o+p.n≤o+bR d)∧(a≤p.a∧p.a<a+(d.length:Nat))∧p.f=0∧ ∃x∈d,p.n=(x.size:Nat):=by
 induction d with
 |nil=>intro a o p h;simp[dS]at h
 |cons y d ih=>
  intro a o p h;have hn:=vC d;simp only[dS,qG]at h;simp only[bR,xf];rcases h with rfl|h
  ·exact⟨⟨Int.le_refl _,by simp only;omega⟩,⟨Int.le_refl _,by simp only;omega⟩,rfl,y,qc,rfl⟩
  ·obtain⟨h1,h2,h3,x,h4,h5⟩:=ih _ _ p h;exact⟨⟨Y,Y⟩,⟨Y,Y⟩,h3,x,by simp[h4],h5⟩
structure ue(d:List ByteArray):Prop where
 len:d.length≤11
 each: ∀x∈d,1≤x.size∧x.size≤200
theorem ue.off{d:List ByteArray}(h:ue d):0≤bR d∧bR d≤2200:=by
 have h1:=Vh (fun x hx=>(h.each x hx).2);have h2:=h.len;exact⟨vC d,Y⟩
theorem Rr{d:List ByteArray}(h:ue d)(p:Pt)(hp:p∈dS 3 0 d):ExtW.One p:=by
 obtain⟨h1,h2,h3,x,h4,h5⟩:=yN d 3 0 p hp;have h6:=h.each x h4;have h7:=h.off;have h8:=h.len;unfold ExtW.One ExtW.Whole;omega
theorem yO: ∀(d:List ByteArray) (a o:Int),(∀p∈dS a o d,ExtW.One p)→gp (dS a o d)
 |[],a,o,_=>trivial
 |[x],a,o,h=>h _ (by simp[dS])
 |x::y::d,a,o,h=>by
  have h1:=yO (y::d) (a+1) (o+(x.size:Nat)) (fun p hp=>h p (by rw[dS];exact qV _ hp));refine⟨h _ (by simp[dS]),⟨Int.le_refl _,fun hj=>?_⟩,h1⟩;have:=hj.2.1;simp only at this;omega
theorem uf{d:List ByteArray}(h:ue d):ExtW.Good (dS 3 0 d):=
 ⟨by rw[yM];have:=h.len;omega,yO d 3 0 (Rr h)⟩
theorem Jo: ∀{l:List Pt} {s:Int},(∀p∈l,p.o+p.n≤s∧1≤p.n)→cF l s=l
 |[],_,_=>rfl
 |p::l,s,h=>by
  have h1:=h p qc;have h2:=Jo (l:=l) (s:=s) (fun q hq=>h q (by simp[hq]));simp only[cF,h2];rw[qH Y]
  congr 1
  rw[show min p.n (s-p.o)=p.n by omega]
theorem ER: ∀{l:List Pt} {s:Int},(∀p∈l,p.o+p.n≤s∧1≤p.n)→dN l s=[]
 |[],_,_=>rfl
 |p::l,s,h=>by
  have h1:=h p qc;have h2:=ER (l:=l) (s:=s) (fun q hq=>h q (by simp[hq]));simp only[dN,h2];rw[qB Y]
theorem Rs{d:List ByteArray}{x:ByteArray}(h:ue (d++[x])):jr (dS 3 0 d) ⟨bR d,(x.size:Nat),3+(d.length:Nat),0⟩=0∧oO (dS 3 0 d) ⟨bR d,(x.size:Nat),3+(d.length:Nat),0⟩=dS 3 0 (d++[x]):=by
 have hd:ue d:=⟨by have:=h.len;simp at this;omega,fun y hy=>h.each y (by simp[hy])⟩;have hx:=h.each x qc;have ho:=hd.off;have hl:=hd.len;have hg:=uf hd;have h1:ExtW.One ⟨bR d,(x.size:Nat),3+(d.length:Nat),0⟩:=by unfold ExtW.One ExtW.Whole;simp only;omega
 have e:=(InoP.SY hg h1 (by rw[yM];omega)).1;refine⟨e,?_⟩;obtain⟨_,_,h2⟩:=InoP.rT hg e;rw[h2]
 have hm: ∀p∈dS 3 0 d,p.o+p.n≤bR d∧1≤p.n:=fun p hp=>by
  obtain⟨a1,a2,a3,y,a4,a5⟩:=yN d 3 0 p hp;have:=hd.each y a4;omega
 have h3:eI (dS 3 0 d) ⟨bR d,(x.size:Nat),3+(d.length:Nat),0⟩=dS 3 0 (d++[x]):=by
  unfold eI;rw[Jo hm,ER (fun p hp=>⟨by have:=hm p hp;simp only;omega,(hm p hp).2⟩),xg,Mm,Int.zero_add]
 rw[h3];exact Fz (uf h).2
theorem Bg(e:Int): ∀(d:List ByteArray) (a o:Int) (out:List Pt),0≤o→(∀x∈d,1≤x.size)→o+bR d≤e→(dS a o d).foldl (eJ 0 e) (out,o)=(out++dS a o d,o+bR d)
 |[],a,o,out,_,_,_=>by simp[dS,bR]
 |x::d,a,o,out,h0,h1,h2=>by
  have h3:=h1 x qc;have h4:=vC d;simp only[bR]at h2;have h5:=Bg e d (a+1) (o+(x.size:Nat)) (out++[⟨o,(x.size:Nat),a,0⟩]) Y (fun y hy=>h1 y (by simp[hy])) Y;rw[dS,List.foldl_cons]
  have h6:eJ 0 e (out,o) ⟨o,(x.size:Nat),a,0⟩=(out++[⟨o,(x.size:Nat),a,0⟩],o+(x.size:Nat)):=by
   unfold eJ;have e1:max o 0=o:=Y;have e2:min (o+(x.size:Nat)) e=o+(x.size:Nat):=Y;simp only[e1,e2];rw[qH Y];have e3:jh o o=[]:=by unfold jh;rw[qB Y]
   have e4:o+(x.size:Int)-o=(x.size:Nat):=Y;have e5:0+o-o=(0:Int):=Y;rw[e3,e4,e5,xg]
  rw[h6,h5];simp only[bR,qW,List.singleton_append];rw[show o+(x.size:Nat)+bR d=o+((x.size:Nat)+bR d) by omega]
theorem Vi{d:List ByteArray}(h:ue d):ku (dS 3 0 d) 0 (bR d)=dS 3 0 d:=by
 unfold ku;rw[qH (uf h)];have ho:=h.off;by_cases h0:d=[]
 ·subst h0;rw[qB (by unfold Whole;simp only[bR];omega)];rfl
 ·have h1:1≤bR d:=by
   obtain⟨x,d',rfl⟩:=List.exists_cons_of_ne_nil h0;have:=h.each x qc;have:=vC d';simp only[bR];omega
  rw[qH (by unfold Whole;omega)];unfold Hu gI;rw[Bg (0+bR d) d 3 0 [] Y (fun x hx=>(h.each x hx).1) Y];simp only[xk];have e3:jh (0+bR d) (0+bR d)=[]:=by unfold jh;rw[qB Y]
  rw[e3,xg]
theorem aaj(d:List ByteArray): ∀a o:Int,((dS a o d).map (·.a)).Pairwise (· < ·):=by
 induction d with
 |nil=>intro a o;exact List.Pairwise.nil
 |cons x d ih=>
  intro a o;simp only[dS,List.map_cons,xw];refine⟨fun z hz=>?_,ih _ _⟩;obtain⟨p,hp,rfl⟩:=List.mem_map.1 hz;have:=(yN d _ _ p hp).2.1.1;omega
def mq(d:List ByteArray):List UInt8:=d.flatMap fun x=>x.data.toList
theorem Mn(s:ByteArray):EP s 0 (s.size:Nat)=s:=by
 unfold EP;simp
theorem aak(d:List ByteArray): ∀(a o:Int) (g:Int→Option ByteArray),(∀(j:Nat) (x:ByteArray),d[j]? =some x→g (a+(j:Nat))=some x)→mo g (dS a o d)=mq d:=by
 induction d with
 |nil=>intro a o g _;rfl
 |cons x d ih=>
  intro a o g h;have h0:=h 0 x rfl;have h1:=ih (a+1) (o+(x.size:Nat)) g (fun j y hj=>by rw[←h (j+1) y (by simpa using hj)];congr 1;omega);simp only[mo,dS,qU,mq]at h1⊢;rw[h1]
  congr 2
  rw[show a+((0:Nat):Int)=a by omega]at h0;rw[h0];exact qX ByteArray.data (Mn x)
end TopW
namespace TopW
open Go.RowKit OpW OpP
def fN(l o:Int)(d:List ByteArray):InoP.dw:=⟨2,2,l,o,bR d,dS 3 0 d⟩
def dA:List DirP.En:=[⟨1,nA,2⟩]
def Fx:List Int:=List.replicate 8 0
def Cq:List Int:=[0,1000,0,0,0,0,0,0]
def hA:cN.Ha:=⟨0,1,2⟩
def hB:cN.Ha:=⟨1,2,2⟩
abbrev mM(D:List DirP.En)(H:List cN.Ha)(ls:List Int)(O:Int→Option oR)(n:Int)(l o:Int)(d:List ByteArray):SV:=⟨[InoP.root,fN l o d],3,D,H,ls,O,n⟩
def aal:Rec:=⟨0,1,3,pA,mP,0,0,0,mP,0,0,[]⟩
def Cr(c s:Int):Rec:=⟨c,s,8,pA,mP,0,0,0,mP,0,0,[]⟩
def zO(s o:Int)(x:ByteArray):Rec:=⟨0,s,10,mP,mP,0,1,o,x,0,0,[]⟩
def Vj:Rec:=⟨1,2,11,mP,mP,0,0,0,mP,1000,0,[]⟩
def Vk:Rec:=⟨1,3,5,pA,mP,0,0,0,mP,0,0,[]⟩
def Vl:Rec:=⟨1,4,12,mP,mP,0,0,0,mP,500,0,[]⟩
def Vm:Rec:=⟨1,5,9,mP,mP,0,2,0,mP,0,0,[]⟩
section
open InoP
variable{L:List dw}{i b:Int}{x:dw}
theorem rv(hf:find L i=some x)(hb:b=1∨b= -1)(hk:x.k≠1)(ho: ¬(x.o+b<0∨128<x.o+b)):cU L i b=0:=by
 unfold cU;simp only[hf];rw[qH hb,qB hk,qB ho]
theorem ry(hf:find L i=some x)(hE:cU L i b=0):di L i b=gL L {x with o:=x.o+b} (decide (b<0)):=by
 unfold di;simp only[hf];rw[qH hE]
theorem Hi(hf:find L i=some x)(hb:(b=1∨b= -1)∧i≠1)(ho: ¬(x.l+b<0∨8<x.l+b)):iO L i b=0:=by
 unfold iO;simp only[hf];rw[qH hb,qB ho]
theorem Hj(hf:find L i=some x)(hE:iO L i b=0):eT L i b=gL L {x with l:=x.l+b} (decide (b<0)):=by
 unfold eT;simp only[hf];rw[qH hE]
theorem ES{o n a:Int}(hf:find L i=some x)(hk:x.k≠1)(hm:Kl o n=true)(hp:ExtW.jr x.p ⟨o,n,a,0⟩=0):eR L i o n a=0:=by
 unfold eR;simp only[hf];rw[qB hk,qH hm,hp];rfl
theorem ET{o n a:Int}(hf:find L i=some x)(hE:eR L i o n a=0):gM L i o n a=oX L (kH x o n a):=by
 unfold gM;simp only[hf];rw[qH hE]
end
theorem oks(K:FuncId)(hK:K=367∨K=368∨K=370∨K=371∨K=372∨K=369):
 ∀(args:Array qp) (W:qo),(callFunc K args).run qx W= .ok (.enter K args) W:=by
 rcases hK with rfl|rfl|rfl|rfl|rfl|rfl<;>intro args W<;>rfl
theorem Vn(O:Int→Option oR)(hO:(dQ O 0).s<1):dK ⟨[InoP.root],2,[],[],Fx,O,0⟩ aal ⟨1,0,0⟩ (mM dA [] Fx (fJ O 0 ⟨1,0,0⟩) 1 1 0 []):=by
 have h:=rr (V:=⟨[InoP.root],2,[],[],Fx,O,0⟩) (V':=mM dA [] Fx O 1 1 0 []) (r:=aal) qd rfl qa (Jm 3 qa) 367 qd (oks _ (.inl rfl)) hO 0 0 (by show(0:Int)≤0∧(0:Int)<16384;decide) rfl rfl
  (fun B mv w hs=>Ca 0 1 0 0 0 0 0 mP mP mv 0 2 qd qd qd qd (Jm 2 qa) qd w hs)
 exact h
theorem Jp(c s:Int)(H H':List cN.Ha)(ls:List Int)(O:Int→Option oR)(n o:Int)(d:List ByteArray)(hc:c=0∨c=1)(hs:1≤s∧s≤1000)(hn:0≤n∧n≤1000)(ho:0≤o∧o≤100)(hO:(dQ O c).s<s)(hE:bq.cU H c n 2=0)(hH:bq.di H c n 2=H'):
 dK (mM dA H ls O n 1 o d) (Cr c s) ⟨s,0,n⟩ (mM dA H' ls (fJ O c ⟨s,0,n⟩) (n+1) 1 (o+1) d):=by
 have hg:ck (Cr c s)=true:=by
  have e1:se (Cr c s)=true:=by show decide (0≤c∧c≤7∧1≤s∧s≤2147483647)=true;rw[qC];omega
  have e2:ey (Cr c s)=true:=by show ey ⟨c,s,8,pA,mP,0,0,0,mP,0,0,[]⟩=true;kernel_rfl
  have e3:mA (Cr c s) (only (Cr c s))=true:=(jy _ _).2 rfl;rw[ck,e1,e2,e3];rfl
 have hf:InoP.find [InoP.root,fN 1 o d] 2=some (fN 1 o d):=rfl;have hE2:InoP.cU [InoP.root,fN 1 o d] 2 1=0:=rv hf (.inl rfl) (by show(2:Int)≠1;decide) (by show¬(o+1<0∨128<o+1);omega);have hL:InoP.di [InoP.root,fN 1 o d] 2 1=[InoP.root,fN 1 (o+1) d]:=(ry hf hE2).trans rfl;have bI:bq.lQ (c,n):=bq.ov ⟨by show(-9223372036854775808:Int)≤c;omega,by show c≤(9223372036854775807:Int);omega⟩ ⟨by show(-9223372036854775808:Int)≤n;omega,by show n≤(9223372036854775807:Int);omega⟩
 have h:=rr (V:=mM dA H ls O n 1 o d) (V':=mM dA H' ls O (n+1) 1 (o+1) d) (r:=Cr c s) hg rfl (by show 0≤c∧c<8;omega) (Jm 8 qa) 368 qd (oks _ (.inr (.inl rfl))) hO 0 n (by show 0≤n∧n<16384;omega) rfl rfl
  (fun B mv w hs=>(LR c s 8 0 0 0 0 0 mP mP mv n 2 qd rfl rfl bI (Jm 2 qa) hE hE2 w hs).mono fun e J ⟨h1,h2,h3⟩=>⟨h1,by have h2':eH J B ⟨InoP.di [InoP.root,fN 1 o d] 2 1,3,dA,bq.di H c n 2,ls,O,n+1⟩:=h2;rw[hL,hH]at h2';exact h2',h3⟩)
 exact h
theorem Vo(s:Int)(H:List cN.Ha)(ls:List Int)(O:Int→Option oR)(n l o:Int)(d:List ByteArray)(x:ByteArray)(hd:ue (d++[x]))(hs:1≤s∧s≤1000)(hn:n=3+(d.length:Nat))(hO:(dQ O 0).s<s)(hl:cN.look H (0,1)=some 2):
 dK (mM dA H ls O n l o d) (zO s (bR d) x) ⟨s,0,0⟩ (mM dA H ls (fJ O 0 ⟨s,0,0⟩) (n+1) l o (d++[x])):=by
 have hd0:ue d:=⟨by have:=hd.len;simp at this;omega,fun y hy=>hd.each y (by simp[hy])⟩;have hx:=hd.each x qc;have hof:=hd0.off;have hlen:=hd0.len
 have hg:ck (zO s (bR d) x)=true:=by
  have e1:se (zO s (bR d) x)=true:=by show decide (0≤(0:Int)∧(0:Int)≤7∧1≤s∧s≤2147483647)=true;rw[qC];omega
  have e2:ey (zO s (bR d) x)=true:=by
   show(decide (0≤(1:Int)∧(1:Int)≤16383∧0≤bR d∧bR d≤8192∧1≤x.size∧x.size≤1024))=true;simp only[qC];omega
  have e3:mA (zO s (bR d) x) (only (zO s (bR d) x))=true:=(jy _ _).2 rfl;rw[ck,e1,e2,e3];rfl
 have hf:InoP.find [InoP.root,fN l o d] 2=some (fN l o d):=rfl;obtain⟨p1,p2⟩:=Rs hd;have hE2:InoP.eR [InoP.root,fN l o d] 2 (bR d) (x.size:Nat) n=0:=ES hf (by show(2:Int)≠1;decide) (by unfold InoP.Kl;simp only[qC];omega) (by rw[hn];exact p1)
 have hL:InoP.gM [InoP.root,fN l o d] 2 (bR d) (x.size:Nat) n=[InoP.root,fN l o (d++[x])]:=by
  rw[ET hf hE2]
  have e:InoP.kH (fN l o d) (bR d) (x.size:Nat) n=fN l o (d++[x]):=by
   unfold InoP.kH fN;simp only;rw[hn,p2,Ml,show max (bR d) (bR d+(x.size:Nat))=bR d+(x.size:Nat) by omega]
  rw[e];rfl
 have bI:bq.lQ ((0:Int),(1:Int)):=bq.ov qa qa
 have h:=rr (V:=mM dA H ls O n l o d) (V':=mM dA H ls O (n+1) l o (d++[x])) (r:=zO s (bR d) x) hg rfl (by show(0:Int)≤0∧(0:Int)<8;decide) (Jm 10 qa) 370 qd (oks _ (.inr (.inr (.inl rfl)))) hO 0 0 (by show 0≤n∧n<16384;omega) rfl rfl
  (fun B mv w hs=>(GP 0 s 10 0 1 (bR d) 0 0 mP mP x mv n 2 bI hl (Jm 2 qa) hE2 w hs).mono fun e J ⟨h1,h2,h3⟩=>⟨h1,by have h2':eH J B ⟨InoP.gM [InoP.root,fN l o d] 2 (bR d) (x.size:Nat) n,3,dA,H,ls,O,n+1⟩:=h2;rw[hL]at h2';exact h2',h3⟩)
 exact h
theorem Vp(H:List cN.Ha)(O:Int→Option oR)(n l o:Int)(d:List ByteArray)(hn:0≤n∧n≤1000)(hO:(dQ O 1).s<2):
 dK (mM dA H Fx O n l o d) Vj ⟨2,0,0⟩ (mM dA H Cq (fJ O 1 ⟨2,0,0⟩) (n+1) l o d):=by
 have h:=rr (V:=mM dA H Fx O n l o d) (V':=mM dA H Cq O (n+1) l o d) (r:=Vj) qd rfl qa (Jm 11 qa) 371 qd (oks _ (.inr (.inr (.inr (.inl rfl))))) hO 0 0 (by show 0≤n∧n<16384;omega) rfl rfl
  (fun B mv w hs=>GO 1 2 11 0 0 0 1000 0 mP mP mP mv n qd w hs)
 exact h
theorem Vq(H:List cN.Ha)(ls:List Int)(O:Int→Option oR)(n o:Int)(d:List ByteArray)(hn:0≤n∧n≤1000)(ho:1≤o∧o≤100)(hO:(dQ O 1).s<3):
 dK (mM dA H ls O n 1 o d) Vk ⟨3,0,0⟩ (mM [] H ls (fJ O 1 ⟨3,0,0⟩) (n+1) 0 o d):=by
 have hf:InoP.find [InoP.root,fN 1 o d] 2=some (fN 1 o d):=rfl;have hE:InoP.iO [InoP.root,fN 1 o d] 2 (-1)=0:=Hi hf qa (by show¬((1:Int)+ -1<0∨8<(1:Int)+ -1);decide)
 have hL:InoP.eT [InoP.root,fN 1 o d] 2 (-1)=[InoP.root,fN 0 o d]:=by
  rw[Hj hf hE];unfold InoP.gL;rw[qB (by show¬(decide ((-1:Int)<0)=true∧(1:Int)+ -1+o=0);omega)];rfl
 have h:=rr (V:=mM dA H ls O n 1 o d) (V':=mM [] H ls O (n+1) 0 o d) (r:=Vk) qd rfl qa (Jm 5 qa) 367 qd (oks _ (.inl rfl)) hO 0 0 (by show 0≤n∧n<16384;omega) rfl rfl
  (fun B mv w hs=>(Cb 1 3 0 0 0 0 0 mP mP mv n 2 qd qd (Jm 2 qa) rfl rfl w hs).mono fun e J ⟨h1,h2,h3⟩=>⟨h1,by have h2':eH J B ⟨InoP.eT [InoP.root,fN 1 o d] 2 (-1),3,[],H,ls,O,n+1⟩:=h2;rw[hL]at h2';exact h2',h3⟩)
 exact h
theorem Vr(D:List DirP.En)(O:Int→Option oR)(n:Int)(d:List ByteArray)(hn:0≤n∧n≤1000)(hO:(dQ O 1).s<4):
 dK (mM D [hA,hB] Cq O n 0 2 d) Vl ⟨4,0,0⟩ (mM D [hB] Cq (fJ O 1 ⟨4,0,0⟩) (n+1) 0 1 d):=by
 have hf:InoP.find [InoP.root,fN 0 2 d] 2=some (fN 0 2 d):=rfl;have hE:InoP.cU [InoP.root,fN 0 2 d] 2 (-1)=0:=rv hf (.inr rfl) (by show(2:Int)≠1;decide) (by show¬((2:Int)+ -1<0∨128<(2:Int)+ -1);decide)
 have hL:InoP.di [InoP.root,fN 0 2 d] 2 (-1)=[InoP.root,fN 0 1 d]:=by
  rw[ry hf hE];unfold InoP.gL;rw[qB (by show¬(decide ((-1:Int)<0)=true∧(0:Int)+((2:Int)+ -1)=0);decide)];rfl
 have h:=rr (V:=mM D [hA,hB] Cq O n 0 2 d) (V':=mM D [hB] Cq O (n+1) 0 1 d) (r:=Vl) qd rfl qa (Jm 12 qa) 372 qd (oks _ (.inr (.inr (.inr (.inr (.inl rfl)))))) hO 0 0 (by show 0≤n∧n<16384;omega) rfl rfl
  (fun B mv w hs=>(EF 1 4 12 0 0 0 500 0 mP mP mP mv n hA qd (Jm 2 qa) w hs).mono fun e J ⟨h1,h2,h3⟩=>⟨h1,by have h2':eH J B ⟨InoP.di [InoP.root,fN 0 2 d] 2 (-1),3,D,[hB],Cq,O,n+1⟩:=h2;rw[hL]at h2';exact h2',h3⟩)
 exact h
theorem Vs(D:List DirP.En)(ls:List Int)(O:Int→Option oR)(n:Int)(d:List ByteArray)(hn:0≤n∧n≤1000)(hO:(dQ O 1).s<5):
 dK (mM D [hB] ls O n 0 1 d) Vm ⟨5,0,0⟩ ⟨[InoP.root],3,D,[],ls,fJ O 1 ⟨5,0,0⟩,n+1⟩:=by
 have hf:InoP.find [InoP.root,fN 0 1 d] 2=some (fN 0 1 d):=rfl;have hE:InoP.cU [InoP.root,fN 0 1 d] 2 (-1)=0:=rv hf (.inr rfl) (by show(2:Int)≠1;decide) (by show¬((1:Int)+ -1<0∨128<(1:Int)+ -1);decide)
 have hL:InoP.di [InoP.root,fN 0 1 d] 2 (-1)=[InoP.root]:=by
  rw[ry hf hE];unfold InoP.gL;rw[qH (by show(decide ((-1:Int)<0)=true∧(0:Int)+((1:Int)+ -1)=0);decide)];rfl
 have h:=rr (V:=mM D [hB] ls O n 0 1 d) (V':=⟨[InoP.root],3,D,[],ls,O,n+1⟩) (r:=Vm) qd rfl qa (Jm 9 qa) 369 qd (oks _ (.inr (.inr (.inr (.inr (.inr rfl)))))) hO 0 0 (by show 0≤n∧n<16384;omega) rfl rfl
  (fun B mv w hs=>(GQ 1 5 9 0 2 0 0 0 mP mP mP mv n 2 (bq.ov qa qa) qd (Jm 2 qa) hE w hs).mono fun e J ⟨h1,h2,h3⟩=>⟨h1,by have h2':eH J B ⟨InoP.di [InoP.root,fN 0 1 d] 2 (-1),3,D,[],ls,O,n+1⟩:=h2;rw[hL]at h2';exact h2',h3⟩)
 exact h
