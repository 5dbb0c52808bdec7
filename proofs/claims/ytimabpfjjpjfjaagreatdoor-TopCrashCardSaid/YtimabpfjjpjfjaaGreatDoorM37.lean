/- Part 37 of the texts that the law's walk needs. -/
import Derived.Test.YtimabpfjjpjfjaaGreatDoorM24
import Derived.Test.YtimabpfjjpjfjaaGreatDoorM26
import Derived.Test.YtimabpfjjpjfjaaGreatDoorM36
import Derived.Deep.MidRow
set_option maxHeartbeats 3200000
set_option maxRecDepth 100000
set_option linter.all false
open Go renaming World→qo,Value→qp,TypeId→qu,Calls→qw
open Go.Obj renaming cells→qn
open Go.Ending renaming returned→qm
open Go.Value renaming tuple→qj,int→U,slice→qh,string→qg,pointer→qi,bool→qk,agg→ql
open Go.IntKind renaming i64→Z
open Go.RowKit renaming Below→qz,Hid→qy
namespace Go.Proofs.YtimabpfjjpjfjaaGreatDoor
open Tryz
open Tryz renaming prog→qx
namespace TopW
open Go.RowKit OpW OpP
variable{w J:qo}{M:List Nat}
def setMany:Array qp→Nat→List qp→Array qp
 |cs,_,[]=>cs
 |cs,o,v::r=>setMany (cs.setIfInBounds o v) (o+1) r
theorem fR{b:Nat}{t:qu}: ∀(vs:List qp) (o:Nat) (cs:Array qp) (w:qo),w.heap[b]? =some (qn cs t (0,0))→(w.setCells b o vs).heap[b]? =some (qn (setMany cs o vs) t (0,0))
 |[],_,_,_,h=>h
 |v::r,o,cs,w,h=>fR r (o+1) _ _ (av h v)
theorem kC{b:Nat}{t:qu}(ht:t∉kU): ∀(vs:List qp) (o:Nat) (cs:Array qp) (w:qo),w.heap[b]? =some (qn cs t (0,0))→Ch [b] w (w.setCells b o vs)
 |[],_,_,w,_=>Ch.refl _ w
 |v::r,o,cs,w,h=>(Ch.dn h ht o v).aq (kC ht r (o+1) _ _ (av h v))
theorem fS{b o n:Nat}{cs:Array qp}{t:qu}(h:w.heap[b]? =some (qn cs t (0,0)))(hn:o+n≤cs.size):w.there b o n:=fun j hj=>by
 obtain⟨h1,h2⟩:=aC h (o+j) Y;exact⟨by rw[h1];rfl,h2⟩
theorem nP{b o:Nat}{cs:Array qp}{l:List qp}{t:qu}(h:w.heap[b]? =some (qn cs t (0,0)))(hl: ∀j v,l[j]? =some v→cs[o+j]? =some v):w.rangeAt b o l:=fun j v hv=>by
 rw[qI h];exact hl j v hv
structure CK where
 cb:Nat
 bb:Nat
 B:SB
def CK.soft(K:CK):List Nat:=K.cb::K.bb::K.B.soft
structure iI where
 F:FuncId
 cap:Array qp
def iI.v(t:iI):qp:= .func (.func t.F) #[] t.cap
def iI.ok(t:iI):Prop:= ∀(args:Array qp) (W:qo),(callFunc t.F args).run qx W= .ok (.enter t.F args) W
def eN(t:iI)(args:Array qp)(w:qo)(Q:qo→Prop):Prop:=qw qx t.F (args++t.cap) w fun e J=>e=qm (qj #[])∧Q J
structure CS where
 id:Int
 sq:Int
 V:SV
 buf:Option zb
 a:ConP.MI
 mv:qp
 busy:Bool
 app:Bool
 cur:qp
 th:qp
 over:Bool
 rc:Int
 rh:Int
 rd:ByteArray
abbrev bz(rc rh:Int)(rd:ByteArray):Array qp:=#[U Z rc,U Z rh,U Z 0,U Z 0,U Z 0,U Z 0,qh none 0 0,qg rd]
abbrev rD(a:ConP.MI)(mv:qp):Array qp:=#[U Z a.k,U Z a.o.cl,U Z a.o.sq,U Z a.o.k,qg a.o.p,qg a.o.t,U Z a.o.sz,U Z a.o.h,U Z a.o.o,qg a.o.d,U Z a.o.tk,U Z a.o.i,mv,
 qg a.p,U Z a.h,U Z a.f,U Z a.s,qg a.d]
abbrev rp(K:CK)(b0 n0:Nat)(c:CS):Array qp:=#[U Z c.id,U Z c.sq,U Z 0,qh (some ⟨b0,0,none⟩) 2 n0,qi (some ⟨K.B.st,0,none⟩),qi (some ⟨K.bb,0,none⟩),
 U Z c.a.k,U Z c.a.o.cl,U Z c.a.o.sq,U Z c.a.o.k,qg c.a.o.p,qg c.a.o.t,U Z c.a.o.sz,U Z c.a.o.h,U Z c.a.o.o,qg c.a.o.d,U Z c.a.o.tk,U Z c.a.o.i,c.mv,
 qg c.a.p,U Z c.a.h,U Z c.a.f,U Z c.a.s,qg c.a.d,qk c.busy,qk c.app,c.cur,c.th,qk c.over,
 U Z c.rc,U Z c.rh,U Z 0,U Z 0,U Z 0,U Z 0,qh none 0 0,qg c.rd]
structure bt(w:qo)(K:CK)(c:CS):Prop where
 row: ∃b0 n0 b1 n1 b2 n2,w.heap[K.cb]? =some (qn (rp K b0 n0 c) 80 (0,0))∧cL w b0 n0 b1 n1 b2 n2
 st:eH w K.B c.V
 bf:fG w K.bb c.buf
 nd:K.soft.Nodup
variable{K:CK}{c:CS}
theorem bt.ag(h:bt w K c)(k:Ch M w J)(hn: ∀x∈K.soft,x∉M):bt J K c where
 row:=by
  obtain⟨b0,n0,b1,n1,b2,n2,h1,h2⟩:=h.row;exact⟨b0,n0,b1,n1,b2,n2,k.heap h1 (hn _ (by simp[CK.soft])),h2.ag k⟩
 st:=h.st.ag k fun x hx=>hn x (by simp[CK.soft,hx])
 bf:=h.bf.ag k (hn _ (by simp[CK.soft]))
 nd:=h.nd
theorem bt.lt(h:bt w K c): ∀x∈K.soft,x<w.heap.size:=by
 intro x hx;simp only[CK.soft,qG]at hx;rcases hx with rfl|rfl|hx
 ·obtain⟨b0,n0,b1,n1,b2,n2,h1,h2⟩:=h.row;exact qK h1
 ·exact h.bf.lt
 ·exact h.st.lt x hx
theorem bt.grow(h:bt w K c)(k:qz w.heap.size w J):bt J K c:=h.ag (M:=[]) (Ch.af k) qc
theorem bt.oI(h:bt w K c):K.cb≠K.bb∧(∀x∈K.B.soft,x≠K.cb∧x≠K.bb):=by
 have:=h.nd;simp only[CK.soft,xC,qG,not_or]at this;refine⟨this.1.1,fun x hx=>⟨?_,?_⟩⟩
 ·rintro rfl;exact this.1.2 hx
 ·rintro rfl;exact this.2.1 hx
theorem bt.oX{c':CS}(h:bt w K c)(k:Ch [K.cb] w J)(hr: ∃b0 n0 b1 n1 b2 n2,J.heap[K.cb]? =some (qn (rp K b0 n0 c') 80 (0,0))∧cL J b0 n0 b1 n1 b2 n2)(hV:c'.V=c.V)(hb:c'.buf=c.buf):bt J K c' where
 row:=hr
 st:=by rw[hV];exact h.st.ag k fun x hx=>by have:=(h.oI.2 x hx).1;simpa using this
 bf:=by rw[hb];exact h.bf.ag k (by have:=h.oI.1;simpa using fun e=>this e.symm)
 nd:=h.nd
theorem bt.ZM{V':SV}(h:bt w K c)(k:Ch K.B.soft w J)(hs:eH J K.B V'):bt J K {c with V:=V'} where
 row:=by
  obtain⟨b0,n0,b1,n1,b2,n2,h1,h2⟩:=h.row;exact⟨b0,n0,b1,n1,b2,n2,k.heap h1 (fun hx=>(h.oI.2 _ hx).1 rfl),h2.ag k⟩
 st:=hs
 bf:=h.bf.ag k (fun hx=>(h.oI.2 _ hx).2 rfl)
 nd:=h.nd
theorem bt.QW{b':Option zb}(h:bt w K c)(k:Ch [K.bb] w J)(hs:fG J K.bb b'):bt J K {c with buf:=b'} where
 row:=by
  obtain⟨b0,n0,b1,n1,b2,n2,h1,h2⟩:=h.row;exact⟨b0,n0,b1,n1,b2,n2,k.heap h1 (by have:=h.oI.1;simpa using this),h2.ag k⟩
 st:=h.st.ag k fun x hx=>by have:=(h.oI.2 x hx).2;simpa using this
 bf:=hs
 nd:=h.nd
theorem ar{b0 n0:Nat}(h:w.heap[K.cb]? =some (qn (rp K b0 n0 c) 80 (0,0)))(i:Nat)(v:qp)(hv:(rp K b0 n0 c)[i]? =some v):w.cell? ⟨K.cb,i,none⟩=some v:=by
 rw[qI h];exact hv
theorem cd:(prog.info? 30).map (·.size)=some 8:=qd
theorem uc:(prog.info? 63).map (·.size)=some 18:=qd
theorem QX(b0 n0:Nat)(rc rh:Int)(rd:ByteArray):setMany (rp K b0 n0 c) 29 (bz rc rh rd).toList=rp K b0 n0 {c with rc:=rc,rh:=rh,rd:=rd}:=by
 simp only[setMany,aS,sZ,sS,Nat.reduceAdd]
theorem ZN(b0 n0:Nat)(a:ConP.MI)(mv:qp):setMany (rp K b0 n0 c) 6 (rD a mv).toList=rp K b0 n0 {c with a:=a,mv:=mv}:=by
 simp only[setMany,aS,sZ,sS,Nat.reduceAdd]
theorem bQ: ∀x∈[K.cb],x∈K.soft:=by simp[CK.soft]
theorem rq(rc rh:Int)(rd:ByteArray)(w:qo)(h:bt w K c):
 qw qx 176 #[qi (some ⟨K.cb,0,none⟩),ql (bz rc rh rd)] w fun e J=>e=qm (qj #[])∧bt J K {c with busy:=false,over:=true,rc:=rc,rh:=rh,rd:=rd,cur:= .nilIface}∧Ch [K.cb] w J:=by
 have HH:=Hd h;have bu:=Hd (aa w (qn (bz rc rh rd) 30));have HX:=Hd (qA w (qn (bz rc rh rd) 30));clear h;go_enter func176,ntmps176;go_wp2_with fail
 generalize w.alloc (qn (bz rc rh rd) 30)=W at bu HX⊢;have HW:=Hd (HH.o.grow bu.o);obtain⟨b0,n0,b1,n1,b2,n2,hr,hp⟩:=HW.o.row;have bd:K.cb≠w.heap.size:=by have:=HH.o.lt K.cb (by simp[CK.soft]);omega
 have HP:=Hd hp;have fP:qy (Ch [K.cb] W W.drew):=Hd (Ch.refl _ _).drew;have yz:qy (W.drew.heap[K.cb]? =some (qn (rp K b0 n0 c) 80 (0,0))):=Hd hr;have eO:qy (∀X,Ch [K.cb] W X→X.heap[w.heap.size]? =some (qn (bz rc rh rd) 30 (0,0))):=Hd fun X hX=>hX.heap HX.o (by simpa using fun e=>bd e.symm);clear hr hp;refine aB 17 17 (fun X=>Ch [K.cb] W X) qd rfl ?_;generalize W.drew=W0 at fP yz⊢;refine tN 0 4 ?_ fP.o ?_ (tN 1 5 ?_ fP.o ?_ (tN 2 6 ?_ fP.o ?_ (tN 3 7 ?_ fP.o ?_ (tN 4 8 ?_ fP.o ?_ (tN 5 9 ?_ fP.o ?_ (tN 6 10 ?_ fP.o ?_ ?_))))))
 iterate 7
  rotate_left
  ·intro wq hq;have hx:=eO.o wq hq;obtain⟨d0,d1,d2,d3,d4,d5,d6,d7⟩:=tf hx;exact bJ
 simp only[pS,aS,sZ,sS];obtain⟨cx,ex⟩:=aC yz.o 24 qc;simp only[gA,gZ,gS]at cx;have oG:qy (((W0).setCell ⟨K.cb,24,none⟩ (qk false)).heap[K.cb]? =some (qn (rp K b0 n0 ({c with busy:=false})) 80 (0,0))):=Hd ((av (i:=24) yz.o (qk false)).trans rfl);have fF:=Hd (fP.o.aq (Ch.dn yz.o qa 24 (qk false)));refine ay 7 qd rfl rfl (bm none (J:=(W0).setCell ⟨K.cb,24,none⟩ (qk false)) rfl qf ⟨fun _=>fF.o,?_⟩);simp only[Act.put,aS,sZ,sS];clear cx ex yz fP;generalize(W0).setCell ⟨K.cb,24,none⟩ (qk false)=W1 at oG fF⊢;refine tN 8 11 ?_ fF.o ?_ (tN 9 12 ?_ fF.o ?_ ?_)
 iterate 2
  rotate_left
  ·intro wq hq;exact bJ
 simp only[pS,aS,sZ,sS];obtain⟨cx,ex⟩:=aC oG.o 28 qc;simp only[gA,gZ,gS]at cx;have eB:qy (((W1).setCell ⟨K.cb,28,none⟩ (qk true)).heap[K.cb]? =some (qn (rp K b0 n0 ({c with busy:=false,over:=true})) 80 (0,0))):=Hd ((av (i:=28) oG.o (qk true)).trans rfl);have dD:=Hd (fF.o.aq (Ch.dn oG.o qa 28 (qk true)));refine ay 10 qd rfl rfl (bm none (J:=(W1).setCell ⟨K.cb,28,none⟩ (qk true)) rfl qf ⟨fun _=>dD.o,?_⟩);simp only[Act.put,aS,sZ,sS];clear cx ex oG fF;generalize(W1).setCell ⟨K.cb,28,none⟩ (qk true)=W2 at eB dD⊢;refine tN 11 13 ?_ dD.o ?_ (tN 12 14 ?_ dD.o ?_ ?_)
 iterate 2
  rotate_left
  ·intro wq hq;exact bJ
 simp only[pS,aS,sZ,sS];have eE:qy ((W2.setCells K.cb 29 (bz rc rh rd).toList).heap[K.cb]? =some (qn (rp K b0 n0 {c with busy:=false,over:=true,rc:=rc,rh:=rh,rd:=rd}) 80 (0,0))):=Hd ((fR _ 29 _ _ eB.o).trans (by rw[QX]));have jY:=Hd (dD.o.aq (kC qa (bz rc rh rd).toList 29 _ _ eB.o));refine ay 13 qd rfl rfl (wp_store_mid 30 _ _ rfl K.cb 29 (bz rc rh rd) rfl rfl (fS eB.o qc) cd (by simp[Value.oneCell']) ⟨fun _=>jY.o,?_⟩);simp only[pS,aS,sZ,sS];clear eB dD;generalize W2.setCells K.cb 29 (bz rc rh rd).toList=W3 at eE jY⊢;refine tN 14 15 ?_ jY.o ?_ (tN 15 16 ?_ jY.o ?_ ?_)
 iterate 2
  rotate_left
  ·intro wq hq;exact bJ
 simp only[pS,aS,sZ,sS];obtain⟨cx,ex⟩:=aC eE.o 26 qc;simp only[gA,gZ,gS]at cx;have pj:qy (((W3).setCell ⟨K.cb,26,none⟩ (.nilIface)).heap[K.cb]? =some (qn (rp K b0 n0 ({c with busy:=false,over:=true,rc:=rc,rh:=rh,rd:=rd,cur:= .nilIface})) 80 (0,0))):=Hd ((av (i:=26) eE.o (.nilIface)).trans rfl);have iH:=Hd (jY.o.aq (Ch.dn eE.o qa 26 (.nilIface)));refine ay 16 qd rfl rfl (bm none (J:=(W3).setCell ⟨K.cb,26,none⟩ (.nilIface)) rfl qf ⟨fun _=>iH.o,?_⟩);simp only[Act.put,aS,sZ,sS];clear cx ex eE jY;generalize(W3).setCell ⟨K.cb,26,none⟩ (.nilIface)=W4 at pj iH⊢;refine aU qd ?_;go_wp2_with fail
 go_end0
 exact⟨rfl,HW.o.oX iH.o ⟨b0,n0,b1,n1,b2,n2,pj.o,HP.o.ag iH.o⟩ rfl rfl,Ch.pre bu.o iH.o⟩
theorem yE(rc:Int)(w:qo)(h:bt w K c):
 qw qx 130 #[qi (some ⟨K.cb,0,none⟩),U Z rc] w fun e J=>e=qm (qj #[])∧bt J K {c with busy:=false,over:=true,rc:=rc,rh:=0,rd:=⟨#[]⟩,cur:= .nilIface}∧Ch [K.cb] w J:=by
 have HH:=Hd h;clear h;go_enter func130,ntmps130;go_wp2_with fail
 refine(rq rc 0 ⟨#[]⟩ w HH.o).mono ?_;rintro e w2⟨rfl,h1,h2⟩;have H1:=Hd h1;have H2:=Hd h2;clear h1 h2;go_wp2_with fail
 go_end0
 exact⟨rfl,H1.o,H2.o⟩
theorem vw(T:qu)(q:Nat)(F:FuncId)(cap:Array qp)(w:qo)(h:bt w K c):
 qw qx 177 #[qi (some ⟨K.cb,0,none⟩),.iface T (qi (some ⟨q,0,none⟩)),.func (.func F) #[] cap] w fun e J=>e=qm (qj #[])∧bt J K {c with cur:= .iface T (qi (some ⟨q,0,none⟩)),th:= .func (.func F) #[] cap}∧Ch [K.cb] w J∧ ∀i v,i≠26→i≠27→w.cell? ⟨K.cb,i,none⟩=some v→J.cell? ⟨K.cb,i,none⟩=some v:=by
 have HH:=Hd h;obtain⟨b0,n0,b1,n1,b2,n2,hr,hp⟩:=h.row;have HP:=Hd hp;have HR:=Hd hr;have c26:=ar hr 26 _ rfl;have c27:=ar hr 27 _ rfl;have e26:=cn hr 26;have e27:=cn hr 27;clear h hr hp;go_enter func177,ntmps177;go_wp2_with fail
 go_end0
 have H1:(w.setCell ⟨K.cb,26,none⟩ (.iface T (qi (some ⟨q,0,none⟩)))).heap[K.cb]? =some (qn (rp K b0 n0 {c with cur:= .iface T (qi (some ⟨q,0,none⟩))}) 80 (0,0)):=(av (i:=26) HR.o _).trans rfl;have H2:((w.setCell ⟨K.cb,26,none⟩ (.iface T (qi (some ⟨q,0,none⟩)))).setCell ⟨K.cb,27,none⟩ (.func (.func F) #[] cap)).heap[K.cb]? =some (qn (rp K b0 n0 {c with cur:= .iface T (qi (some ⟨q,0,none⟩)),th:= .func (.func F) #[] cap}) 80 (0,0)):=(av (i:=27) H1 _).trans rfl;have hc:=(Ch.dn HR.o qa 26 (.iface T (qi (some ⟨q,0,none⟩)))).aq (Ch.dn H1 qa 27 (.func (.func F) #[] cap))
 refine⟨rfl,HH.o.oX hc ⟨b0,n0,b1,n1,b2,n2,H2,HP.o.ag hc⟩ rfl rfl,hc,fun i v h1 h2 h3=>?_⟩;have n1:(⟨K.cb,26,none⟩:Addr)≠⟨K.cb,i,none⟩:=by intro e;injection e with _ e _;omega
 have n2:(⟨K.cb,27,none⟩:Addr)≠⟨K.cb,i,none⟩:=by intro e;injection e with _ e _;omega
 rw[World.cell?_setCell_other (h:=n2),World.cell?_setCell_other (h:=n1)];exact h3
abbrev Jh(r:Rec):Array qp:=ju r.cl r.sq r.k r.p r.t r.sz r.h r.o r.d r.tk r.i (qh none 0 0)
def Bx(w:qo)(p:Nat)(t:qu)(v:qp):Prop:=w.heap[p]? =some (qn #[v] t (0,0))
theorem Bx.ag{p:Nat}{t:qu}{v:qp}(h:Bx w p t v)(k:Ch M w J)(ht:t∈kU):Bx J p t v:=k.bC _ _ _ _ h ht
theorem Bx.cell{p:Nat}{t:qu}{v:qp}(h:Bx w p t v):w.cell? ⟨p,0,none⟩=some v:=by rw[qI h];rfl
theorem Bx.grow{p:Nat}{t:qu}{v:qp}(h:Bx w p t v)(k:qz w.heap.size w J):Bx J p t v:=ae k h
def LU(w:qo)(p:Nat)(r:Rec):Prop:=w.heap[p]? =some (qn (Jh r) 61 (0,0))
theorem LU.ag{p:Nat}{r:Rec}(h:LU w p r)(k:Ch M w J):LU J p r:=k.bC _ _ _ _ h qa
abbrev gk:qu:=327
abbrev gm:qu:=330
abbrev iY:qu:=283
abbrev pV(p:Nat):qp:=qi (some ⟨p,0,none⟩)
theorem mD(h:Fl w)(k:Ch M w J)(hM: ∀x∈M,10≤x):Fl J:=fun j h1 h2=>by
 rw[←h j h1 h2];unfold World.cell?;rw[k.block _ (xv _ _ (h j h1 h2)) (fun hx=>qZ (hM _ hx) qc)]
structure PS(K:CK)(b0 n0:Nat)(w X:qo):Prop where
 ch:Ch [K.cb] w X
 c2:X.cell? ⟨K.cb,2,none⟩=some (U Z 0)
 c3:X.cell? ⟨K.cb,3,none⟩=some (qh (some ⟨b0,0,none⟩) 2 n0)
theorem PS.start{b0 n0:Nat}(hr:w.heap[K.cb]? =some (qn (rp K b0 n0 c) 80 (0,0))):PS K b0 n0 w w.drew:=⟨(Ch.refl _ _).drew,ar hr 2 _ rfl,ar hr 3 _ rfl⟩
theorem PS.step{b0 n0:Nat}{X Yq:qo}(h:PS K b0 n0 w X)(k:qz X.heap.size X Yq):PS K b0 n0 w Yq:=⟨h.ch.step k,ah k h.c2,ah k h.c3⟩
theorem PS.run{b0 n0:Nat}{X Yq:qo}(h:PS K b0 n0 w X)(k:Ch [K.cb] X Yq)(hc: ∀i v,i≠26→i≠27→X.cell? ⟨K.cb,i,none⟩=some v→Yq.cell? ⟨K.cb,i,none⟩=some v):PS K b0 n0 w Yq:=
 ⟨h.ch.aq k,hc 2 _ qa qa h.c2,hc 3 _ qa qa h.c3⟩
theorem aD(w:qo)(A:Obj): ∃wA p,w.alloc A=wA∧w.heap.size=p∧wA.heap[p]? =some A∧qz w.heap.size w wA∧w.heap.size≤p:=
 ⟨_,_,rfl,rfl,qA w A,aa w A,Nat.le_refl _⟩
theorem yF(w:qo)(A B:Obj): ∃wA wB p q,w.alloc A=wA∧wA.alloc B=wB∧w.heap.size=p∧wA.heap.size=q∧wB.heap[p]? =some A∧wB.heap[q]? =some B∧qz w.heap.size w wB∧w.heap.size≤p∧w.heap.size≤q:=by
 refine⟨_,_,_,_,rfl,rfl,rfl,rfl,?_,qA _ B,ai (aa w A) (aa _ B),Nat.le_refl _,?_⟩
 ·exact ae (aa _ B) (qA w A)
 ·simp[bn]
theorem Cf(w:qo)(A B C:Obj): ∃wA wB wC p q s,w.alloc A=wA∧wA.alloc B=wB∧wB.alloc C=wC∧w.heap.size=p∧wA.heap.size=q∧wB.heap.size=s∧wC.heap[p]? =some A∧wC.heap[q]? =some B∧wC.heap[s]? =some C∧qz w.heap.size w wC∧w.heap.size≤p∧w.heap.size≤q∧w.heap.size≤s:=by
 obtain⟨wA,wB,p,q,h1,h2,h3,h4,h5,h6,h7,h8,h9⟩:=yF w A B;exact⟨wA,wB,_,p,q,_,h1,h2,rfl,h3,h4,rfl,ae (aa _ C) h5,ae (aa _ C) h6,qA _ C,ai h7 (aa _ C),h8,h9,h7.size⟩
theorem EH(r:Rec)(hm:r.m=[])(jZ:Fit r)(hs:(OpW.encS r).size≤4096)(t:iI)(ve:0≤c.sq∧c.sq≤4294967296)(w:qo)(hf:Fl w)(hK: ∀x∈K.soft,10≤x)(h:bt w K c):
 qw qx 241 #[pV K.cb,ql (Jh r),.func (.func t.F) #[] t.cap] w fun e J=>e=qm (qj #[])∧ ∃ab p q,bt J K {c with sq:=c.sq+1,cur:= .iface gk (pV ab),th:= .func (.func 310) #[] #[pV p,pV q]}∧ij J ab (OpW.encS r) 2 0 0 false∧
  Bx J p 39 (pV K.cb)∧Bx J q 146 t.v∧w.heap.size≤ab∧Ch [K.cb] w J:=by
 have HH:=Hd h;have HF:=Hd hf;have MP:=Hd jZ;have HM:=Hd hm;have sR:=Hd hs;obtain⟨wA,wB,wC,p,q,s,hA,hB,hC,hp,hq,hs3,h1,h2,h3,hb,l1,l2,l3⟩:=Cf w (qn #[pV K.cb] 39) (qn (Jh r) 61) (qn #[.func (.func t.F) #[] t.cap] 146);have HB:=Hd hb;have HP:=Hd h1;have HQ:=Hd h2;have HS:=Hd h3;have QR:=Hd l1;have Gr:=Hd l2;have Xe:=Hd l3;have LV:=Hd (HH.o.grow hb);have Pu:=Hd (HF.o.ag hb);obtain⟨b0,n0,b1,n1,b2,n2,hr,dx⟩:=LV.o.row;have x0:=aJ h1 0;have c1:=ar hr 1 _ rfl;have e1:=cn hr 1;obtain⟨wD,hD⟩: ∃x,wC.setCell ⟨K.cb,1,none⟩ (U Z (c.sq+1))=x:=⟨_,rfl⟩
 have WM:qy (wD.heap[K.cb]? =some (qn (rp K b0 n0 {c with sq:=c.sq+1}) 80 (0,0))):=Hd (by rw[←hD];exact(av (i:=1) hr _).trans rfl);have Ed:qy (Ch [K.cb] wC wD):=Hd (by rw[←hD];exact Ch.dn hr qa 1 _);have ki:=Hd (LV.o.oX Ed.o ⟨b0,n0,b1,n1,b2,n2,WM.o,dx.ag Ed.o⟩ rfl rfl);have ZO:qy (Bx wD p 39 (pV K.cb)):=Hd (Bx.ag HP.o Ed.o qa);have HQD:qy (LU wD q r):=Hd (LU.ag HQ.o Ed.o);have Xf:qy (Bx wD s 146 t.v):=Hd (Bx.ag HS.o Ed.o qa);have hz:=ZO.o.cell;obtain⟨o0,o1,o2,o3,o4,o5,o6,o7,o8,o9,o10,o11⟩:=bP HQD.o;simp only[gA,gZ,gS]at x0;clear hr dx h1 h2 h3 hb l1 l2 l3
 have alA:IntKind.i64.wrap (c.sq+1)=c.sq+1:=qO _ ⟨Y,Y⟩;clear h hf jZ hm hs;go_enter func241,ntmps241;go_wp2_with fail
 have Wy:=Hd (mD Pu.o Ed.o (fun x hx=>hK x (bQ x hx)));refine(Ud r MP.o none 0 0 (by rw[HM.o];rfl) wD Wy.o (by rw[HM.o];exact eW.nil wD none)).mono ?_;rintro e w2⟨rfl,hb2⟩;have Bc:=Hd (ki.o.grow hb2);have iC:qy (Bx w2 p 39 (pV K.cb)):=Hd (ZO.o.grow hb2);have cX:qy (Bx w2 s 146 t.v):=Hd (Xf.o.grow hb2);have mC:qy (Ch [K.cb] w w2):=Hd ((Ch.pre HB.o Ed.o).step hb2);clear hb2 ki Ed WM ZO HQD Xf LV Pu HB HP HQ HS Wy;go_wp2_with fail
 clear hA hB hC hp hq hs3 hD hz o0 o1 o2 o3 o4 o5 o6 o7 o8 o9 o10 o11 c1 e1 x0;obtain⟨b0,n0,b1,n1,b2,n2,hr,dx⟩:=Bc.o.row;have UR:=Hd dx;have au:qy (PS K b0 n0 w2 w2.drew):=Hd (PS.start hr);have pD:qy (bt w2.drew K {c with sq:=c.sq+1}):=Hd (Bc.o.ag (M:=[]) (Ch.refl _ _).drew qc);have zB: ∀(fn:Fn) (first cap:Array qp) (w:qo),(Instr.makeFunc fn first cap).run qx w= .ok (.func fn first cap) w:=fun _ _ _ _=>rfl;clear hr dx;refine aB 10 10 (PS K b0 n0 w2) qd rfl ?_
 refine tN 0 20 ?_ au.o ?_ (tN 1 21 ?_ au.o ?_ (tN 2 22 ?_ au.o ?_ (tN 3 23 ?_ au.o ?_ (tN 4 24 ?_ au.o ?_ (tN 5 25 ?_ au.o ?_ (tN 8 28 ?_ au.o ?_ ?_))))))
 iterate 7
  rotate_left
  ·intro wq hq;have z0:=(Bx.ag iC.o hq.ch qa).cell;have z1:=hq.c2;have z2:=hq.c3;exact bJ
 simp only[pS,aS,sZ,sS];refine ay 6 qd rfl rfl (al (some 26) (f:=309) (args:=#[ql #[U Z 0,qh (some ⟨b0,0,none⟩) 2 n0],qg (OpW.encS r)]) rfl qf (fun u X=> ∃ab,u=pV ab∧ij X ab (OpW.encS r) 2 0 0 false∧w2.heap.size≤ab∧qz w2.drew.heap.size w2.drew X) ((YY (OpW.encS r) sR.o w2.drew (UR.o.ag (M:=[]) (Ch.refl _ _).drew)).mono fun e J ⟨ab,h1,h2,h3,h4⟩=>⟨_,h1,ab,rfl,h2,h3,h4⟩) ?_);rintro u w3⟨ab,rfl,oW,hl,hb3⟩;have eP:=Hd (au.o.step hb3);have Ef:=Hd oW;have yG:=Hd hl;have mL:=Hd (pD.o.grow hb3);clear oW hl hb3;refine⟨fun _=>eP.o,?_⟩;simp only[pS,aS,sZ,sS];refine tN 7 27 ?_ eP.o ?_ ?_;rotate_left
 ·intro wq hq;exact bJ
 simp only[pS,aS,sZ,sS];refine ay 9 qd rfl rfl (al (some 29) (f:=177) (args:=#[pV K.cb,.iface gk (pV ab),.func (.func 310) #[] #[pV p,pV s]]) rfl qf (fun u X=>bt X K {c with sq:=c.sq+1,cur:= .iface gk (pV ab),th:= .func (.func 310) #[] #[pV p,pV s]}∧PS K b0 n0 w2 X∧Ch [K.cb] w3 X) ((vw gk ab 310 #[pV p,pV s] w3 mL.o).mono fun e J ⟨h1,h2,h3,h4⟩=>⟨_,h1,h2,eP.o.run h3 h4,h3⟩) ?_);rintro u w4⟨h1,h2,h3⟩;have H1:=Hd h1;have H2:=Hd h2;have H3:=Hd h3;clear h1 h2 h3;refine⟨fun _=>H2.o,?_⟩;simp only[pS,aS,sZ,sS];refine aU qd ?_;go_wp2_with fail
 go_end0
 refine⟨rfl,ab,p,s,H1.o,Ef.o.ag H3.o ?_,Bx.ag iC.o H2.o.ch qa,Bx.ag cX.o H2.o.ch qa,?_,mC.o.aq H2.o.ch⟩
 ·have:=Bc.o.lt K.cb (by simp[CK.soft]);have:=yG.o;simp;omega
 ·exact qM mC.o.size yG.o
abbrev nQ(n kind:Int)(s:ByteArray):Array qp:=#[U Z n,U Z kind,qg s,U Z 0,U Z 0,U Z 0,qg ⟨#[]⟩,U Z 0,qh none 0 0,U Z 0,U Z 0,U Z 0]
theorem ka{b:Nat}{n kind:Int}{s:ByteArray}(h:w.heap[b]? =some (qn (nQ n kind s) 286 (0,0))):w.cell? ⟨b,0,none⟩=some (U Z n)∧w.cell? ⟨b,1,none⟩=some (U Z kind)∧w.cell? ⟨b,2,none⟩=some (qg s)∧w.cell? ⟨b,3,none⟩=some (U Z 0):=
 ⟨by rw[qI h];rfl,by rw[qI h];rfl,by rw[qI h];rfl,by rw[qI h];rfl⟩
theorem Cg(n:Int)(t:iI)(ht:t.ok)(p q:Nat)(w:qo)(Q:qo→Prop)(h:bt w K c)(hp:Bx w p 39 (pV K.cb))(hq:Bx w q 146 t.v)
 (HT: ∀w1,bt w1 K {c with app:=true}→Ch [K.cb] w w1→eN t #[U Z n] w1 Q):
 qw qx 310 #[ql (nQ n 0 ⟨#[]⟩),pV p,pV q] w fun e J=>e=qm (qj #[])∧Q J:=by
 have HH:=Hd h;have HT':=Hd HT;have CD: ∀(args:Array qp) (W:qo),(callFunc t.F args).run qx W= .ok (.enter t.F args) W:=ht;obtain⟨wA,a,hA,ha,h1,hb,l1⟩:=aD w (qn (nQ n 0 ⟨#[]⟩) 286);have HB:=Hd hb;have fM:=Hd (h.grow hb);obtain⟨f0,f1,f2,f3⟩:=ka h1;have g0:=(hp.grow hb).cell;obtain⟨b0,n0,b1,n1,b2,n2,hr,dx⟩:=fM.o.row;have c25:=ar hr 25 _ rfl;have e25:=cn hr 25;obtain⟨wD,hD⟩: ∃x,wA.setCell ⟨K.cb,25,none⟩ (qk true)=x:=⟨_,rfl⟩;have Ed:qy (Ch [K.cb] wA wD):=Hd (by rw[←hD];exact Ch.dn hr qa 25 _)
 have ki:qy (bt wD K {c with app:=true}):=Hd (fM.o.oX Ed.o ⟨b0,n0,b1,n1,b2,n2,by rw[←hD];exact(av (i:=25) hr _).trans rfl,dx.ag Ed.o⟩ rfl rfl);have q0:wD.cell? ⟨q,0,none⟩=some (.func (.func t.F) #[] t.cap):=(Bx.ag (hq.grow hb) Ed.o qa).cell;have r0:=(ka (Ed.o.heap h1 (by have:=h.lt K.cb (by simp[CK.soft]);simp;omega))).1;clear h hp hq HT ht h1 hb l1 hr dx;go_enter func310,ntmps310;go_wp2_with fail
 refine(HT'.o wD ki.o (Ch.pre HB.o Ed.o)).mono ?_;rintro e w2⟨rfl,hq⟩;have HQ:=Hd hq;clear hq;go_wp2_with fail
 go_end0
 exact⟨rfl,HQ.o⟩
abbrev ZP(p q s:Nat):iI:=⟨242,#[pV p,pV q,pV s]⟩
abbrev ZQ(p q s:Nat):iI:=⟨243,#[pV p,pV q,pV s]⟩
theorem ZR(p q s:Nat):(ZP p q s).ok:=fun args W=>by simp[ZP,go_sem]
theorem QY(p q s:Nat):(ZQ p q s).ok:=fun args W=>by simp[ZQ,go_sem]
structure ko(w J:qo)(K:CK)(c:CS)(r:Rec)(t:iI):Prop where
 ex: ∃ab p q p1 p2 p3,bt J K {c with sq:=c.sq+1,cur:= .iface gk (pV ab),th:= .func (.func 310) #[] #[pV p,pV q]}∧ij J ab (OpW.encS r) 2 0 0 false∧
  Bx J p 39 (pV K.cb)∧Bx J q 146 (ZP p1 p2 p3).v∧Bx J p1 39 (pV K.cb)∧LU J p2 r∧Bx J p3 281 t.v∧w.heap.size≤ab
 ch:Ch [K.cb] w J
theorem kD(r:Rec)(hm:r.m=[])(jZ:Fit r)(hs:(OpW.encS r).size≤4096)(t:iI)(ve:0≤c.sq∧c.sq≤4294967296)(w:qo)(hf:Fl w)(hK: ∀x∈K.soft,10≤x)(h:bt w K c):
 qw qx 174 #[pV K.cb,ql (Jh r),.func (.func t.F) #[] t.cap] w fun e J=>e=qm (qj #[])∧ko w J K c r t:=by
 have HH:=Hd h;have HM:=Hd hm;have MP:=Hd jZ;have sR:=Hd hs;have HSQ:=Hd ve;obtain⟨wA,wB,wC,p,q,s,hA,hB,hC,hp,hq,hs3,h1,h2,h3,hb,l1,l2,l3⟩:=Cf w (qn #[pV K.cb] 39) (qn (Jh r) 61) (qn #[.func (.func t.F) #[] t.cap] 281);have HB:=Hd hb;have HP:=Hd h1;have HQ:=Hd h2;have HS:=Hd h3;have LV:=Hd (HH.o.grow hb);have Pu:=Hd (hf.ag hb);have hz:=Bx.cell h1;obtain⟨o0,o1,o2,o3,o4,o5,o6,o7,o8,o9,o10,o11⟩:=bP h2;have zB: ∀(fn:Fn) (first cap:Array qp) (w:qo),(Instr.makeFunc fn first cap).run qx w= .ok (.func fn first cap) w:=fun _ _ _ _=>rfl;clear h hm jZ hs ve hf h1 h2 h3 hb l1 l2 l3
 go_enter func174,ntmps174;go_wp2_with fail
 clear hA hB hC hp hq hs3 hz o0 o1 o2 o3 o4 o5 o6 o7 o8 o9 o10 o11;refine(EH r HM.o MP.o sR.o (ZP p q s) HSQ.o wC Pu.o hK LV.o).mono ?_;rintro e w2⟨rfl,ab,x,y,g1,g2,g3,g4,g5,g6⟩;have H2:qy (ko w w2 K c r t):=Hd ⟨⟨ab,x,y,p,q,s,g1,g2,g3,g4,Bx.ag HP.o g6 qa,LU.ag HQ.o g6,Bx.ag HS.o g6 qa,qM HB.o.size g5⟩,Ch.pre HB.o g6⟩;clear g1 g2 g3 g4 g5 g6;go_wp2_with fail
 go_end0
 exact⟨rfl,H2.o⟩
structure aeb(w J:qo)(K:CK)(c:CS)(n:Int)(t:iI):Prop where
 ex: ∃fb p1 p2 p3 p4,bt J K {c with cur:= .iface gm (pV fb),th:= .func (.func 247) #[] #[pV p1,pV p2,pV p3,pV p4]}∧jt J fb c.V.n true 2 0 ⟨#[]⟩∧
  Bx J p1 39 (pV K.cb)∧Bx J p2 3 (U Z n)∧Bx J p3 1 t.v∧Bx J p4 3 (U Z c.V.n)∧w.heap.size≤fb
 ch:Ch [K.cb] w J
def US(w J:qo)(K:CK)(c:CS)(n:Int)(t:iI)(Q:qo→Prop):Prop:=(c.V.n=n∧Q J)∨(c.V.n<n∧aeb w J K c n t)
theorem ud(n:Int)(t:iI)(ht:t.ok)(hn:0≤c.V.n∧c.V.n≤n∧n≤16384)(w:qo)(Q:qo→Prop)(h:bt w K c)
 (HT:c.V.n=n→ ∀w1,bt w1 K c→Ch [K.cb] w w1→eN t #[] w1 Q):
 qw qx 181 #[pV K.cb,U Z n,.func (.func t.F) #[] t.cap] w fun e J=>e=qm (qj #[])∧US w J K c n t Q:=by
 have HH:=Hd h;have HT':=Hd HT;have CD: ∀(args:Array qp) (W:qo),(callFunc t.F args).run qx W= .ok (.enter t.F args) W:=ht;obtain⟨wA,wB,wC,p,q,s,hA,hB,hC,hp,hq,hs3,h1,h2,h3,hb,l1,l2,l3⟩:=Cf w (qn #[pV K.cb] 39) (qn #[U Z n] 3) (qn #[.func (.func t.F) #[] t.cap] 1);have HB:=Hd hb;have HP:=Hd h1;have HQ:=Hd h2;have HS:=Hd h3;have LV:=Hd (HH.o.grow hb);have hz:=Bx.cell h1;obtain⟨b0,n0,b1,n1,b2,n2,hr,dx⟩:=LV.o.row;have c4:=ar hr 4 _ rfl;clear h ht HT h1 h2 h3 hb l1 l2 l3 hr dx;go_enter func181,ntmps181;go_wp2_with fail
 refine(LP wC LV.o.st).mono ?_;rintro e w2⟨rfl,rfl⟩;clear hA hB hC hp hq hs3 hz c4;obtain⟨wD,u,hD,hu,h4,hb4,l4⟩:=aD wC (qn #[U Z c.V.n] 3);have dp:=Hd (ai HB.o hb4);have ZO:qy (Bx wD p 39 (pV K.cb)):=Hd (Bx.grow HP.o hb4);have HQD:qy (Bx wD q 3 (U Z n)):=Hd (Bx.grow HQ.o hb4);have Xf:qy (Bx wD s 1 (.func (.func t.F) #[] t.cap)):=Hd (Bx.grow HS.o hb4);have HUD:qy (Bx wD u 3 (U Z c.V.n)):=Hd h4;have ki:=Hd (LV.o.grow hb4);have x1:=ZO.o.cell;have x2:=HQD.o.cell;have x3:=Xf.o.cell;have x4:=HUD.o.cell;clear h4 hb4 l4;by_cases gU:c.V.n=n
 ·have uY:n≤c.V.n:=by omega
  have Ji:=Hd gU;clear gU;go_wp2_with fail
  have hT:=HT'.o Ji.o wD ki.o (Ch.af dp.o);simp only[eN,Array.empty_append]at hT;refine hT.mono ?_;rintro e w2⟨rfl,hq⟩;have Xg:=Hd hq;clear hq;go_wp2_with fail
  exact xB (results_none rfl _ _ _) rfl ⟨rfl,.inl ⟨Ji.o,Xg.o⟩⟩
 ·have uY: ¬n≤c.V.n:=by omega
  have Ji:=Hd gU;clear gU;go_wp2_with fail
  clear hD hu x1 x2 x3 x4;obtain⟨b0,n0,b1,n1,b2,n2,hr,dx⟩:=ki.o.row;have UR:=Hd dx;have au:qy (PS K b0 n0 wD wD.drew):=Hd (PS.start hr);have pD:qy (bt wD.drew K c):=Hd (ki.o.ag (M:=[]) (Ch.refl _ _).drew qc);have zB: ∀(fn:Fn) (first cap:Array qp) (w:qo),(Instr.makeFunc fn first cap).run qx w= .ok (.func fn first cap) w:=fun _ _ _ _=>rfl;clear hr dx;refine aB 10 10 (PS K b0 n0 wD) qd rfl ?_;refine tN 0 17 ?_ au.o ?_ (tN 1 18 ?_ au.o ?_ (tN 2 19 ?_ au.o ?_ (tN 3 20 ?_ au.o ?_ (tN 4 21 ?_ au.o ?_ (tN 5 22 ?_ au.o ?_ (tN 8 25 ?_ au.o ?_ ?_))))))
  iterate 7
   rotate_left
   ·intro wq hq;have z0:=(Bx.ag ZO.o hq.ch qa).cell;have z1:=hq.c2;have z2:=hq.c3;have z3:=(Bx.ag HUD.o hq.ch qa).cell;exact bJ
  simp only[pS,aS,sZ,sS];refine ay 6 qd rfl rfl (al (some 23) (f:=246) (args:=#[ql #[U Z 0,qh (some ⟨b0,0,none⟩) 2 n0],U Z c.V.n,qk true]) rfl qf (fun v X=> ∃fb,v=pV fb∧jt X fb c.V.n true 2 0 ⟨#[]⟩∧wD.heap.size≤fb∧qz wD.drew.heap.size wD.drew X) ((Qa c.V.n true ⟨hn.1,Y⟩ wD.drew (UR.o.ag (M:=[]) (Ch.refl _ _).drew)).mono fun e J ⟨fb,h1,h2,h3,h4⟩=>⟨_,h1,fb,rfl,h2,h3,h4⟩) ?_);rintro v w3⟨fb,rfl,oW,hl,hb3⟩;have eP:=Hd (au.o.step hb3);have Ef:=Hd oW;have yG:=Hd hl;have mL:=Hd (pD.o.grow hb3);clear oW hl hb3;refine⟨fun _=>eP.o,?_⟩;simp only[pS,aS,sZ,sS];refine tN 7 24 ?_ eP.o ?_ ?_;rotate_left
  ·intro wq hq;exact bJ
  simp only[pS,aS,sZ,sS];refine ay 9 qd rfl rfl (al (some 26) (f:=177) (args:=#[pV K.cb,.iface gm (pV fb),.func (.func 247) #[] #[pV p,pV q,pV s,pV u]]) rfl qf (fun v X=>bt X K {c with cur:= .iface gm (pV fb),th:= .func (.func 247) #[] #[pV p,pV q,pV s,pV u]}∧PS K b0 n0 wD X∧Ch [K.cb] w3 X) ((vw gm fb 247 #[pV p,pV q,pV s,pV u] w3 mL.o).mono fun e J ⟨h1,h2,h3,h4⟩=>⟨_,h1,h2,eP.o.run h3 h4,h3⟩) ?_);rintro v w4⟨h1,h2,h3⟩;have H1:=Hd h1;have H2:=Hd h2;have H3:=Hd h3;clear h1 h2 h3;refine⟨fun _=>H2.o,?_⟩;simp only[pS,aS,sZ,sS];refine aU qd ?_;go_wp2_with fail
  go_end0
  refine⟨rfl,.inr ⟨by have:=Ji.o;omega,⟨⟨fb,p,q,s,u,H1.o,Ef.o.ag H3.o ?_,Bx.ag ZO.o H2.o.ch qa,Bx.ag HQD.o H2.o.ch qa,Bx.ag Xf.o H2.o.ch qa,Bx.ag HUD.o H2.o.ch qa,?_⟩,Ch.pre dp.o H2.o.ch⟩⟩⟩
  ·have:=ki.o.lt K.cb (by simp[CK.soft]);have:=yG.o;simp;omega
  ·exact qM dp.o.size yG.o
theorem Jj{x:Nat}(h:x∈K.B.soft):x∈K.soft:=by simp[CK.soft,h]
theorem Ci(a:Int)(r:Rec)(p q s:Nat)(hn:0≤c.V.n∧c.V.n≤a+1∧a+1≤16384)(w:qo)(Q:qo→Prop)(h:bt w K c)(hp:Bx w p 39 (pV K.cb))
 (HT:c.V.n=a+1→ ∀w1,bt w1 K c→Ch [K.cb] w w1→eN (ZQ p q s) #[] w1 Q):
 eN (ZP p q s) #[U Z a] w fun J=>US w J K c (a+1) (ZQ p q s) Q:=by
 have HH:=Hd h;have HT':=Hd HT;have hz:=hp.cell;have ha:IntKind.i64.wrap (a+1)=a+1:=qO _ ⟨Y,Y⟩;have zB: ∀(fn:Fn) (first cap:Array qp) (w:qo),(Instr.makeFunc fn first cap).run qx w= .ok (.func fn first cap) w:=fun _ _ _ _=>rfl;clear h hp HT;show qw qx 242 #[U Z a,pV p,pV q,pV s] w _;go_enter func242,ntmps242;go_wp2_with fail
 refine(ud (a+1) (ZQ p q s) (QY p q s) hn w Q HH.o HT'.o).mono ?_;rintro e w2⟨rfl,h1⟩;have H1:=Hd h1;clear h1;go_wp2_with fail
 go_end0
 exact⟨rfl,H1.o⟩
def ZS(B:SB)(V:SV)(s:ByteArray)(V':SV):Prop:= ∀w,eH w B V→Fl w→qw qx 250 #[pV B.st,U Z V.n,U Z 1,qg s] w fun e J=>(∃v,e=qm v)∧eH J B V'∧Ch B.soft w J
theorem GS(n:Int)(s:ByteArray)(t:iI)(ht:t.ok)(V':SV)(HA:ZS K.B c.V s V')(hn:0≤V'.n∧V'.n≤n∧n≤16384)(p q s3 u:Nat)(w:qo)(Q:qo→Prop)(hf:Fl w)(hK: ∀x∈K.soft,10≤x)(h:bt w K c)
 (hp:Bx w p 39 (pV K.cb)) (hq:Bx w q 3 (U Z n)) (hs:Bx w s3 1 t.v) (hu:Bx w u 3 (U Z c.V.n))
 (HT:V'.n=n→ ∀w1,bt w1 K {c with V:=V'}→Ch K.soft w w1→eN t #[] w1 Q):
 qw qx 247 #[ql (nQ 0 1 s),pV p,pV q,pV s3,pV u] w fun e J=>e=qm (qj #[])∧ ∃wm,Ch K.soft w wm∧US wm J K {c with V:=V'} n t Q:=by
 have HH:=Hd h;have HT':=Hd HT;obtain⟨wA,a,hA,ha,h1,hb,l1⟩:=aD w (qn (nQ 0 1 s) 286);have HB:=Hd hb;have HL:=Hd l1;have fM:=Hd (h.grow hb);have ZT:=Hd (hf.ag hb);have HX:=Hd h1;have HP:=Hd (hp.grow hb);have HQ:=Hd (hq.grow hb);have HS:=Hd (hs.grow hb);have HU:=Hd (hu.grow hb);obtain⟨f0,f1,f2,f3⟩:=ka h1;clear h hp hq hs hu HT h1 hb l1 hf;go_enter func247,ntmps247;go_wp2_with fail
 clear hA ha f0 f1 f2 f3
 have eO:qy (∀X,Ch K.B.soft wA X→X.cell? ⟨p,0,none⟩=some (pV K.cb)∧X.cell? ⟨u,0,none⟩=some (U Z c.V.n)∧X.cell? ⟨K.cb,4,none⟩=some (pV K.B.st)∧X.cell? ⟨a,1,none⟩=some (U Z 1)∧X.cell? ⟨a,2,none⟩=some (qg s)):=Hd fun X hX=>by
  obtain⟨b0,n0,b1,n1,b2,n2,hr,dx⟩:=fM.o.row;have hh:=hX.heap hr (fun hx=>(fM.o.oI.2 _ hx).1 rfl);have hx:=ka (hX.heap HX.o (fun hx=>qZ (HH.o.lt a (Jj hx)) (by have:=HL.o;omega)));exact⟨(Bx.ag HP.o hX qa).cell,(Bx.ag HU.o hX qa).cell,ar hh 4 _ rfl,hx.2.1,hx.2.2.1⟩
 have au:qy (Ch K.B.soft wA wA.drew):=Hd (Ch.refl _ _).drew;have Xf:qy (eH wA.drew K.B c.V):=Hd (fM.o.st.ag (M:=[]) (Ch.refl _ _).drew qc);have Wy:qy (Fl wA.drew):=Hd ZT.o;refine aB 10 10 (fun X=>Ch K.B.soft wA X) qd rfl ?_;refine tN 0 6 ?_ au.o ?_ (tN 1 7 ?_ au.o ?_ (tN 2 8 ?_ au.o ?_ (tN 3 9 ?_ au.o ?_ (tN 4 10 ?_ au.o ?_ (tN 5 11 ?_ au.o ?_ (tN 6 12 ?_ au.o ?_ (tN 7 13 ?_ au.o ?_ (tN 8 14 ?_ au.o ?_ ?_))))))))
 iterate 9
  rotate_left
  ·intro wq hq;obtain⟨z0,z1,z2,z3,z4⟩:=eO.o wq hq;exact bJ
 simp only[pS,aS,sZ,sS];refine ay 9 qd rfl rfl (al (some 15) (f:=250) (args:=#[pV K.B.st,U Z c.V.n,U Z 1,qg s]) rfl qf (fun v X=>eH X K.B V'∧Ch K.B.soft wA.drew X) ((HA _ Xf.o Wy.o).mono fun e J ⟨⟨v,h1⟩,h2⟩=>⟨v,h1,h2⟩) ?_);rintro v w2⟨h1,h2⟩;have dD:=Hd (au.o.aq h2);have Bc:qy (bt w2 K {c with V:=V'}):=Hd (fM.o.ZM dD.o h1);have iC:=Hd (Bx.ag HP.o dD.o qa);have Xg:=Hd (Bx.ag HQ.o dD.o qa);have cX:qy (Bx w2 s3 1 (.func (.func t.F) #[] t.cap)):=Hd (Bx.ag HS.o dD.o qa);have mC:qy (Ch K.soft w w2):=Hd (Ch.pre HB.o (dD.o.mono fun x hx=>by simp[CK.soft,hx]));clear h1 h2;refine⟨fun _=>dD.o,?_⟩
 simp only[pS,aS,sZ,sS];refine aU qd ?_;have z0:=iC.o.cell;have z1:=Xg.o.cell;have z2:=cX.o.cell;clear au Xf Wy eO dD;go_wp2_with fail
 have hT:({c with V:=V'}:CS).V.n=n→ ∀w1,bt w1 K {c with V:=V'}→Ch [K.cb] w2 w1→eN t #[] w1 Q:=fun e w1 h1 h2=>HT'.o e w1 h1 (mC.o.aq (h2.mono bQ));refine(ud (c:={c with V:=V'}) n t ht hn w2 Q Bc.o hT).mono ?_;rintro e w3⟨rfl,h1⟩;have H1:=Hd h1;clear h1 hT;go_wp2_with fail
 go_end0
 exact⟨rfl,w2,mC.o,H1.o⟩
theorem Cj(r:Rec)(y:oR)(hy:dQ c.V.O c.id=y)(hid:0≤c.id∧c.id<8)(hs:y.s=r.sq)(t:iI)(ht:t.ok)(p q s:Nat)(w:qo)(Q:qo→Prop)(h:bt w K c)
 (hp:Bx w p 39 (pV K.cb)) (hq:LU w q r) (hs3:Bx w s 281 t.v)
 (HT: ∀w1,bt w1 K c→Ch [] w w1→eN t #[ql #[U Z y.c,U Z y.h]] w1 Q):
 eN (ZQ p q s) #[] w Q:=by
 have HH:=Hd h;have HT':=Hd HT;have HY:=Hd hy;have CD: ∀(args:Array qp) (W:qo),(callFunc t.F args).run qx W= .ok (.enter t.F args) W:=ht;have HP:=Hd hp;have HQ:=Hd hq;have HS:qy (Bx w s 281 (.func (.func t.F) #[] t.cap)):=Hd hs3;clear h hp hq HT hy ht hs3;show qw qx 243 #[pV p,pV q,pV s] w _;go_enter func243,ntmps243;go_wp2_with fail
 have eO:qy (∀X,Ch [] w X→X.cell? ⟨p,0,none⟩=some (pV K.cb)∧X.cell? ⟨K.cb,4,none⟩=some (pV K.B.st)∧X.cell? ⟨K.cb,0,none⟩=some (U Z c.id)):=Hd fun X hX=>by
  obtain⟨b0,n0,b1,n1,b2,n2,hr,dx⟩:=HH.o.row;have hh:=hX.heap hr qc;exact⟨(Bx.ag HP.o hX qa).cell,ar hh 4 _ rfl,ar hh 0 _ rfl⟩
 have au:qy (Ch [] w w.drew):=Hd (Ch.refl _ _).drew;have fP:qy (bt w.drew K c):=Hd (HH.o.ag (M:=[]) (Ch.refl _ _).drew qc);refine aB 16 16 (fun X=>Ch [] w X) qd rfl ?_;generalize w.drew=W0 at au fP⊢;refine tN 0 6 ?_ au.o ?_ (tN 1 7 ?_ au.o ?_ (tN 2 8 ?_ au.o ?_ (tN 3 9 ?_ au.o ?_ (tN 5 11 ?_ au.o ?_ (tN 6 12 ?_ au.o ?_ (tN 7 13 ?_ au.o ?_ (tN 8 14 ?_ au.o ?_ ?_)))))))
 iterate 8
  rotate_left
  ·intro wq hq;obtain⟨z0,z1,z2⟩:=eO.o wq hq;exact bJ
 simp only[pS,aS,sZ,sS];refine oP 4 13 qd rfl rfl rfl rfl (al (some 10) (f:=244) (args:=#[pV K.B.st]) rfl qf (fun v X=>v=pV K.B.ob∧(W0)=X) ((Bb (W0) fP.o.st).mono fun e J ⟨h1,h2⟩=>⟨_,h1,rfl,h2⟩) ?zqc) (aw (some 4) (v:=qi (some ⟨(W0).heap.size,0,none⟩)) (J:=(W0).alloc (qn #[U Z 0,U Z 0] 279)) rfl qf ⟨fun _=>au.o.alloc _,?zqa⟩)
 case' zqc=>
  rintro v _⟨rfl,rfl⟩;refine⟨fun _=>au.o,?_⟩;simp only[pS,aS,sZ,sS];refine oP 9 13 qd rfl rfl rfl rfl (al (some 15) (f:=245) (args:=#[pV K.B.ob,U Z c.id]) rfl qf (fun v X=>v=qj #[U Z y.s,ql #[U Z y.c,U Z y.h]]∧qz (W0).heap.size (W0) X) ((yp c.id hid y HY.o (W0) fP.o.st.o).mono fun e J ⟨h1,h2⟩=>⟨_,h1,rfl,h2⟩) ?zqcc) (aw (some 4) (v:=qi (some ⟨(W0).heap.size,0,none⟩)) (J:=(W0).alloc (qn #[U Z 0,U Z 0] 279)) rfl qf ⟨fun _=>au.o.alloc _,?zqca⟩)
  case' zqcc=>
   rintro v wk1⟨rfl,hb⟩;have dZ:=Hd (au.o.step hb);have fF:=Hd (fP.o.grow hb);clear hb;refine⟨fun _=>dZ.o,?_⟩;simp only[pS,aS,sZ,sS];refine tN 10 5 ?_ dZ.o ?_ (tN 11 16 ?_ dZ.o ?_ (tN 12 17 ?_ dZ.o ?_ ?_))
   iterate 3
    rotate_left
    ·intro wq hq;exact bJ
   simp only[pS,aS,sZ,sS];refine ay 13 qd rfl rfl (aw (some 4) (v:=qi (some ⟨(wk1).heap.size,0,none⟩)) (J:=(wk1).alloc (qn #[U Z 0,U Z 0] 279)) rfl qf ⟨fun _=>dZ.o.alloc _,?_⟩);simp only[pS,aS,sZ,sS];have cX:qy (Ch [] w ((wk1).alloc (qn #[U Z 0,U Z 0] 279))):=Hd (dZ.o.alloc _);have dD:qy (bt ((wk1).alloc (qn #[U Z 0,U Z 0] 279)) K c):=Hd (fF.o.grow (aa _ _));have aF:qy (((wk1).alloc (qn #[U Z 0,U Z 0] 279)).heap[(wk1).heap.size]? =some (qn #[U Z 0,U Z 0] 279 (0,0))∧w.heap.size≤(wk1).heap.size):=Hd ⟨qA _ _,dZ.o.size⟩;generalize(wk1).alloc (qn #[U Z 0,U Z 0] 279)=wk2 at cX dD aF⊢
   generalize(wk1).heap.size=pb at aF⊢;have HZ:qy (Ch [] w wk2∧bt wk2 K c∧wk2.heap[pb]? =some (qn #[U Z 0,U Z 0] 279 (0,0))∧w.heap.size≤pb):=Hd ⟨cX.o,dD.o,aF.o.1,aF.o.2⟩;clear cX dD aF;generalize wk2=wz at HZ⊢
  case' zqca=>
   simp only[pS,aS,sZ,sS];have eP:qy (Ch [] w ((W0).alloc (qn #[U Z 0,U Z 0] 279))):=Hd (au.o.alloc _);have jY:qy (bt ((W0).alloc (qn #[U Z 0,U Z 0] 279)) K c):=Hd (fP.o.grow (aa _ _));have jn:qy (((W0).alloc (qn #[U Z 0,U Z 0] 279)).heap[(W0).heap.size]? =some (qn #[U Z 0,U Z 0] 279 (0,0))∧w.heap.size≤(W0).heap.size):=Hd ⟨qA _ _,au.o.size⟩;generalize(W0).alloc (qn #[U Z 0,U Z 0] 279)=wk3 at eP jY jn⊢;generalize(W0).heap.size=pb at jn⊢
   refine ay 9 qd rfl rfl (al (some 15) (f:=245) (args:=#[pV K.B.ob,U Z c.id]) rfl qf (fun v X=>v=qj #[U Z y.s,ql #[U Z y.c,U Z y.h]]∧qz (wk3).heap.size (wk3) X) ((yp c.id hid y HY.o (wk3) jY.o.st.o).mono fun e J ⟨h1,h2⟩=>⟨_,h1,rfl,h2⟩) ?_);rintro v wk4⟨rfl,hb⟩;have cA:=Hd (eP.o.step hb);have iH:=Hd (jY.o.grow hb);have jA:qy (wk4.heap[pb]? =some (qn #[U Z 0,U Z 0] 279 (0,0))∧w.heap.size≤pb):=Hd ⟨ae hb jn.o.1,jn.o.2⟩;clear hb;refine⟨fun _=>cA.o,?_⟩;simp only[pS,aS,sZ,sS];refine tN 10 5 ?_ cA.o ?_ (tN 11 16 ?_ cA.o ?_ (tN 12 17 ?_ cA.o ?_ ?_))
   iterate 3
    rotate_left
    ·intro wq hq;exact bJ
   simp only[pS,aS,sZ,sS];have HZ:qy (Ch [] w wk4∧bt wk4 K c∧wk4.heap[pb]? =some (qn #[U Z 0,U Z 0] 279 (0,0))∧w.heap.size≤pb):=Hd ⟨cA.o,iH.o,jA.o.1,jA.o.2⟩;clear cA iH jA;generalize wk4=wz at HZ⊢
 case' zqa=>
  simp only[pS,aS,sZ,sS];have br:qy (Ch [] w ((W0).alloc (qn #[U Z 0,U Z 0] 279))):=Hd (au.o.alloc _);have dP:qy (bt ((W0).alloc (qn #[U Z 0,U Z 0] 279)) K c):=Hd (fP.o.grow (aa _ _));have yB:qy (((W0).alloc (qn #[U Z 0,U Z 0] 279)).heap[(W0).heap.size]? =some (qn #[U Z 0,U Z 0] 279 (0,0))∧w.heap.size≤(W0).heap.size):=Hd ⟨qA _ _,au.o.size⟩;generalize(W0).alloc (qn #[U Z 0,U Z 0] 279)=wk5 at br dP yB⊢;generalize(W0).heap.size=pb at yB⊢
  refine ay 4 qd rfl rfl (al (some 10) (f:=244) (args:=#[pV K.B.st]) rfl qf (fun v X=>v=pV K.B.ob∧(wk5)=X) ((Bb (wk5) dP.o.st).mono fun e J ⟨h1,h2⟩=>⟨_,h1,rfl,h2⟩) ?_);rintro v _⟨rfl,rfl⟩;refine⟨fun _=>br.o,?_⟩;simp only[pS,aS,sZ,sS];refine ay 9 qd rfl rfl (al (some 15) (f:=245) (args:=#[pV K.B.ob,U Z c.id]) rfl qf (fun v X=>v=qj #[U Z y.s,ql #[U Z y.c,U Z y.h]]∧qz (wk5).heap.size (wk5) X) ((yp c.id hid y HY.o (wk5) dP.o.st.o).mono fun e J ⟨h1,h2⟩=>⟨_,h1,rfl,h2⟩) ?_);rintro v wk6⟨rfl,hb⟩;have dT:=Hd (br.o.step hb);have ee:=Hd (dP.o.grow hb)
  have vp:qy (wk6.heap[pb]? =some (qn #[U Z 0,U Z 0] 279 (0,0))∧w.heap.size≤pb):=Hd ⟨ae hb yB.o.1,yB.o.2⟩;clear hb;refine⟨fun _=>dT.o,?_⟩;simp only[pS,aS,sZ,sS];refine tN 10 5 ?_ dT.o ?_ (tN 11 16 ?_ dT.o ?_ (tN 12 17 ?_ dT.o ?_ ?_))
  iterate 3
   rotate_left
   ·intro wq hq;exact bJ
  simp only[pS,aS,sZ,sS];have HZ:qy (Ch [] w wk6∧bt wk6 K c∧wk6.heap[pb]? =some (qn #[U Z 0,U Z 0] 279 (0,0))∧w.heap.size≤pb):=Hd ⟨dT.o,ee.o,vp.o.1,vp.o.2⟩;clear dT ee vp;generalize wk6=wz at HZ⊢
 all_goals
  have HZ9:=Hd HZ.o.1;refine tN 14 3 ?_ HZ9.o ?_ ?_;rotate_left
  ·intro wq hq;exact bJ
  simp only[pS,aS,sZ,sS];refine ay 15 qd rfl rfl (dG rfl 279 _ _ rfl pb #[U Z y.c,U Z y.h] rfl rfl 279 _ HZ.o.2.2.1 cZ rfl (by simp[Value.oneCell']) ⟨fun _=>HZ.o.1.row HZ.o.2.2.2 _,?_⟩);refine aU qd ?_;have Cc:qy (Ch [] w (wz.setRow pb #[U Z y.c,U Z y.h])):=Hd (HZ.o.1.row HZ.o.2.2.2 _);have dD:qy (bt (wz.setRow pb #[U Z y.c,U Z y.h]) K c):=Hd (HZ.o.2.1.ag (Ch.kj HZ.o.2.2.1 qa _) (fun x hx=>by have:=HH.o.lt x hx;have:=HZ.o.2.2.2;simp;omega));have aF:qy ((wz.setRow pb #[U Z y.c,U Z y.h]).heap[pb]? =some (qn #[U Z y.c,U Z y.h] 279 (0,0))):=Hd (qJ _ _ _ _ _ _ HZ.o.2.2.1)
  have Xg:qy (LU (wz.setRow pb #[U Z y.c,U Z y.h]) q r):=Hd (LU.ag HQ.o Cc.o);have cX:qy (Bx (wz.setRow pb #[U Z y.c,U Z y.h]) s 281 (.func (.func t.F) #[] t.cap)):=Hd (Bx.ag HS.o Cc.o qa);clear HZ HZ9;generalize wz.setRow pb #[U Z y.c,U Z y.h]=w5 at Cc dD aF Xg cX⊢;obtain⟨p0,p1⟩:=cp aF.o;obtain⟨o0,o1,o2,o3,o4,o5,o6,o7,o8,o9,o10,o11⟩:=bP Xg.o;have z2:=cX.o.cell;have bd:(y.s !=r.sq)=false:=by rw[hs];simp
  clear eO;go_wp2_with fail
  refine(HT'.o w5 dD.o Cc.o).mono ?_;rintro e w6⟨rfl,hq⟩;have Wv:=Hd hq;clear hq;go_wp2_with fail
  go_end0
  exact⟨rfl,Wv.o⟩
abbrev CS.fin(c:CS)(rc rh:Int)(rd:ByteArray):CS:={c with busy:=false,over:=true,rc:=rc,rh:=rh,rd:=rd,cur:= .nilIface}
abbrev yH(p:Nat):iI:=⟨175,#[pV p]⟩
theorem ZU(p:Nat):(yH p).ok:=fun args W=>by simp[yH,go_sem]
theorem UT(rc rh:Int)(p:Nat)(w:qo)(h:bt w K c)(hp:Bx w p 39 (pV K.cb)):
 eN (yH p) #[ql #[U Z rc,U Z rh]] w fun J=>bt J K (c.fin rc rh ⟨#[]⟩)∧Ch [K.cb] w J:=by
 obtain⟨wA,a,hA,ha,h1,hb,l1⟩:=aD w (qn #[U Z rc,U Z rh] 279);have HB:=Hd hb;have fM:=Hd (h.grow hb);have z0:=(hp.grow hb).cell;obtain⟨r0,r1⟩:=cp h1;clear h hp h1 hb l1;show qw qx 175 #[ql #[U Z rc,U Z rh],pV p] w _;go_enter func175,ntmps175;go_wp2_with fail
 refine(rq rc rh ⟨#[]⟩ wA fM.o).mono ?_;rintro e w2⟨rfl,h1,h2⟩;have H1:=Hd h1;have H2:=Hd (Ch.pre HB.o h2);clear h1 h2;go_wp2_with fail
 go_end0
 exact⟨rfl,H1.o,H2.o⟩
structure oT(w J:qo)(K:CK)(c:CS)(t:iI):Prop where
 ex: ∃tb p q,bt J K {c with cur:= .iface iY (pV tb),th:= .func (.func 179) #[] #[pV p,pV q]}∧mh J tb 1 0∧
  Bx J p 39 (pV K.cb)∧Bx J q 1 t.v∧w.heap.size≤tb
 ch:Ch [K.cb] w J
theorem EI(t:iI)(w:qo)(h:bt w K c):
 qw qx 128 #[pV K.cb,.func (.func t.F) #[] t.cap] w fun e J=>e=qm (qj #[])∧oT w J K c t:=by
 obtain⟨wA,wB,p,q,hA,hB,hp,hq,h1,h2,hb,l1,l2⟩:=yF w (qn #[pV K.cb] 39) (qn #[.func (.func t.F) #[] t.cap] 1);have HB:=Hd hb;have HP:=Hd h1;have HQ:=Hd h2;have LV:=Hd (h.grow hb);clear h h1 h2 hb l1 l2;go_enter func128,ntmps128;go_wp2_with fail
 clear hA hB hp hq;obtain⟨b0,n0,b1,n1,b2,n2,hr,dx⟩:=LV.o.row;have UR:=Hd dx;have au:qy (PS K b0 n0 wB wB.drew):=Hd (PS.start hr);have pD:qy (bt wB.drew K c):=Hd (LV.o.ag (M:=[]) (Ch.refl _ _).drew qc);have zB: ∀(fn:Fn) (first cap:Array qp) (w:qo),(Instr.makeFunc fn first cap).run qx w= .ok (.func fn first cap) w:=fun _ _ _ _=>rfl;clear hr dx;refine aB 9 9 (PS K b0 n0 wB) qd rfl ?_;refine tN 0 4 ?_ au.o ?_ (tN 1 5 ?_ au.o ?_ (tN 2 6 ?_ au.o ?_ (tN 3 7 ?_ au.o ?_ (tN 4 8 ?_ au.o ?_ (tN 7 11 ?_ au.o ?_ ?_)))))
 iterate 6
  rotate_left
  ·intro wq hq;have z0:=(Bx.ag HP.o hq.ch qa).cell;have z1:=hq.c2;have z2:=hq.c3;exact bJ
 simp only[pS,aS,sZ,sS];refine ay 5 qd rfl rfl (al (some 9) (f:=178) (args:=#[ql #[U Z 0,qh (some ⟨b0,0,none⟩) 2 n0]]) rfl qf (fun v X=> ∃tb,v=pV tb∧mh X tb 1 0∧wB.heap.size≤tb∧qz wB.drew.heap.size wB.drew X) ((Zc wB.drew (UR.o.ag (M:=[]) (Ch.refl _ _).drew)).mono fun e J ⟨tb,h1,h2,h3,h4⟩=>⟨_,h1,tb,rfl,h2,h3,h4⟩) ?_);rintro v w3⟨tb,rfl,oW,hl,hb3⟩;have eP:=Hd (au.o.step hb3);have Ef:=Hd oW;have yG:=Hd hl;have mL:=Hd (pD.o.grow hb3);clear oW hl hb3;refine⟨fun _=>eP.o,?_⟩;simp only[pS,aS,sZ,sS];refine tN 6 10 ?_ eP.o ?_ ?_;rotate_left
 ·intro wq hq;exact bJ
 simp only[pS,aS,sZ,sS];refine ay 8 qd rfl rfl (al (some 12) (f:=177) (args:=#[pV K.cb,.iface iY (pV tb),.func (.func 179) #[] #[pV p,pV q]]) rfl qf (fun v X=>bt X K {c with cur:= .iface iY (pV tb),th:= .func (.func 179) #[] #[pV p,pV q]}∧PS K b0 n0 wB X∧Ch [K.cb] w3 X) ((vw iY tb 179 #[pV p,pV q] w3 mL.o).mono fun e J ⟨h1,h2,h3,h4⟩=>⟨_,h1,h2,eP.o.run h3 h4,h3⟩) ?_);rintro v w4⟨h1,h2,h3⟩;have H1:=Hd h1;have H2:=Hd h2;have H3:=Hd h3;clear h1 h2 h3;refine⟨fun _=>H2.o,?_⟩;simp only[pS,aS,sZ,sS];refine aU qd ?_;go_wp2_with fail
 go_end0
 refine⟨rfl,⟨tb,p,q,H1.o,Ef.o.ag H3.o ?_,Bx.ag HP.o H2.o.ch qa,Bx.ag HQ.o H2.o.ch qa,?_⟩,Ch.pre HB.o H2.o.ch⟩
 ·have:=LV.o.lt K.cb (by simp[CK.soft]);have:=yG.o;simp;omega
 ·exact qM HB.o.size yG.o
theorem Ck(n:Int)(t:iI)(ht:t.ok)(hn:0≤c.V.n∧c.V.n≤n∧n≤16384)(p q:Nat)(w:qo)(Q:qo→Prop)(h:bt w K c)(hp:Bx w p 39 (pV K.cb))(hq:Bx w q 1 t.v)
 (HT:c.V.n=n→ ∀w1,bt w1 K c→Ch [K.cb] w w1→eN t #[] w1 Q):
 qw qx 179 #[ql (nQ n 0 ⟨#[]⟩),pV p,pV q] w fun e J=>e=qm (qj #[])∧ ∃wm,Ch K.soft w wm∧US wm J K c n t Q:=by
 have HT':=Hd HT;obtain⟨wA,a,hA,ha,h1,hb,l1⟩:=aD w (qn (nQ n 0 ⟨#[]⟩) 286);have HB:=Hd hb;have fM:=Hd (h.grow hb);obtain⟨f0,f1,f2,f3⟩:=ka h1;have z0:=(hp.grow hb).cell;have z1:wA.cell? ⟨q,0,none⟩=some (.func (.func t.F) #[] t.cap):=(hq.grow hb).cell;clear h hp hq HT h1 hb l1;go_enter func179,ntmps179;go_wp2_with fail
 refine(ud n t ht hn wA Q fM.o (fun e w1 h1 h2=>HT'.o e w1 h1 (Ch.pre HB.o h2))).mono ?_;rintro e w3⟨rfl,h1⟩;have H1:=Hd h1;clear h1;go_wp2_with fail
 go_end0
 exact⟨rfl,wA,Ch.af HB.o,H1.o⟩
theorem ko.pre{wm:qo}{r:Rec}{t:iI}(k:qz w.heap.size w wm)(h:ko wm J K c r t):ko w J K c r t:=by
 obtain⟨ab,p,q,p1,p2,p3,h1,h2,h3,h4,h5,h6,h7,h8⟩:=h.ex;exact⟨⟨ab,p,q,p1,p2,p3,h1,h2,h3,h4,h5,h6,h7,qM k.size h8⟩,Ch.pre k h.ch⟩
abbrev opZ:Array qp:=ju 0 0 0 ⟨#[]⟩ ⟨#[]⟩ 0 0 0 ⟨#[]⟩ 0 0 (qh none 0 0)
abbrev GU(p:Nat):iI:=⟨194,#[pV p]⟩
theorem ZV(p:Nat):(GU p).ok:=fun args W=>by simp[GU,go_sem]
theorem LW(kq:c.buf=none)(w:qo)(h:bt w K c):
 qw qx 133 #[pV K.cb] w fun e J=>e=qm (qj #[])∧bt J K (c.fin 0 0 ⟨#[]⟩)∧Ch [K.cb] w J:=by
 obtain⟨wA,p,hA,hp,h1,hb,l1⟩:=aD w (qn #[pV K.cb] 39);have HB:=Hd hb;have HP:=Hd h1;have fM:=Hd (h.grow hb);clear h h1 hb l1;go_enter func133,ntmps133;go_wp2_with fail
 clear hA hp
 have eO:qy (∀X,Ch [] wA X→X.cell? ⟨p,0,none⟩=some (pV K.cb)∧X.cell? ⟨K.cb,5,none⟩=some (pV K.bb)∧X.cell? ⟨K.cb,20,none⟩=some (U Z c.a.h)):=Hd fun X hX=>by
  obtain⟨b0,n0,b1,n1,b2,n2,hr,dx⟩:=fM.o.row;have hh:=hX.heap hr qc;exact⟨(Bx.ag HP.o hX qa).cell,ar hh 5 _ rfl,ar hh 20 _ rfl⟩
 have au:qy (Ch [] wA wA.drew):=Hd (Ch.refl _ _).drew;have fP:qy (bt wA.drew K c):=Hd (fM.o.ag (M:=[]) (Ch.refl _ _).drew qc);refine aB 16 16 (fun X=>Ch [] wA X) qd rfl ?_;generalize wA.drew=W0 at au fP⊢;refine tN 0 6 ?_ au.o ?_ (tN 1 7 ?_ au.o ?_ (tN 2 8 ?_ au.o ?_ (tN 3 9 ?_ au.o ?_ (tN 4 10 ?_ au.o ?_ (tN 5 11 ?_ au.o ?_ (tN 6 12 ?_ au.o ?_ (tN 7 13 ?_ au.o ?_ (tN 8 14 ?_ au.o ?_ ?_))))))))
 iterate 9
  rotate_left
  ·intro wq hq;obtain⟨z0,z1,z2⟩:=eO.o wq hq;exact bJ
 simp only[pS,aS,sZ,sS];refine oP 9 13 qd rfl rfl rfl rfl (al (some 15) (f:=193) (args:=#[pV K.bb,U Z c.a.h]) rfl qf (fun v X=>v=qj #[ql (#[U Z 0,U Z 0,qg ⟨#[]⟩]),qk false]∧qz (W0).heap.size (W0) X) ((uM K.bb c.a.h (W0) (kq▸fP.o.bf)).mono fun e J ⟨h1,h2⟩=>⟨_,h1,rfl,h2⟩) ?zqc) (aw (some 2) (v:=qi (some ⟨(W0).heap.size,0,none⟩)) (J:=(W0).alloc (qn #[U Z 0,U Z 0,qg ⟨#[]⟩] 238)) rfl qf ⟨fun _=>au.o.alloc _,?zqa⟩)
 case' zqc=>
  rintro v wk1⟨rfl,hb⟩;have dZ:=Hd (au.o.step hb);have fF:=Hd (fP.o.grow hb);clear hb;refine⟨fun _=>dZ.o,?_⟩;simp only[pS,aS,sZ,sS];refine tN 10 5 ?_ dZ.o ?_ (tN 11 16 ?_ dZ.o ?_ (tN 12 17 ?_ dZ.o ?_ ?_))
  iterate 3
   rotate_left
   ·intro wq hq;exact bJ
  simp only[pS,aS,sZ,sS];refine ay 13 qd rfl rfl (aw (some 2) (v:=qi (some ⟨(wk1).heap.size,0,none⟩)) (J:=(wk1).alloc (qn #[U Z 0,U Z 0,qg ⟨#[]⟩] 238)) rfl qf ⟨fun _=>dZ.o.alloc _,?_⟩);simp only[pS,aS,sZ,sS];have cX:qy (Ch [] wA ((wk1).alloc (qn #[U Z 0,U Z 0,qg ⟨#[]⟩] 238))):=Hd (dZ.o.alloc _);have dD:qy (bt ((wk1).alloc (qn #[U Z 0,U Z 0,qg ⟨#[]⟩] 238)) K c):=Hd (fF.o.grow (aa _ _));have aF:qy (((wk1).alloc (qn #[U Z 0,U Z 0,qg ⟨#[]⟩] 238)).heap[(wk1).heap.size]? =some (qn #[U Z 0,U Z 0,qg ⟨#[]⟩] 238 (0,0))∧wA.heap.size≤(wk1).heap.size):=Hd ⟨qA _ _,dZ.o.size⟩
  generalize(wk1).alloc (qn #[U Z 0,U Z 0,qg ⟨#[]⟩] 238)=wk2 at cX dD aF⊢;generalize(wk1).heap.size=gb at aF⊢;have HZ:qy (Ch [] wA wk2∧bt wk2 K c∧wk2.heap[gb]? =some (qn #[U Z 0,U Z 0,qg ⟨#[]⟩] 238 (0,0))∧wA.heap.size≤gb):=Hd ⟨cX.o,dD.o,aF.o.1,aF.o.2⟩;clear cX dD aF;generalize wk2=wz at HZ⊢
 case' zqa=>
  simp only[pS,aS,sZ,sS];have eP:qy (Ch [] wA ((W0).alloc (qn #[U Z 0,U Z 0,qg ⟨#[]⟩] 238))):=Hd (au.o.alloc _);have jY:qy (bt ((W0).alloc (qn #[U Z 0,U Z 0,qg ⟨#[]⟩] 238)) K c):=Hd (fP.o.grow (aa _ _));have jn:qy (((W0).alloc (qn #[U Z 0,U Z 0,qg ⟨#[]⟩] 238)).heap[(W0).heap.size]? =some (qn #[U Z 0,U Z 0,qg ⟨#[]⟩] 238 (0,0))∧wA.heap.size≤(W0).heap.size):=Hd ⟨qA _ _,au.o.size⟩;generalize(W0).alloc (qn #[U Z 0,U Z 0,qg ⟨#[]⟩] 238)=wk3 at eP jY jn⊢;generalize(W0).heap.size=gb at jn⊢
  refine ay 9 qd rfl rfl (al (some 15) (f:=193) (args:=#[pV K.bb,U Z c.a.h]) rfl qf (fun v X=>v=qj #[ql (#[U Z 0,U Z 0,qg ⟨#[]⟩]),qk false]∧qz (wk3).heap.size (wk3) X) ((uM K.bb c.a.h (wk3) (kq▸jY.o.bf)).mono fun e J ⟨h1,h2⟩=>⟨_,h1,rfl,h2⟩) ?_);rintro v wk4⟨rfl,hb⟩;have cA:=Hd (eP.o.step hb);have iH:=Hd (jY.o.grow hb);have jA:qy (wk4.heap[gb]? =some (qn #[U Z 0,U Z 0,qg ⟨#[]⟩] 238 (0,0))∧wA.heap.size≤gb):=Hd ⟨ae hb jn.o.1,jn.o.2⟩;clear hb;refine⟨fun _=>cA.o,?_⟩;simp only[pS,aS,sZ,sS];refine tN 10 5 ?_ cA.o ?_ (tN 11 16 ?_ cA.o ?_ (tN 12 17 ?_ cA.o ?_ ?_))
  iterate 3
   rotate_left
   ·intro wq hq;exact bJ
  simp only[pS,aS,sZ,sS];have HZ:qy (Ch [] wA wk4∧bt wk4 K c∧wk4.heap[gb]? =some (qn #[U Z 0,U Z 0,qg ⟨#[]⟩] 238 (0,0))∧wA.heap.size≤gb):=Hd ⟨cA.o,iH.o,jA.o.1,jA.o.2⟩;clear cA iH jA;generalize wk4=wz at HZ⊢
 all_goals
  have HZ9:=Hd HZ.o.1;refine ay 14 qd rfl rfl (dG rfl 238 _ _ rfl gb (#[U Z 0,U Z 0,qg ⟨#[]⟩]) rfl rfl 238 _ HZ.o.2.2.1 tU rfl (by simp[Value.oneCell']) ⟨fun _=>HZ.o.1.row HZ.o.2.2.2 _,?_⟩);have Cc:qy (Ch [] wA (wz.setRow gb (#[U Z 0,U Z 0,qg ⟨#[]⟩]))):=Hd (HZ.o.1.row HZ.o.2.2.2 _);have dD:qy (bt (wz.setRow gb (#[U Z 0,U Z 0,qg ⟨#[]⟩])) K c):=Hd (fM.o.ag Cc.o qc);have aF:qy ((wz.setRow gb (#[U Z 0,U Z 0,qg ⟨#[]⟩])).heap[gb]? =some (qn (#[U Z 0,U Z 0,qg ⟨#[]⟩]) 238 (0,0))):=Hd (qJ _ _ _ _ _ _ HZ.o.2.2.1);clear HZ HZ9;generalize wz.setRow gb (#[U Z 0,U Z 0,qg ⟨#[]⟩])=w5 at Cc dD aF⊢
  refine tN 15 3 ?_ Cc.o ?_ ?_;rotate_left
  ·intro wq hq;exact bJ
  simp only[pS,aS,sZ,sS];refine aU qd ?_;have z0:=(Bx.ag HP.o Cc.o qa).cell;clear eO;go_wp2_with fail
  refine(yE 0 w5 dD.o).mono ?_;rintro e w6⟨rfl,h1,h2⟩;have H1:=Hd h1;have H2:qy (Ch [K.cb] w w6):=Hd ((Ch.pre HB.o (Cc.o.mono qc)).aq h2);clear h1 h2;go_wp2_with fail
  exact xB (results_none rfl _ _ _) rfl ⟨rfl,H1.o,H2.o⟩
abbrev Jk(c:CS)(y:zb):Rec:=⟨c.id,c.sq,10,⟨#[]⟩,⟨#[]⟩,0,y.h,y.o,y.d,0,0,[]⟩
theorem LX(y:zb)(kq:c.buf=some y)(hh:c.a.h=y.h)(jZ:Fit (Jk c y))(hs:(OpW.encS (Jk c y)).size≤4096)(ve:0≤c.sq∧c.sq≤4294967296)(w:qo)(hf:Fl w)(hK: ∀x∈K.soft,10≤x)(h:bt w K c):
 qw qx 133 #[pV K.cb] w fun e J=>e=qm (qj #[])∧ ∃p,ko w J K c (Jk c y) (GU p)∧Bx J p 39 (pV K.cb):=by
 have MP:=Hd jZ;have sR:=Hd hs;have HF:=Hd hf;clear jZ hs hf;obtain⟨wA,p,hA,hp,h1,hb,l1⟩:=aD w (qn #[pV K.cb] 39);have HB:=Hd hb;have HP:=Hd h1;have fM:=Hd (h.grow hb);clear h h1 hb l1;go_enter func133,ntmps133;go_wp2_with fail
 clear hA hp
 have eO:qy (∀X,Ch [] wA X→X.cell? ⟨p,0,none⟩=some (pV K.cb)∧X.cell? ⟨K.cb,5,none⟩=some (pV K.bb)∧X.cell? ⟨K.cb,20,none⟩=some (U Z c.a.h)):=Hd fun X hX=>by
  obtain⟨b0,n0,b1,n1,b2,n2,hr,dx⟩:=fM.o.row;have hh:=hX.heap hr qc;exact⟨(Bx.ag HP.o hX qa).cell,ar hh 5 _ rfl,ar hh 20 _ rfl⟩
 have au:qy (Ch [] wA wA.drew):=Hd (Ch.refl _ _).drew;have fP:qy (bt wA.drew K c):=Hd (fM.o.ag (M:=[]) (Ch.refl _ _).drew qc);refine aB 16 16 (fun X=>Ch [] wA X) qd rfl ?_;generalize wA.drew=W0 at au fP⊢;refine tN 0 6 ?_ au.o ?_ (tN 1 7 ?_ au.o ?_ (tN 2 8 ?_ au.o ?_ (tN 3 9 ?_ au.o ?_ (tN 4 10 ?_ au.o ?_ (tN 5 11 ?_ au.o ?_ (tN 6 12 ?_ au.o ?_ (tN 7 13 ?_ au.o ?_ (tN 8 14 ?_ au.o ?_ ?_))))))))
 iterate 9
  rotate_left
  ·intro wq hq;obtain⟨z0,z1,z2⟩:=eO.o wq hq;exact bJ
 simp only[pS,aS,sZ,sS];refine oP 9 13 qd rfl rfl rfl rfl (al (some 15) (f:=193) (args:=#[pV K.bb,U Z c.a.h]) rfl qf (fun v X=>v=qj #[ql (CC y),qk true]∧qz (W0).heap.size (W0) X) ((yw K.bb y c.a.h hh (W0) (kq▸fP.o.bf)).mono fun e J ⟨h1,h2⟩=>⟨_,h1,rfl,h2⟩) ?zqc) (aw (some 2) (v:=qi (some ⟨(W0).heap.size,0,none⟩)) (J:=(W0).alloc (qn #[U Z 0,U Z 0,qg ⟨#[]⟩] 238)) rfl qf ⟨fun _=>au.o.alloc _,?zqa⟩)
 case' zqc=>
  rintro v wk1⟨rfl,hb⟩;have dZ:=Hd (au.o.step hb);have fF:=Hd (fP.o.grow hb);clear hb;refine⟨fun _=>dZ.o,?_⟩;simp only[pS,aS,sZ,sS];refine tN 10 5 ?_ dZ.o ?_ (tN 11 16 ?_ dZ.o ?_ (tN 12 17 ?_ dZ.o ?_ ?_))
  iterate 3
   rotate_left
   ·intro wq hq;exact bJ
  simp only[pS,aS,sZ,sS];refine ay 13 qd rfl rfl (aw (some 2) (v:=qi (some ⟨(wk1).heap.size,0,none⟩)) (J:=(wk1).alloc (qn #[U Z 0,U Z 0,qg ⟨#[]⟩] 238)) rfl qf ⟨fun _=>dZ.o.alloc _,?_⟩);simp only[pS,aS,sZ,sS];have cX:qy (Ch [] wA ((wk1).alloc (qn #[U Z 0,U Z 0,qg ⟨#[]⟩] 238))):=Hd (dZ.o.alloc _);have dD:qy (bt ((wk1).alloc (qn #[U Z 0,U Z 0,qg ⟨#[]⟩] 238)) K c):=Hd (fF.o.grow (aa _ _));have aF:qy (((wk1).alloc (qn #[U Z 0,U Z 0,qg ⟨#[]⟩] 238)).heap[(wk1).heap.size]? =some (qn #[U Z 0,U Z 0,qg ⟨#[]⟩] 238 (0,0))∧wA.heap.size≤(wk1).heap.size):=Hd ⟨qA _ _,dZ.o.size⟩
  generalize(wk1).alloc (qn #[U Z 0,U Z 0,qg ⟨#[]⟩] 238)=wk2 at cX dD aF⊢;generalize(wk1).heap.size=gb at aF⊢;have HZ:qy (Ch [] wA wk2∧bt wk2 K c∧wk2.heap[gb]? =some (qn #[U Z 0,U Z 0,qg ⟨#[]⟩] 238 (0,0))∧wA.heap.size≤gb):=Hd ⟨cX.o,dD.o,aF.o.1,aF.o.2⟩;clear cX dD aF;generalize wk2=wz at HZ⊢
 case' zqa=>
  simp only[pS,aS,sZ,sS];have eP:qy (Ch [] wA ((W0).alloc (qn #[U Z 0,U Z 0,qg ⟨#[]⟩] 238))):=Hd (au.o.alloc _);have jY:qy (bt ((W0).alloc (qn #[U Z 0,U Z 0,qg ⟨#[]⟩] 238)) K c):=Hd (fP.o.grow (aa _ _));have jn:qy (((W0).alloc (qn #[U Z 0,U Z 0,qg ⟨#[]⟩] 238)).heap[(W0).heap.size]? =some (qn #[U Z 0,U Z 0,qg ⟨#[]⟩] 238 (0,0))∧wA.heap.size≤(W0).heap.size):=Hd ⟨qA _ _,au.o.size⟩;generalize(W0).alloc (qn #[U Z 0,U Z 0,qg ⟨#[]⟩] 238)=wk3 at eP jY jn⊢;generalize(W0).heap.size=gb at jn⊢
  refine ay 9 qd rfl rfl (al (some 15) (f:=193) (args:=#[pV K.bb,U Z c.a.h]) rfl qf (fun v X=>v=qj #[ql (CC y),qk true]∧qz (wk3).heap.size (wk3) X) ((yw K.bb y c.a.h hh (wk3) (kq▸jY.o.bf)).mono fun e J ⟨h1,h2⟩=>⟨_,h1,rfl,h2⟩) ?_);rintro v wk4⟨rfl,hb⟩;have cA:=Hd (eP.o.step hb);have iH:=Hd (jY.o.grow hb);have jA:qy (wk4.heap[gb]? =some (qn #[U Z 0,U Z 0,qg ⟨#[]⟩] 238 (0,0))∧wA.heap.size≤gb):=Hd ⟨ae hb jn.o.1,jn.o.2⟩;clear hb;refine⟨fun _=>cA.o,?_⟩;simp only[pS,aS,sZ,sS];refine tN 10 5 ?_ cA.o ?_ (tN 11 16 ?_ cA.o ?_ (tN 12 17 ?_ cA.o ?_ ?_))
  iterate 3
   rotate_left
   ·intro wq hq;exact bJ
  simp only[pS,aS,sZ,sS];have HZ:qy (Ch [] wA wk4∧bt wk4 K c∧wk4.heap[gb]? =some (qn #[U Z 0,U Z 0,qg ⟨#[]⟩] 238 (0,0))∧wA.heap.size≤gb):=Hd ⟨cA.o,iH.o,jA.o.1,jA.o.2⟩;clear cA iH jA;generalize wk4=wz at HZ⊢
 all_goals
  have HZ9:=Hd HZ.o.1;refine ay 14 qd rfl rfl (dG rfl 238 _ _ rfl gb (CC y) rfl rfl 238 _ HZ.o.2.2.1 tU rfl (by simp[Value.oneCell']) ⟨fun _=>HZ.o.1.row HZ.o.2.2.2 _,?_⟩);have Cc:qy (Ch [] wA (wz.setRow gb (CC y))):=Hd (HZ.o.1.row HZ.o.2.2.2 _);have dD:qy (bt (wz.setRow gb (CC y)) K c):=Hd (fM.o.ag Cc.o qc);have aF:qy ((wz.setRow gb (CC y)).heap[gb]? =some (qn (CC y) 238 (0,0))):=Hd (qJ _ _ _ _ _ _ HZ.o.2.2.1);clear HZ HZ9;generalize wz.setRow gb (CC y)=w5 at Cc dD aF⊢;refine tN 15 3 ?_ Cc.o ?_ ?_;rotate_left
  ·intro wq hq;exact bJ
  simp only[pS,aS,sZ,sS];refine aU qd ?_;have z0:=(Bx.ag HP.o Cc.o qa).cell;clear eO;obtain⟨y0,y1,y2⟩:=bS aF.o;go_wp2_with fail
  have vr:qy (∀X,Ch [] w5 X→X.cell? ⟨p,0,none⟩=some (pV K.cb)∧X.cell? ⟨K.cb,0,none⟩=some (U Z c.id)∧X.cell? ⟨K.cb,1,none⟩=some (U Z c.sq)∧X.cell? ⟨gb,0,none⟩=some (U Z y.h)∧X.cell? ⟨gb,1,none⟩=some (U Z y.o)∧X.cell? ⟨gb,2,none⟩=some (qg y.d)):=Hd fun X hX=>by
   obtain⟨b0,n0,b1,n1,b2,n2,hr,dx⟩:=dD.o.row;have hh:=hX.heap hr qc;have hy:=bS (hX.heap aF.o qc);exact⟨(Bx.ag (Bx.ag HP.o Cc.o qa) hX qa).cell,ar hh 0 _ rfl,ar hh 1 _ rfl,hy.1,hy.2.1,hy.2.2⟩
  have br:qy (Ch [] w5 w5.drew):=Hd (Ch.refl _ _).drew;refine aB 17 17 (fun X=>Ch [] w5 X) qd rfl ?_;generalize w5.drew=W6 at br⊢;refine tN 0 22 ?_ br.o ?_ (tN 1 23 ?_ br.o ?_ (tN 2 24 ?_ br.o ?_ (tN 3 25 ?_ br.o ?_ (tN 4 26 ?_ br.o ?_ (tN 5 27 ?_ br.o ?_ (tN 6 28 ?_ br.o ?_ (tN 7 29 ?_ br.o ?_ (tN 8 30 ?_ br.o ?_ (tN 9 31 ?_ br.o ?_ (tN 10 32 ?_ br.o ?_ (tN 11 33 ?_ br.o ?_ (tN 12 34 ?_ br.o ?_ (tN 13 35 ?_ br.o ?_ (tN 14 36 ?_ br.o ?_ ?_))))))))))))))
  iterate 15
   rotate_left
   ·intro wq hq;obtain⟨q0,q1,q2,q3,q4,q5⟩:=vr.o wq hq;exact bJ
  simp only[pS,aS,sZ,sS];clear vr y0 y1 y2 z0;refine ay 15 qd rfl rfl (aw (some 4) (v:=pV W6.heap.size) (J:=W6.alloc (qn opZ 61)) rfl qf ⟨fun _=>br.o.alloc _,?_⟩);simp only[pS,aS,sZ,sS];have dT:qy (Ch [] w5 (W6.alloc (qn opZ 61))):=Hd (br.o.alloc _);have iD:qy ((W6.alloc (qn opZ 61)).heap[W6.heap.size]? =some (qn opZ 61 (0,0))∧w5.heap.size≤W6.heap.size):=Hd ⟨qA _ _,br.o.size⟩;generalize W6.alloc (qn opZ 61)=w7 at dT iD⊢;generalize W6.heap.size=ob at iD⊢
  refine ay 16 qd rfl rfl (dG rfl 61 _ _ rfl ob (Jh (Jk c y)) rfl rfl 61 _ iD.o.1 gd rfl (by simp[Value.oneCell']) ⟨fun _=>dT.o.row iD.o.2 _,?_⟩);refine aU qd ?_;have Jg:qy (Ch [] w5 (w7.setRow ob (Jh (Jk c y)))):=Hd (dT.o.row iD.o.2 _);have Uw:qy ((w7.setRow ob (Jh (Jk c y))).heap[ob]? =some (qn (Jh (Jk c y)) 61 (0,0))):=Hd (qJ _ _ _ _ _ _ iD.o.1);clear dT iD br;generalize w7.setRow ob (Jh (Jk c y))=w8 at Jg Uw⊢;have fw:qy (Ch [] wA w8):=Hd (Cc.o.aq Jg.o);have HP8:=Hd (Bx.ag HP.o fw.o qa);have IQ:=Hd (fM.o.ag fw.o qc);have HF8:=Hd (mD (HF.o.ag HB.o) fw.o qc);have z0:=HP8.o.cell
  obtain⟨o0,o1,o2,o3,o4,o5,o6,o7,o8,o9,o10,o11⟩:=bP Uw.o;have zB: ∀(fn:Fn) (first cap:Array qp) (w:qo),(Instr.makeFunc fn first cap).run qx w= .ok (.func fn first cap) w:=fun _ _ _ _=>rfl;go_wp2_with fail
  refine(kD (Jk c y) rfl MP.o sR.o (GU p) ve w8 HF8.o hK IQ.o).mono ?_;rintro e w9⟨rfl,h1⟩;have ZW:qy (qz w.heap.size w w8):=Hd ((Ch.pre HB.o fw.o).below qc (Nat.le_refl _));have H1:qy (ko w w9 K c (Jk c y) (GU p)):=Hd (h1.pre ZW.o);have H2:=Hd (Bx.ag HP8.o h1.ch qa);clear h1 zB z0 o0 o1 o2 o3 o4 o5 o6 o7 o8 o9 o10 o11;go_wp2_with fail
  go_end0
  exact⟨rfl,p,H1.o,H2.o⟩
theorem LY(y:zb)(kq:c.buf=some y)(hh:c.a.h=y.h)(rh:Int)(p:Nat)(w:qo)(h:bt w K c)(hp:Bx w p 39 (pV K.cb)):
 eN (GU p) #[ql #[U Z 0,U Z rh]] w fun J=>bt J K (({c with buf:=none}:CS).fin 0 0 ⟨#[]⟩)∧Ch [K.cb,K.bb] w J:=by
 obtain⟨wA,a,hA,ha,h1,hb,l1⟩:=aD w (qn #[U Z 0,U Z rh] 279);have HB:=Hd hb;have HL:=Hd l1;have HH:=Hd h;have fM:=Hd (h.grow hb);have HP:=Hd (hp.grow hb);have HX:=Hd h1;clear h hp h1 hb l1;show qw qx 194 #[ql #[U Z 0,U Z rh],pV p] w _;go_enter func194,ntmps194;go_wp2_with fail
 clear hA ha
 have eO:qy (∀X,Ch [K.bb] wA X→X.cell? ⟨p,0,none⟩=some (pV K.cb)∧X.cell? ⟨K.cb,5,none⟩=some (pV K.bb)∧X.cell? ⟨K.cb,20,none⟩=some (U Z c.a.h)):=Hd fun X hX=>by
  obtain⟨b0,n0,b1,n1,b2,n2,hr,dx⟩:=fM.o.row;have hh:=hX.heap hr (by have:=fM.o.oI.1;simpa using this);exact⟨(Bx.ag HP.o hX qa).cell,ar hh 5 _ rfl,ar hh 20 _ rfl⟩
 have au:qy (Ch [K.bb] wA wA.drew):=Hd (Ch.refl _ _).drew;have FR:qy (fG wA.drew K.bb (some y)):=Hd (kq▸fM.o.bf.ag (M:=[]) (Ch.refl _ _).drew qc);refine aB 10 10 (fun X=>Ch [K.bb] wA X) qd rfl ?_;generalize wA.drew=W0 at au FR⊢;refine tN 0 3 ?_ au.o ?_ (tN 1 4 ?_ au.o ?_ (tN 2 5 ?_ au.o ?_ (tN 3 6 ?_ au.o ?_ (tN 4 7 ?_ au.o ?_ (tN 5 8 ?_ au.o ?_ (tN 6 9 ?_ au.o ?_ (tN 7 10 ?_ au.o ?_ (tN 8 11 ?_ au.o ?_ ?_))))))))
 iterate 9
  rotate_left
  ·intro wq hq;obtain⟨z0,z1,z2⟩:=eO.o wq hq;exact bJ
 simp only[pS,aS,sZ,sS];refine ay 9 qd rfl rfl (al (some 12) (f:=195) (args:=#[pV K.bb,U Z c.a.h]) rfl qf (fun v X=>v=qk true∧fG X K.bb none∧Ch [K.bb] W0 X) ((Qh K.bb y c.a.h hh W0 FR.o).mono fun e J ⟨h1,h2⟩=>⟨_,h1,rfl,h2⟩) ?_);rintro v w2⟨rfl,h1,h2⟩;have dD:=Hd (au.o.aq h2);have Bc:qy (bt w2 K {c with buf:=none}):=Hd (fM.o.QW dD.o h1);have aF:=Hd (dD.o.heap HX.o (by have:=HH.o.lt K.bb (by simp[CK.soft]);have:=HL.o;simp;omega));have iC:=Hd (Bx.ag HP.o dD.o qa);clear h1 h2;refine⟨fun _=>dD.o,?_⟩;simp only[pS,aS,sZ,sS];refine aU qd ?_;obtain⟨x0,x1⟩:=cp aF.o;have z0:=iC.o.cell;clear eO au FR
 go_wp2_with fail
 refine(LW (c:={c with buf:=none}) rfl w2 Bc.o).mono ?_;rintro e w3⟨rfl,h1,h2⟩;have H1:=Hd h1;have H2:qy (Ch [K.cb,K.bb] w w3):=Hd ((Ch.pre HB.o (dD.o.mono qc)).aq (h2.mono qc));clear h1 h2;go_wp2_with fail
 go_end0
 exact⟨rfl,H1.o,H2.o⟩
def ZX(k tick tk:Int):Int:=if k=11 then tick+1000 else if k=12 then tick else tk
abbrev yI(c:CS)(tick:Int):Rec:={c.a.o with cl:=c.id,sq:=c.sq,tk:=ZX c.a.o.k tick c.a.o.tk}
theorem fW(r:Rec)(hm:r.m=[])(jZ:Fit r)(hg:OpP.ck r=true)(w:qo)(hf:Fl w):qw qx 173 #[ql (Jh r)] w fun e J=>e=qm (qk true)∧qz w.heap.size w J:=by
 refine(OpW.cG r jZ none 0 0 (by rw[hm];rfl) w hf (by rw[hm];exact eW.nil w none)).mono ?_;rintro e J⟨rfl,hb⟩;rw[hg];exact⟨rfl,hb⟩
theorem ZY(tick:Int)(BG:0≤tick∧tick≤1000000000)(hm:(yI c tick).m=[])(oQ:c.mv=qh none 0 0)(jZ:Fit (yI c tick))(hg:OpP.ck (yI c tick)=true)(hk:c.a.o.k=11∨c.a.o.k=12∨1≤c.a.o.k∧c.a.o.k≤9)(hs:(OpW.encS (yI c tick)).size≤4096)
 (ve:0≤c.sq∧c.sq≤4294967296) (w:qo) (hf:Fl w) (hK: ∀x∈K.soft,10≤x) (h:bt w K c):
 qw qx 127 #[pV K.cb,U Z tick] w fun e J=>e=qm (qj #[])∧ ∃p,ko w J K c (yI c tick) (yH p)∧Bx J p 39 (pV K.cb):=by
 have HM:=Hd hm;have MP:=Hd jZ;have HG:=Hd hg;have sR:=Hd hs;have HH:=Hd h;obtain⟨wA,p,hA,hp,h1,hb,l1⟩:=aD w (qn #[pV K.cb] 39);have HB:=Hd hb;have HP:=Hd h1;have fM:=Hd (h.grow hb);have ZT:=Hd (hf.ag hb);have z0:=Bx.cell h1;obtain⟨b0,n0,b1,n1,b2,n2,hr,dx⟩:=fM.o.row;have o0:=ar hr 7 _ rfl;have o1:=ar hr 8 _ rfl;have o2:=ar hr 9 _ rfl;have o3:=ar hr 10 _ rfl;have o4:=ar hr 11 _ rfl;have o5:=ar hr 12 _ rfl;have o6:=ar hr 13 _ rfl;have o7:=ar hr 14 _ rfl;have o8:=ar hr 15 _ rfl;have o9:=ar hr 16 _ rfl;have o10:=ar hr 17 _ rfl
 have o11:wA.cell? ⟨K.cb,18,none⟩=some (qh none 0 0):=by rw[ar hr 18 _ rfl];exact qX some oQ
 clear h hm jZ hg hs hf h1 hb l1 hr dx oQ;go_enter func127,ntmps127;go_wp2_with fail
 have HO1:qy ((wA.alloc (qn (ju c.a.o.cl c.a.o.sq c.a.o.k c.a.o.p c.a.o.t c.a.o.sz c.a.o.h c.a.o.o c.a.o.d c.a.o.tk c.a.o.i (qh none 0 0)) 61)).heap[wA.heap.size]? =some (qn (ju c.a.o.cl c.a.o.sq c.a.o.k c.a.o.p c.a.o.t c.a.o.sz c.a.o.h c.a.o.o c.a.o.d c.a.o.tk c.a.o.i (qh none 0 0)) 61 (0,0))∧wA.heap.size≤wA.heap.size):=Hd ⟨qA _ _,Nat.le_refl _⟩;have dZ:qy (Ch [] wA (wA.alloc (qn (ju c.a.o.cl c.a.o.sq c.a.o.k c.a.o.p c.a.o.t c.a.o.sz c.a.o.h c.a.o.o c.a.o.d c.a.o.tk c.a.o.i (qh none 0 0)) 61))):=Hd ((Ch.refl _ _).alloc _);clear hA hp o0 o1 o2 o3 o4 o5 o6 o7 o8 o9 o10 o11
 generalize wA.alloc (qn (ju c.a.o.cl c.a.o.sq c.a.o.k c.a.o.p c.a.o.t c.a.o.sz c.a.o.h c.a.o.o c.a.o.d c.a.o.tk c.a.o.i (qh none 0 0)) 61)=wB at HO1 dZ⊢;obtain⟨ob,rC⟩: ∃ob,wA.heap.size=ob∧wA.heap.size≤ob:=⟨_,rfl,Nat.le_refl _⟩;have EJ:=Hd rC.2;have kN:qy (wB.heap[ob]? =some (qn (ju c.a.o.cl c.a.o.sq c.a.o.k c.a.o.p c.a.o.t c.a.o.sz c.a.o.h c.a.o.o c.a.o.d c.a.o.tk c.a.o.i (qh none 0 0)) 61 (0,0))):=Hd (rC.1▸HO1.o.1);rw[rC.1];clear rC HO1
 have eO:qy (∀X,Ch [] wA X→X.cell? ⟨p,0,none⟩=some (pV K.cb)∧X.cell? ⟨K.cb,0,none⟩=some (U Z c.id)∧X.cell? ⟨K.cb,1,none⟩=some (U Z c.sq)):=Hd fun X hX=>by
  obtain⟨b0,n0,b1,n1,b2,n2,hr,dx⟩:=fM.o.row;have hh:=hX.heap hr qc;exact⟨(Bx.ag HP.o hX qa).cell,ar hh 0 _ rfl,ar hh 1 _ rfl⟩
 have au:qy (Ch [] wA wB.drew):=Hd dZ.o.drew;have ZZ:qy (wB.drew.heap[ob]? =some (qn (ju c.a.o.cl c.a.o.sq c.a.o.k c.a.o.p c.a.o.t c.a.o.sz c.a.o.h c.a.o.o c.a.o.d c.a.o.tk c.a.o.i (qh none 0 0)) 61 (0,0))):=Hd kN.o;clear kN dZ;refine aB 12 12 (fun X=>Ch [] wA X) qd rfl ?_;generalize wB.drew=W0 at au ZZ⊢;refine tN 0 11 ?_ au.o ?_ (tN 1 12 ?_ au.o ?_ (tN 2 13 ?_ au.o ?_ (tN 3 14 ?_ au.o ?_ (tN 4 15 ?_ au.o ?_ (tN 5 16 ?_ au.o ?_ (tN 6 17 ?_ au.o ?_ (tN 7 18 ?_ au.o ?_ (tN 8 19 ?_ au.o ?_ ?_))))))))
 iterate 9
  rotate_left
  ·intro wq hq;obtain⟨q0,q1,q2⟩:=eO.o wq hq;exact bJ
 simp only[pS,aS,sZ,sS];have eP:qy (Ch [] wA (W0.setCell ⟨ob,0,none⟩ (U Z c.id))):=Hd (au.o.set 0 _ (.inr EJ.o) (fun _ _ _ _=> .inr EJ.o));have mx:qy ((W0.setCell ⟨ob,0,none⟩ (U Z c.id)).heap[ob]? =some (qn (ju c.id c.a.o.sq c.a.o.k c.a.o.p c.a.o.t c.a.o.sz c.a.o.h c.a.o.o c.a.o.d c.a.o.tk c.a.o.i (qh none 0 0)) 61 (0,0))):=Hd ((av ZZ.o _).trans rfl);obtain⟨cx,ex⟩:=aC ZZ.o 0 qc;simp only[gA,gZ,gS]at cx;refine ay 9 qd rfl rfl (bm none (J:=W0.setCell ⟨ob,0,none⟩ (U Z c.id)) rfl qf ⟨fun _=>eP.o,?_⟩);simp only[Act.put,aS,sZ,sS];clear cx ex au ZZ
 generalize W0.setCell ⟨ob,0,none⟩ (U Z c.id)=W1 at eP mx⊢;refine tN 10 20 ?_ eP.o ?_ ?_;rotate_left
 ·intro wq hq;exact bJ
 simp only[pS,aS,sZ,sS];have cA:qy (Ch [] wA (W1.setCell ⟨ob,1,none⟩ (U Z c.sq))):=Hd (eP.o.set 1 _ (.inr EJ.o) (fun _ _ _ _=> .inr EJ.o));have gH:qy ((W1.setCell ⟨ob,1,none⟩ (U Z c.sq)).heap[ob]? =some (qn (ju c.id c.sq c.a.o.k c.a.o.p c.a.o.t c.a.o.sz c.a.o.h c.a.o.o c.a.o.d c.a.o.tk c.a.o.i (qh none 0 0)) 61 (0,0))):=Hd ((av mx.o _).trans rfl);obtain⟨cx,ex⟩:=aC mx.o 1 qc;simp only[gA,gZ,gS]at cx;refine ay 11 qd rfl rfl (bm none (J:=W1.setCell ⟨ob,1,none⟩ (U Z c.sq)) rfl qf ⟨fun _=>cA.o,?_⟩);simp only[Act.put,aS,sZ,sS];clear cx ex eP mx
 generalize W1.setCell ⟨ob,1,none⟩ (U Z c.sq)=W2 at cA gH⊢;refine aU qd ?_;clear z0 eO;have Bc:=Hd (fM.o.ag cA.o qc);have nz:=Hd (mD ZT.o cA.o qc);have iC:=Hd (Bx.ag HP.o cA.o qa);have z0:=iC.o.cell;obtain⟨o0,o1,o2,o3,o4,o5,o6,o7,o8,o9,o10,o11⟩:=bP gH.o;have zB: ∀(fn:Fn) (first cap:Array qp) (w:qo),(Instr.makeFunc fn first cap).run qx w= .ok (.func fn first cap) w:=fun _ _ _ _=>rfl;rcases hk with hk|hk|hk
 ·have HK:=Hd hk;have o2':W2.cell? ⟨ob,2,none⟩=some (U Z 11):=by rw[o2,hk]
  have e9:=cn gH.o 9;obtain⟨W3,hW3⟩: ∃x,W2.setCell ⟨ob,9,none⟩ (U Z (tick+1000))=x:=⟨_,rfl⟩;have br:qy (Ch [] wA W3):=Hd (by rw[←hW3];exact cA.o.set 9 _ (.inr EJ.o) (fun _ _ _ _=> .inr EJ.o));have eV:qy (W3.heap[ob]? =some (qn #[U Z c.id,U Z c.sq,U Z (11),qg c.a.o.p,qg c.a.o.t,U Z c.a.o.sz,U Z c.a.o.h,U Z c.a.o.o,qg c.a.o.d,U Z (tick+1000),U Z c.a.o.i,qh none 0 0] 61 (0,0))):=Hd (by rw[←hW3,←hk];exact(av gH.o _).trans rfl);have pD:=Hd (fM.o.ag br.o qc);have It:=Hd (mD ZT.o br.o qc);have uW:=Hd (Bx.ag HP.o br.o qa);have z2:=uW.o.cell;obtain⟨r0,r1,r2,r3,r4,r5,r6,r7,r8,r9,r10,r11⟩:=bP eV.o
  clear hk o2;have hwr:IntKind.i64.wrap (tick+1000)=tick+1000:=qO _ ⟨Y,Y⟩;have EK:Jh (yI c tick)=#[U Z c.id,U Z c.sq,U Z (11),qg c.a.o.p,qg c.a.o.t,U Z c.a.o.sz,U Z c.a.o.h,U Z c.a.o.o,qg c.a.o.d,U Z (tick+1000),U Z c.a.o.i,qh none 0 0]:=by simp[ZX,HK.o]
  have hG:=fW (yI c tick) HM.o MP.o HG.o W3 It.o;rw[EK]at hG;go_wp2_with fail
  refine hG.mono ?_;rintro e W4⟨rfl,hb4⟩;have mL:=Hd (pD.o.grow hb4);have LZ:=Hd (It.o.ag hb4);have pB:=Hd (uW.o.grow hb4);have QZ:=Hd (br.o.step hb4);have z1:=pB.o.cell;obtain⟨q0,q1,q2,q3,q4,q5,q6,q7,q8,q9,q10,q11⟩:=bP (ae hb4 eV.o);clear hG hb4;have hA:=kD (yI c tick) HM.o MP.o sR.o (yH p) ve W4 LZ.o hK mL.o;rw[EK]at hA;go_wp2_with fail
  refine hA.mono ?_;rintro e w9⟨rfl,h1⟩;have ZW:qy (qz w.heap.size w W4):=Hd ((Ch.pre HB.o QZ.o).below qc (Nat.le_refl _));have H1:qy (ko w w9 K c (yI c tick) (yH p)):=Hd (h1.pre ZW.o);have H2:=Hd (Bx.ag pB.o h1.ch qa);clear h1 hA;go_wp2_with fail
  go_end0
  exact⟨rfl,p,H1.o,H2.o⟩
 ·have HK:=Hd hk;have o2':W2.cell? ⟨ob,2,none⟩=some (U Z 12):=by rw[o2,hk]
  have e9:=cn gH.o 9;obtain⟨W3,hW3⟩: ∃x,W2.setCell ⟨ob,9,none⟩ (U Z (tick))=x:=⟨_,rfl⟩;have br:qy (Ch [] wA W3):=Hd (by rw[←hW3];exact cA.o.set 9 _ (.inr EJ.o) (fun _ _ _ _=> .inr EJ.o));have eV:qy (W3.heap[ob]? =some (qn #[U Z c.id,U Z c.sq,U Z (12),qg c.a.o.p,qg c.a.o.t,U Z c.a.o.sz,U Z c.a.o.h,U Z c.a.o.o,qg c.a.o.d,U Z (tick),U Z c.a.o.i,qh none 0 0] 61 (0,0))):=Hd (by rw[←hW3,←hk];exact(av gH.o _).trans rfl);have pD:=Hd (fM.o.ag br.o qc);have It:=Hd (mD ZT.o br.o qc);have uW:=Hd (Bx.ag HP.o br.o qa);have z2:=uW.o.cell;obtain⟨r0,r1,r2,r3,r4,r5,r6,r7,r8,r9,r10,r11⟩:=bP eV.o;clear hk o2
  have EK:Jh (yI c tick)=#[U Z c.id,U Z c.sq,U Z (12),qg c.a.o.p,qg c.a.o.t,U Z c.a.o.sz,U Z c.a.o.h,U Z c.a.o.o,qg c.a.o.d,U Z (tick),U Z c.a.o.i,qh none 0 0]:=by simp[ZX,HK.o]
  have hG:=fW (yI c tick) HM.o MP.o HG.o W3 It.o;rw[EK]at hG;go_wp2_with fail
  refine hG.mono ?_;rintro e W4⟨rfl,hb4⟩;have mL:=Hd (pD.o.grow hb4);have LZ:=Hd (It.o.ag hb4);have pB:=Hd (uW.o.grow hb4);have QZ:=Hd (br.o.step hb4);have z1:=pB.o.cell;obtain⟨q0,q1,q2,q3,q4,q5,q6,q7,q8,q9,q10,q11⟩:=bP (ae hb4 eV.o);clear hG hb4;have hA:=kD (yI c tick) HM.o MP.o sR.o (yH p) ve W4 LZ.o hK mL.o;rw[EK]at hA;go_wp2_with fail
  refine hA.mono ?_;rintro e w9⟨rfl,h1⟩;have ZW:qy (qz w.heap.size w W4):=Hd ((Ch.pre HB.o QZ.o).below qc (Nat.le_refl _));have H1:qy (ko w w9 K c (yI c tick) (yH p)):=Hd (h1.pre ZW.o);have H2:=Hd (Bx.ag pB.o h1.ch qa);clear h1 hA;go_wp2_with fail
  go_end0
  exact⟨rfl,p,H1.o,H2.o⟩
 ·have n1: ¬c.a.o.k=11:=by omega
  have n2: ¬c.a.o.k=12:=Y;have N1:=Hd n1;have N2:=Hd n2;have HK:qy (1=1):=Hd rfl;have k1:1≤c.a.o.k:=hk.1;have k2:c.a.o.k≤9:=hk.2;have b1:(c.a.o.k==11)=false:=by simp[n1]
  have b2:(c.a.o.k==12)=false:=by simp[n2]
  have br:=cA;have eV:=gH;have pD:=Bc;have It:=nz;have uW:=iC;clear n1 n2 hk;have EK:Jh (yI c tick)=#[U Z c.id,U Z c.sq,U Z (c.a.o.k),qg c.a.o.p,qg c.a.o.t,U Z c.a.o.sz,U Z c.a.o.h,U Z c.a.o.o,qg c.a.o.d,U Z (c.a.o.tk),U Z c.a.o.i,qh none 0 0]:=by simp[ZX,N1.o,N2.o]
  have hG:=fW (yI c tick) HM.o MP.o HG.o W2 It.o;rw[EK]at hG;go_wp2_with fail
  refine hG.mono ?_;rintro e W4⟨rfl,hb4⟩;have mL:=Hd (pD.o.grow hb4);have LZ:=Hd (It.o.ag hb4);have pB:=Hd (uW.o.grow hb4);have QZ:=Hd (br.o.step hb4);have z1:=pB.o.cell;obtain⟨q0,q1,q2,q3,q4,q5,q6,q7,q8,q9,q10,q11⟩:=bP (ae hb4 eV.o);clear hG hb4;have hA:=kD (yI c tick) HM.o MP.o sR.o (yH p) ve W4 LZ.o hK mL.o;rw[EK]at hA;go_wp2_with fail
  refine hA.mono ?_;rintro e w9⟨rfl,h1⟩;have ZW:qy (qz w.heap.size w W4):=Hd ((Ch.pre HB.o QZ.o).below qc (Nat.le_refl _));have H1:qy (ko w w9 K c (yI c tick) (yH p)):=Hd (h1.pre ZW.o);have H2:=Hd (Bx.ag pB.o h1.ch qa);clear h1 hA;go_wp2_with fail
  go_end0
  exact⟨rfl,p,H1.o,H2.o⟩
theorem Cl(v:qp)(w:qo):(method 723 gk v "Ask").run qx w= .ok (534,v) w:=qd
theorem yJ(v:qp)(w:qo):(method 723 gk v "Hear").run qx w= .ok (535,v) w:=qd
theorem aed(v:qp)(w:qo):(method 723 gk v "P").run qx w= .ok (536,v) w:=qd
theorem Jl(v:qp)(w:qo):(method 723 gm v "Ask").run qx w= .ok (539,v) w:=qd
theorem EL(v:qp)(w:qo):(method 723 gm v "Hear").run qx w= .ok (540,v) w:=qd
theorem aee(v:qp)(w:qo):(method 723 gm v "P").run qx w= .ok (541,v) w:=qd
theorem UU(v:qp)(w:qo):(method 723 iY v "Ask").run qx w= .ok (531,v) w:=qd
theorem Ra(v:qp)(w:qo):(method 723 iY v "Hear").run qx w= .ok (532,v) w:=qd
theorem aef(v:qp)(w:qo):(method 723 iY v "P").run qx w= .ok (533,v) w:=qd
theorem lA(T:qu)(g:Nat)(F:FuncId)(a0 a1 a2 a3 a4 a5:Int)(s:ByteArray)(hcur:c.cur= .iface T (pV g))(hmt: ∀(v:qp) (w:qo),(method 723 T v "Ask").run qx w= .ok (F,v) w)(CD: ∀(args:Array qp) (W:qo),(callFunc F args).run qx W= .ok (.enter F args) W)
 (w:qo) (h:bt w K c) (HA: ∀w1,qz w.heap.size w w1→qw qx F #[pV g] w1 fun e w2=>e=qm (qj #[ql (bF a0 a1 a2 a3 a4 a5 s),qk true])∧qz w1.heap.size w1 w2):
 qw qx 84 #[pV K.cb] w fun e J=>e=qm (qj #[ql (bF a0 a1 a2 a3 a4 a5 s),qk true])∧qz w.heap.size w J:=by
 have HH:=Hd h;obtain⟨wA,p,hA,hp,h1,hb,l1⟩:=aD w (qn (bF 0 0 0 0 0 0 ⟨#[]⟩) 129);have HB:=Hd hb;have HX:=Hd h1;have l2:=l1;have fM:=Hd (h.grow hb);obtain⟨b0,n0,b1,n1,b2,n2,hr,dx⟩:=fM.o.row;have c26:wA.cell? ⟨K.cb,26,none⟩=some (.iface T (pV g)):=by rw[ar hr 26 _ rfl];exact qX some hcur
 clear h h1 hb l1 hr dx hcur;go_enter func84,ntmps84;go_wp2_with fail
 refine(HA wA HB.o).mono ?_;rintro e w2⟨rfl,hb2⟩;have az:=Hd (ai HB.o hb2);have aF:=Hd (ae hb2 HX.o);clear hb2 hA hp c26;go_wp2_with(refine qE rfl 129 (Operand.tmp 2) _ rfl p _ rfl rfl 129 _ aF.o fC rfl (by simp[Value.oneCell']) ?_)
 try simp only[Act.put]
 refine aY rfl rfl rfl (qJ _ _ _ _ _ _ aF.o) underlying129 rfl fC ?_;exact⟨rfl,aj az.o l2 _⟩
def Rb:qp→Nat
 |qi _=>0
 |_=>1
theorem Cm(v:qp)(w:qo):(Instr.typeAssert (.iface gk v) 77 gk true).run qx w= .ok (qj #[v,qk true]) w:=qd
theorem GV(v:qp)(w:qo):(Instr.typeAssert (.iface gm v) 77 gk true).run qx w= .ok (qj #[qi none,qk false]) w:=qd
theorem Cn(v:qp)(w:qo):(Instr.typeAssert (.iface gm v) 77 gm true).run qx w= .ok (qj #[v,qk true]) w:=qd
theorem Co(v:qp)(w:qo):(Instr.typeAssert (.iface iY v) 77 gk true).run qx w= .ok (qj #[qi none,qk false]) w:=qd
theorem vx(v:qp)(w:qo):(Instr.typeAssert (.iface iY v) 77 gm true).run qx w= .ok (qj #[qi none,qk false]) w:=qd
theorem vy(v:qp)(w:qo):(Instr.typeAssert (.iface iY v) 77 iY true).run qx w= .ok (qj #[v,qk true]) w:=qd
theorem aaa(T:qu)(hT:T=gk∨T=gm∨T=iY)(v:qp)(w:qo):(Instr.typeAssert (.iface T v) 77 336 true).run qx w= .ok (qj #[.iface T v,qk true]) w:=by
 rcases hT with rfl|rfl|rfl<;>kernel_rfl
theorem Rc(hcur:c.cur= .nilIface)(w:qo)(h:bt w K c):
 qw qx 137 #[pV K.cb] w fun e J=>e=qm (qj #[])∧qz w.heap.size w J:=by
 obtain⟨b0,n0,b1,n1,b2,n2,hr,dx⟩:=h.row;have c26:w.cell? ⟨K.cb,26,none⟩=some .nilIface:=by rw[ar hr 26 _ rfl];exact qX some hcur
 clear h hr dx hcur;go_enter func137,ntmps137;go_wp2_with fail
 go_step3
 go_wp2_with fail
 go_step3
 go_wp2_with fail
 go_loopw [2] (fun s wr=>s=undef∧w=wr) (fun _ _=>0)
 case atStart=>exact⟨rfl,rfl⟩
 case round=>
  obtain⟨rfl,rfl⟩:=hrel;go_wp2_with fail
  rw[xu]
  go_end0
  exact⟨rfl,Below.refl _ _⟩
theorem kO(ab:Nat)(rec:ByteArray)(at' i a:Int)(ph:Bool)(je:at'≠5)(hcur:c.cur= .iface gk (pV ab))(w:qo)(h:bt w K c)(ho:ij w ab rec at' i a ph):
 qw qx 137 #[pV K.cb] w fun e J=>e=qm (qj #[])∧qz w.heap.size w J:=by
 obtain⟨b0,n0,b1,n1,b2,n2,hr,dx⟩:=h.row;have c26:w.cell? ⟨K.cb,26,none⟩=some (.iface gk (pV ab)):=by rw[ar hr 26 _ rfl];exact qX some hcur
 have nh:=Hd je;have HO:=Hd ho;have r0:=Cm;clear h hr dx hcur je ho;go_enter func137,ntmps137;go_wp2_with fail
 go_step3
 go_wp2_with fail
 go_step3
 go_wp2_with fail
 go_loopw [2] (fun s wr=>s=undef∧w=wr) (fun _ _=>0)
 case atStart=>exact⟨rfl,rfl⟩
 case round=>
  obtain⟨rfl,rfl⟩:=hrel;obtain⟨wA,p,hA,hp,h1,hb,l1⟩:=aD w (qn (nQ 0 0 ⟨#[]⟩) 286);have HB:=Hd hb;have HX:=Hd h1;have HL:=Hd l1;have d26:=ah hb c26;clear h1 hb l1;go_wp2_with fail
  refine(sA ab rec at' i a ph false (by have:=nh.o;simp[this]) wA (HO.o.ag (M:=[]) (Ch.af HB.o) qc)).mono ?_;rintro e w2⟨rfl,hb2⟩;have az:=Hd (ai HB.o hb2);have aF:=Hd (ae hb2 HX.o);have f0:=aJ aF.o 0;have f1:=aJ aF.o 1;have f2:=aJ aF.o 2;have f3:=aJ aF.o 3;have e0:=cn aF.o 0;have e1:=cn aF.o 1;have e2:=cn aF.o 2;have e3:=cn aF.o 3;simp only[gA,gZ,gS]at f0 f1 f2 f3;clear hb2 hA hp c26 d26;go_wp2_with fail
  rw[xu]
  go_end0
  have hle:w.heap.size≤p:=HL.o;refine⟨rfl,?_⟩;have hS:=((Ch.af (M:=[]) az.o));exact((hS.set (b:=p) 0 (U Z 0) (.inr hle) (fun _ _ _ _=> .inr hle)).set (b:=p) 3 (U Z 0) (.inr hle) (fun _ _ _ _=> .inr hle)).below qc (Nat.le_refl _)
theorem zK(ab:Nat)(at' a:Int)(je:at'≠2)(hcur:c.cur= .iface iY (pV ab))(w:qo)(h:bt w K c)(ho:mh w ab at' a):
 qw qx 137 #[pV K.cb] w fun e J=>e=qm (qj #[])∧qz w.heap.size w J:=by
 obtain⟨b0,n0,b1,n1,b2,n2,hr,dx⟩:=h.row;have c26:w.cell? ⟨K.cb,26,none⟩=some (.iface iY (pV ab)):=by rw[ar hr 26 _ rfl];exact qX some hcur
 have nh:=Hd je;have HO:=Hd ho;have r0:=Co;have r1:=vx;have r2:=vy;clear h hr dx hcur je ho;go_enter func137,ntmps137;go_wp2_with fail
 go_step3
 go_wp2_with fail
 go_step3
 go_wp2_with fail
 go_loopw [2] (fun s wr=>s=undef∧w=wr) (fun _ _=>0)
 case atStart=>exact⟨rfl,rfl⟩
 case round=>
  obtain⟨rfl,rfl⟩:=hrel;obtain⟨wA,p,hA,hp,h1,hb,l1⟩:=aD w (qn (nQ 0 0 ⟨#[]⟩) 286);have HB:=Hd hb;have HX:=Hd h1;have HL:=Hd l1;have d26:=ah hb c26;clear h1 hb l1;go_wp2_with fail
  refine(sB ab at' a false (by have:=nh.o;simp[this]) wA (HO.o.ag (M:=[]) (Ch.af HB.o) qc)).mono ?_;rintro e w2⟨rfl,hb2⟩;have az:=Hd (ai HB.o hb2);have aF:=Hd (ae hb2 HX.o);have f0:=aJ aF.o 0;have f1:=aJ aF.o 1;have f2:=aJ aF.o 2;have f3:=aJ aF.o 3;have e0:=cn aF.o 0;have e1:=cn aF.o 1;have e2:=cn aF.o 2;have e3:=cn aF.o 3;simp only[gA,gZ,gS]at f0 f1 f2 f3;clear hb2 hA hp c26 d26;go_wp2_with fail
  rw[xu]
  go_end0
  have hle:w.heap.size≤p:=HL.o;refine⟨rfl,?_⟩;have hS:=((Ch.af (M:=[]) az.o));exact((hS.set (b:=p) 0 (U Z 0) (.inr hle) (fun _ _ _ _=> .inr hle)).set (b:=p) 3 (U Z 0) (.inr hle) (fun _ _ _ _=> .inr hle)).below qc (Nat.le_refl _)
def Idle(w:qo)(cur:qp):Prop:=cur= .nilIface∨(∃ab rec at' i a ph,at'≠5∧cur= .iface gk (pV ab)∧ij w ab rec at' i a ph)∨(∃ab a fill at' kind s,at'≠6∧cur= .iface gm (pV ab)∧jt w ab a fill at' kind s)∨(∃ab at' a,at'≠2∧cur= .iface iY (pV ab)∧mh w ab at' a)
theorem GW(b0 n0 b1 n1:Nat):((rp K b0 n0 c).setIfInBounds 2 (U Z 0)).setIfInBounds 3 (qh (some ⟨b1,0,none⟩) 2 n1)=rp K b1 n1 c:=by
 simp only[aS,sZ,sS]
set_option maxHeartbeats 6400000 in
theorem zL(t:iI)(ht:t.ok)(Fv:c.th=t.v)(ab:Nat)(rec:ByteArray)(i a:Int)(ph:Bool)(hcur:c.cur= .iface gk (pV ab))(w:qo)(Q:qo→Prop)(h:bt w K c)(ho:ij w ab rec 5 i a ph)
 (HT: ∀w1,bt w1 K {c with cur:= .nilIface}→Ch [K.cb] w w1→eN t #[ql (nQ a 0 ⟨#[]⟩)] w1 Q)
 (hI: ∀J,Q J→ ∃c',bt J K c'∧Idle J c'.cur) (hQB: ∀J w'',Q J→qz J.heap.size J w''→Q w''):
 qw qx 137 #[pV K.cb] w fun e J=>e=qm (qj #[])∧Q J:=by
 have HH:=Hd h;have HO:=Hd ho;have HT':=Hd HT;have HI:=Hd hI;have Re:=Hd hQB;have Xh:=Hd Fv;have oU:=Hd hcur;have CD: ∀(args:Array qp) (W:qo),(callFunc t.F args).run qx W= .ok (.enter t.F args) W:=ht;have r0:=Cm;have r1:=GV;have r2:=Cn;have r3:=Co;have r4:=vx;have r5:=vy;have r6:=aaa gk qc;have r7:=aed;clear h ho HT hI hQB Fv hcur ht;go_enter func137,ntmps137;go_wp2_with fail
 go_step3
 go_wp2_with fail
 go_step3
 go_wp2_with fail
 go_loopw [2] (fun s wr=>(s=undef∧w=wr)∨((∃b,s=pV b)∧Q wr)) (fun s _=>Rb s)
 case atStart=>exact .inl ⟨rfl,rfl⟩
 case round=>
  rcases hrel with⟨rfl,rfl⟩|⟨⟨b,rfl⟩,hq⟩
  ·obtain⟨b0,n0,b1,n1,b2,n2,hr,dx⟩:=HH.o.row;have c26:w.cell? ⟨K.cb,26,none⟩=some (.iface gk (pV ab)):=by rw[ar hr 26 _ rfl];exact qX some oU.o
   obtain⟨wA,p,hA,hp,h1,hb,l1⟩:=aD w (qn (nQ 0 0 ⟨#[]⟩) 286);have HB:=Hd hb;have HX:=Hd h1;have HL:=Hd l1;have d26:=ah hb c26;clear h1 hb l1 hr dx;go_wp2_with fail
   refine(sA ab rec 5 i a ph true qc wA (HO.o.ag (M:=[]) (Ch.af HB.o) qc)).mono ?_;rintro e w2⟨rfl,hb2⟩;have az:=Hd (ai HB.o hb2);have aF:=Hd (ae hb2 HX.o);have f0:=aJ aF.o 0;have f1:=aJ aF.o 1;have f2:=aJ aF.o 2;have f3:=aJ aF.o 3;have e0:=cn aF.o 0;have e1:=cn aF.o 1;have e2:=cn aF.o 2;have e3:=cn aF.o 3;simp only[gA,gZ,gS]at f0 f1 f2 f3;have hle:w.heap.size≤p:=HL.o;obtain⟨wf,IX⟩: ∃x,((w2.setCell ⟨p,0,none⟩ (U Z a)).setCell ⟨p,3,none⟩ (U Z 0))=x:=⟨_,rfl⟩
   have yK:qy (Ch [] w wf):=Hd (by rw[←IX];exact(((Ch.af (M:=[]) az.o).set (b:=p) 0 (U Z a) (.inr hle) (fun _ _ _ _=> .inr hle)).set (b:=p) 3 (U Z 0) (.inr hle) (fun _ _ _ _=> .inr hle)));have Zu:qy (wf.heap[p]? =some (qn (nQ a 0 ⟨#[]⟩) 286 (0,0))):=Hd (by rw[←IX];exact((av (i:=3) (av (i:=0) aF.o (U Z a)) (U Z 0))).trans rfl);have Xi:=Hd (HH.o.ag yK.o qc);obtain⟨b0,n0,b1,n1,b2,n2,hr,dx⟩:=Xi.o.row;have g26:wf.cell? ⟨K.cb,26,none⟩=some (.iface gk (pV ab)):=by rw[ar hr 26 _ rfl];exact qX some oU.o
   clear hb2 hA hp c26 d26 dx hr;go_wp2_with fail
   refine(agS ab rec 5 i a ph wf (HO.o.ag yK.o qc)).mono ?_;rintro e w5⟨q0,m0,q1,m1,q2,m2,rfl,dx,hlq,hb5⟩;have dP:=Hd (yK.o.step hb5);have yB:=Hd (ae hb5 Zu.o);have Rf:=Hd (Xi.o.grow hb5);have Rg:=Hd dx;clear hlq hb5 dx g26 f0 f1 f2 f3 e0 e1 e2 e3;clear IX;obtain⟨b0,n0,b1,n1,b2,n2,hr,dx⟩:=Rf.o.row;have i2:=ar hr 2 _ rfl;have i3:=ar hr 3 _ rfl;have i26:w5.cell? ⟨K.cb,26,none⟩=some (.iface gk (pV ab)):=by rw[ar hr 26 _ rfl];exact qX some oU.o
   have k2:=cn hr 2;have k3:=cn hr 3;have k26:=cn hr 26;have R1:=av (i:=2) hr (U Z 0);have R2:=av (i:=3) R1 (qh (some ⟨q0,0,none⟩) 2 m0);have R3:=av (i:=26) R2 .nilIface;obtain⟨w6,h6⟩: ∃x,((w5.setCell ⟨K.cb,2,none⟩ (U Z 0)).setCell ⟨K.cb,3,none⟩ (qh (some ⟨q0,0,none⟩) 2 m0)).setCell ⟨K.cb,26,none⟩ .nilIface=x:=⟨_,rfl⟩;have ee:qy (Ch [K.cb] w5 w6):=Hd (by rw[←h6];exact((Ch.dn hr qa 2 _).aq (Ch.dn R1 qa 3 _)).aq (Ch.dn R2 qa 26 _));have tW:qy (w6.heap[K.cb]? =some (qn (rp K q0 m0 {c with cur:= .nilIface}) 80 (0,0))):=Hd (by rw[←h6,R3,GW];rfl)
   have UW:qy (bt w6 K {c with cur:= .nilIface}):=Hd (Rf.o.oX ee.o ⟨q0,m0,q1,m1,q2,m2,tW.o,Rg.o.ag ee.o⟩ rfl rfl);have vp:=Hd (ee.o.heap yB.o (by have:=HH.o.lt K.cb (by simp[CK.soft]);simp;omega));have vA:qy (Ch [K.cb] w w6):=Hd ((dP.o.mono qc).aq ee.o);clear hr dx R1 R2 R3;go_wp2_with fail
   clear i2 i3 i26 k2 k3 k26 h6
   have th0:w6.drew.cell? ⟨K.cb,27,none⟩=some (.func (.func t.F) #[] t.cap):=by
    have:=ar tW.o 27 _ rfl;rw[show(w6.drew).cell? ⟨K.cb,27,none⟩=w6.cell? ⟨K.cb,27,none⟩from rfl,this];exact qX some Xh.o
   have Fw:qy (w6.drew.heap[p]? =some (qn (nQ a 0 ⟨#[]⟩) 286 (0,0))):=Hd vp.o;have ki:qy (bt w6.drew K {c with cur:= .nilIface}):=Hd (UW.o.ag (M:=[]) (Ch.refl _ _).drew qc);have mO:qy (Ch [K.cb] w w6.drew):=Hd vA.o.drew;refine aB 5 6 (fun X=>X=w6.drew) qd rfl ?_;generalize w6.drew=W7 at th0 Fw ki mO⊢;have HEQ:qy (W7=W7):=Hd rfl;obtain⟨x0,x1,x2,x3,x4,x5,x6,x7,x8,x9,x10,x11⟩:=bP Fw.o;refine tL 4 89 ?_ HEQ.o ?_ ?_;rotate_left
   ·intro wq hq;subst hq;exact bJ
   simp only[pS,aS,sZ,sS];refine ay 0 qd rfl rfl (aw (some 85) (v:=pV K.cb) (J:=W7) rfl qf ⟨fun _=>rfl,?_⟩);simp only[pS,aS,sZ,sS];refine ay 1 qd rfl rfl (aw (some 86) (v:=pV K.cb) (J:=W7) rfl qf ⟨fun _=>rfl,?_⟩);simp only[pS,aS,sZ,sS];refine ay 2 qd rfl rfl (aw (some 87) (v:=qi (some ⟨K.cb,27,none⟩)) (J:=W7) rfl qf ⟨fun _=>rfl,?_⟩);simp only[pS,aS,sZ,sS];refine ay 3 qd rfl rfl (aw (some 88) (v:= .func (.func t.F) #[] t.cap) (J:=W7) rfl qf ⟨fun _=>rfl,?_⟩);simp only[pS,aS,sZ,sS];refine ay 5 qd rfl rfl ?_
   refine al (some 90) (f:=t.F) (args:=#[ql (nQ a 0 ⟨#[]⟩)]++t.cap) rfl ?_ (fun v X=>Q X) ?_ ?_
   ·go_simp
   ·have hT:=HT'.o W7 ki.o mO.o;unfold eN at hT;exact hT.mono fun e J h=>⟨_,h.1,h.2⟩
   rintro v w8 hq8;have HQ8:=Hd hq8;clear hq8 x0 x1 x2 x3 x4 x5 x6 x7 x8 x9 x10 x11 th0;refine⟨fun h=>qZ rfl h,?_⟩;simp only[pS,aS,sZ,sS];refine aU qd ?_;go_wp2_with fail
   exact⟨.inr ⟨⟨p,rfl⟩,HQ8.o⟩,xH (show(0:Nat)<1 by decide) (Nat.le_refl _)⟩
  ·have HQ:=Hd hq;obtain⟨c',hc',hi⟩:=HI.o wr hq;clear hq r6 r7 HH HO HT' Xh oU HI CD;rcases hi with hcur|⟨ab,rec,at',i,a,ph,je,hcur,ho⟩|⟨ab,a,fill,at',kind,s,je,hcur,ho⟩|⟨ab,at',a,je,hcur,ho⟩
   ·obtain⟨b0,n0,b1,n1,b2,n2,hr,dx⟩:=hc'.row;have c26:wr.cell? ⟨K.cb,26,none⟩=some .nilIface:=by rw[ar hr 26 _ rfl];exact qX some hcur
    clear hr dx hcur hc';go_wp2_with fail
    rw[xu]
    go_end0
    exact⟨rfl,HQ.o⟩
   ·obtain⟨b0,n0,b1,n1,b2,n2,hr,dx⟩:=hc'.row;have c26:wr.cell? ⟨K.cb,26,none⟩=some (.iface gk (pV ab)):=by rw[ar hr 26 _ rfl];exact qX some hcur
    have nh:=Hd je;have HO:=Hd ho;clear hr dx hcur hc' je ho;obtain⟨wA,p,hA,hp,h1,hb,l1⟩:=aD wr (qn (nQ 0 0 ⟨#[]⟩) 286);have HB:=Hd hb;have HX:=Hd h1;have HL:=Hd l1;have d26:=ah hb c26;clear h1 hb l1;go_wp2_with fail
    refine(sA ab rec at' i a ph false (by have:=nh.o;simp[this]) wA (HO.o.ag (M:=[]) (Ch.af HB.o) qc)).mono ?_;rintro e w2⟨rfl,hb2⟩;have az:=Hd (ai HB.o hb2);have aF:=Hd (ae hb2 HX.o);have f0:=aJ aF.o 0;have f1:=aJ aF.o 1;have f2:=aJ aF.o 2;have f3:=aJ aF.o 3;have e0:=cn aF.o 0;have e1:=cn aF.o 1;have e2:=cn aF.o 2;have e3:=cn aF.o 3;simp only[gA,gZ,gS]at f0 f1 f2 f3;clear hb2 hA hp c26 d26;go_wp2_with fail
    rw[xu]
    go_end0
    have hle:wr.heap.size≤p:=HL.o;have hS:=((Ch.af (M:=[]) az.o));exact⟨rfl,Re.o _ _ HQ.o (((hS.set (b:=p) 0 (U Z 0) (.inr hle) (fun _ _ _ _=> .inr hle)).set (b:=p) 3 (U Z 0) (.inr hle) (fun _ _ _ _=> .inr hle)).below qc (Nat.le_refl _))⟩
   ·obtain⟨b0,n0,b1,n1,b2,n2,hr,dx⟩:=hc'.row;have c26:wr.cell? ⟨K.cb,26,none⟩=some (.iface gm (pV ab)):=by rw[ar hr 26 _ rfl];exact qX some hcur
    have nh:=Hd je;have HO:=Hd ho;clear hr dx hcur hc' je ho;obtain⟨wA,p,hA,hp,h1,hb,l1⟩:=aD wr (qn (nQ 0 0 ⟨#[]⟩) 286);have HB:=Hd hb;have HX:=Hd h1;have HL:=Hd l1;have d26:=ah hb c26;clear h1 hb l1;go_wp2_with fail
    refine(vo ab a fill at' kind s false (by have:=nh.o;simp[this]) wA (HO.o.ag (M:=[]) (Ch.af HB.o) qc)).mono ?_;rintro e w2⟨rfl,hb2⟩;have az:=Hd (ai HB.o hb2);have aF:=Hd (ae hb2 HX.o);have f0:=aJ aF.o 0;have f1:=aJ aF.o 1;have f2:=aJ aF.o 2;have f3:=aJ aF.o 3;have e0:=cn aF.o 0;have e1:=cn aF.o 1;have e2:=cn aF.o 2;have e3:=cn aF.o 3;simp only[gA,gZ,gS]at f0 f1 f2 f3;clear hb2 hA hp c26 d26;go_wp2_with fail
    rw[xu]
    go_end0
    have hle:wr.heap.size≤p:=HL.o;have hS:=((Ch.af (M:=[]) az.o));exact⟨rfl,Re.o _ _ HQ.o ((((hS.set (b:=p) 1 (U Z 0) (.inr hle) (fun _ _ _ _=> .inr hle)).set (b:=p) 2 (qg ⟨#[]⟩) (.inr hle) (fun _ _ _ _=> .inr hle)).set (b:=p) 3 (U Z 0) (.inr hle) (fun _ _ _ _=> .inr hle)).below qc (Nat.le_refl _))⟩
   ·obtain⟨b0,n0,b1,n1,b2,n2,hr,dx⟩:=hc'.row;have c26:wr.cell? ⟨K.cb,26,none⟩=some (.iface iY (pV ab)):=by rw[ar hr 26 _ rfl];exact qX some hcur
    have nh:=Hd je;have HO:=Hd ho;clear hr dx hcur hc' je ho;obtain⟨wA,p,hA,hp,h1,hb,l1⟩:=aD wr (qn (nQ 0 0 ⟨#[]⟩) 286);have HB:=Hd hb;have HX:=Hd h1;have HL:=Hd l1;have d26:=ah hb c26;clear h1 hb l1;go_wp2_with fail
    refine(sB ab at' a false (by have:=nh.o;simp[this]) wA (HO.o.ag (M:=[]) (Ch.af HB.o) qc)).mono ?_;rintro e w2⟨rfl,hb2⟩;have az:=Hd (ai HB.o hb2);have aF:=Hd (ae hb2 HX.o);have f0:=aJ aF.o 0;have f1:=aJ aF.o 1;have f2:=aJ aF.o 2;have f3:=aJ aF.o 3;have e0:=cn aF.o 0;have e1:=cn aF.o 1;have e2:=cn aF.o 2;have e3:=cn aF.o 3;simp only[gA,gZ,gS]at f0 f1 f2 f3;clear hb2 hA hp c26 d26;go_wp2_with fail
    rw[xu]
    go_end0
    have hle:wr.heap.size≤p:=HL.o;have hS:=((Ch.af (M:=[]) az.o));exact⟨rfl,Re.o _ _ HQ.o (((hS.set (b:=p) 0 (U Z 0) (.inr hle) (fun _ _ _ _=> .inr hle)).set (b:=p) 3 (U Z 0) (.inr hle) (fun _ _ _ _=> .inr hle)).below qc (Nat.le_refl _))⟩
set_option maxHeartbeats 6400000 in
theorem pE(t:iI)(ht:t.ok)(Fv:c.th=t.v)(ab:Nat)(a:Int)(fill:Bool)(s:ByteArray)(hcur:c.cur= .iface gm (pV ab))(w:qo)(Q:qo→Prop)(h:bt w K c)(ho:jt w ab a fill 6 1 s)
 (HT: ∀w1,bt w1 K {c with cur:= .nilIface}→Ch [K.cb] w w1→eN t #[ql (nQ 0 1 s)] w1 Q)
 (hI: ∀J,Q J→ ∃c',bt J K c'∧Idle J c'.cur) (hQB: ∀J w'',Q J→qz J.heap.size J w''→Q w''):
 qw qx 137 #[pV K.cb] w fun e J=>e=qm (qj #[])∧Q J:=by
 have HH:=Hd h;have HO:=Hd ho;have HT':=Hd HT;have HI:=Hd hI;have Re:=Hd hQB;have Xh:=Hd Fv;have oU:=Hd hcur;have CD: ∀(args:Array qp) (W:qo),(callFunc t.F args).run qx W= .ok (.enter t.F args) W:=ht;have r0:=Cm;have r1:=GV;have r2:=Cn;have r3:=Co;have r4:=vx;have r5:=vy;have r6:=aaa gm qc;have r7:=aee;clear h ho HT hI hQB Fv hcur ht;go_enter func137,ntmps137;go_wp2_with fail
 go_step3
 go_wp2_with fail
 go_step3
 go_wp2_with fail
 go_loopw [2] (fun s wr=>(s=undef∧w=wr)∨((∃b,s=pV b)∧Q wr)) (fun s _=>Rb s)
 case atStart=>exact .inl ⟨rfl,rfl⟩
 case round=>
  rcases hrel with⟨rfl,rfl⟩|⟨⟨b,rfl⟩,hq⟩
  ·obtain⟨b0,n0,b1,n1,b2,n2,hr,dx⟩:=HH.o.row;have c26:w.cell? ⟨K.cb,26,none⟩=some (.iface gm (pV ab)):=by rw[ar hr 26 _ rfl];exact qX some oU.o
   obtain⟨wA,p,hA,hp,h1,hb,l1⟩:=aD w (qn (nQ 0 0 ⟨#[]⟩) 286);have HB:=Hd hb;have HX:=Hd h1;have HL:=Hd l1;have d26:=ah hb c26;clear h1 hb l1 hr dx;go_wp2_with fail
   refine(vo ab a fill 6 1 s true qc wA (HO.o.ag (M:=[]) (Ch.af HB.o) qc)).mono ?_;rintro e w2⟨rfl,hb2⟩;have az:=Hd (ai HB.o hb2);have aF:=Hd (ae hb2 HX.o);have f0:=aJ aF.o 0;have f1:=aJ aF.o 1;have f2:=aJ aF.o 2;have f3:=aJ aF.o 3;have e0:=cn aF.o 0;have e1:=cn aF.o 1;have e2:=cn aF.o 2;have e3:=cn aF.o 3;simp only[gA,gZ,gS]at f0 f1 f2 f3;have hle:w.heap.size≤p:=HL.o;obtain⟨wf,IX⟩: ∃x,(((w2.setCell ⟨p,1,none⟩ (U Z 1)).setCell ⟨p,2,none⟩ (qg s)).setCell ⟨p,3,none⟩ (U Z 0))=x:=⟨_,rfl⟩
   have yK:qy (Ch [] w wf):=Hd (by rw[←IX];exact((((Ch.af (M:=[]) az.o).set (b:=p) 1 (U Z 1) (.inr hle) (fun _ _ _ _=> .inr hle)).set (b:=p) 2 (qg s) (.inr hle) (fun _ _ _ _=> .inr hle)).set (b:=p) 3 (U Z 0) (.inr hle) (fun _ _ _ _=> .inr hle)));have Zu:qy (wf.heap[p]? =some (qn (nQ 0 1 s) 286 (0,0))):=Hd (by rw[←IX];exact((av (i:=3) (av (i:=2) (av (i:=1) aF.o (U Z 1)) (qg s)) (U Z 0))).trans rfl);have Xi:=Hd (HH.o.ag yK.o qc);obtain⟨b0,n0,b1,n1,b2,n2,hr,dx⟩:=Xi.o.row;have g26:wf.cell? ⟨K.cb,26,none⟩=some (.iface gm (pV ab)):=by rw[ar hr 26 _ rfl];exact qX some oU.o
   clear hb2 hA hp c26 d26 dx hr;go_wp2_with fail
   refine(agR ab a fill 6 1 s wf (HO.o.ag yK.o qc)).mono ?_;rintro e w5⟨q0,m0,q1,m1,q2,m2,rfl,dx,hlq,hb5⟩;have dP:=Hd (yK.o.step hb5);have yB:=Hd (ae hb5 Zu.o);have Rf:=Hd (Xi.o.grow hb5);have Rg:=Hd dx;clear hlq hb5 dx g26 f0 f1 f2 f3 e0 e1 e2 e3;clear IX;obtain⟨b0,n0,b1,n1,b2,n2,hr,dx⟩:=Rf.o.row;have i2:=ar hr 2 _ rfl;have i3:=ar hr 3 _ rfl;have i26:w5.cell? ⟨K.cb,26,none⟩=some (.iface gm (pV ab)):=by rw[ar hr 26 _ rfl];exact qX some oU.o
   have k2:=cn hr 2;have k3:=cn hr 3;have k26:=cn hr 26;have R1:=av (i:=2) hr (U Z 0);have R2:=av (i:=3) R1 (qh (some ⟨q0,0,none⟩) 2 m0);have R3:=av (i:=26) R2 .nilIface;obtain⟨w6,h6⟩: ∃x,((w5.setCell ⟨K.cb,2,none⟩ (U Z 0)).setCell ⟨K.cb,3,none⟩ (qh (some ⟨q0,0,none⟩) 2 m0)).setCell ⟨K.cb,26,none⟩ .nilIface=x:=⟨_,rfl⟩;have ee:qy (Ch [K.cb] w5 w6):=Hd (by rw[←h6];exact((Ch.dn hr qa 2 _).aq (Ch.dn R1 qa 3 _)).aq (Ch.dn R2 qa 26 _));have tW:qy (w6.heap[K.cb]? =some (qn (rp K q0 m0 {c with cur:= .nilIface}) 80 (0,0))):=Hd (by rw[←h6,R3,GW];rfl)
   have UW:qy (bt w6 K {c with cur:= .nilIface}):=Hd (Rf.o.oX ee.o ⟨q0,m0,q1,m1,q2,m2,tW.o,Rg.o.ag ee.o⟩ rfl rfl);have vp:=Hd (ee.o.heap yB.o (by have:=HH.o.lt K.cb (by simp[CK.soft]);simp;omega));have vA:qy (Ch [K.cb] w w6):=Hd ((dP.o.mono qc).aq ee.o);clear hr dx R1 R2 R3;go_wp2_with fail
   clear i2 i3 i26 k2 k3 k26 h6
   have th0:w6.drew.cell? ⟨K.cb,27,none⟩=some (.func (.func t.F) #[] t.cap):=by
    have:=ar tW.o 27 _ rfl;rw[show(w6.drew).cell? ⟨K.cb,27,none⟩=w6.cell? ⟨K.cb,27,none⟩from rfl,this];exact qX some Xh.o
   have Fw:qy (w6.drew.heap[p]? =some (qn (nQ 0 1 s) 286 (0,0))):=Hd vp.o;have ki:qy (bt w6.drew K {c with cur:= .nilIface}):=Hd (UW.o.ag (M:=[]) (Ch.refl _ _).drew qc);have mO:qy (Ch [K.cb] w w6.drew):=Hd vA.o.drew;refine aB 5 6 (fun X=>X=w6.drew) qd rfl ?_;generalize w6.drew=W7 at th0 Fw ki mO⊢;have HEQ:qy (W7=W7):=Hd rfl;obtain⟨x0,x1,x2,x3,x4,x5,x6,x7,x8,x9,x10,x11⟩:=bP Fw.o;refine tL 4 89 ?_ HEQ.o ?_ ?_;rotate_left
   ·intro wq hq;subst hq;exact bJ
   simp only[pS,aS,sZ,sS];refine ay 0 qd rfl rfl (aw (some 85) (v:=pV K.cb) (J:=W7) rfl qf ⟨fun _=>rfl,?_⟩);simp only[pS,aS,sZ,sS];refine ay 1 qd rfl rfl (aw (some 86) (v:=pV K.cb) (J:=W7) rfl qf ⟨fun _=>rfl,?_⟩);simp only[pS,aS,sZ,sS];refine ay 2 qd rfl rfl (aw (some 87) (v:=qi (some ⟨K.cb,27,none⟩)) (J:=W7) rfl qf ⟨fun _=>rfl,?_⟩);simp only[pS,aS,sZ,sS];refine ay 3 qd rfl rfl (aw (some 88) (v:= .func (.func t.F) #[] t.cap) (J:=W7) rfl qf ⟨fun _=>rfl,?_⟩);simp only[pS,aS,sZ,sS];refine ay 5 qd rfl rfl ?_
   refine al (some 90) (f:=t.F) (args:=#[ql (nQ 0 1 s)]++t.cap) rfl ?_ (fun v X=>Q X) ?_ ?_
   ·go_simp
   ·have hT:=HT'.o W7 ki.o mO.o;unfold eN at hT;exact hT.mono fun e J h=>⟨_,h.1,h.2⟩
   rintro v w8 hq8;have HQ8:=Hd hq8;clear hq8 x0 x1 x2 x3 x4 x5 x6 x7 x8 x9 x10 x11 th0;refine⟨fun h=>qZ rfl h,?_⟩;simp only[pS,aS,sZ,sS];refine aU qd ?_;go_wp2_with fail
   exact⟨.inr ⟨⟨p,rfl⟩,HQ8.o⟩,xH (show(0:Nat)<1 by decide) (Nat.le_refl _)⟩
  ·have HQ:=Hd hq;obtain⟨c',hc',hi⟩:=HI.o wr hq;clear hq r6 r7 HH HO HT' Xh oU HI CD;rcases hi with hcur|⟨ab,rec,at',i,a,ph,je,hcur,ho⟩|⟨ab,a,fill,at',kind,s,je,hcur,ho⟩|⟨ab,at',a,je,hcur,ho⟩
   ·obtain⟨b0,n0,b1,n1,b2,n2,hr,dx⟩:=hc'.row;have c26:wr.cell? ⟨K.cb,26,none⟩=some .nilIface:=by rw[ar hr 26 _ rfl];exact qX some hcur
    clear hr dx hcur hc';go_wp2_with fail
    rw[xu]
    go_end0
    exact⟨rfl,HQ.o⟩
   ·obtain⟨b0,n0,b1,n1,b2,n2,hr,dx⟩:=hc'.row;have c26:wr.cell? ⟨K.cb,26,none⟩=some (.iface gk (pV ab)):=by rw[ar hr 26 _ rfl];exact qX some hcur
    have nh:=Hd je;have HO:=Hd ho;clear hr dx hcur hc' je ho;obtain⟨wA,p,hA,hp,h1,hb,l1⟩:=aD wr (qn (nQ 0 0 ⟨#[]⟩) 286);have HB:=Hd hb;have HX:=Hd h1;have HL:=Hd l1;have d26:=ah hb c26;clear h1 hb l1;go_wp2_with fail
    refine(sA ab rec at' i a ph false (by have:=nh.o;simp[this]) wA (HO.o.ag (M:=[]) (Ch.af HB.o) qc)).mono ?_;rintro e w2⟨rfl,hb2⟩;have az:=Hd (ai HB.o hb2);have aF:=Hd (ae hb2 HX.o);have f0:=aJ aF.o 0;have f1:=aJ aF.o 1;have f2:=aJ aF.o 2;have f3:=aJ aF.o 3;have e0:=cn aF.o 0;have e1:=cn aF.o 1;have e2:=cn aF.o 2;have e3:=cn aF.o 3;simp only[gA,gZ,gS]at f0 f1 f2 f3;clear hb2 hA hp c26 d26;go_wp2_with fail
    rw[xu]
    go_end0
    have hle:wr.heap.size≤p:=HL.o;have hS:=((Ch.af (M:=[]) az.o));exact⟨rfl,Re.o _ _ HQ.o (((hS.set (b:=p) 0 (U Z 0) (.inr hle) (fun _ _ _ _=> .inr hle)).set (b:=p) 3 (U Z 0) (.inr hle) (fun _ _ _ _=> .inr hle)).below qc (Nat.le_refl _))⟩
   ·obtain⟨b0,n0,b1,n1,b2,n2,hr,dx⟩:=hc'.row;have c26:wr.cell? ⟨K.cb,26,none⟩=some (.iface gm (pV ab)):=by rw[ar hr 26 _ rfl];exact qX some hcur
    have nh:=Hd je;have HO:=Hd ho;clear hr dx hcur hc' je ho;obtain⟨wA,p,hA,hp,h1,hb,l1⟩:=aD wr (qn (nQ 0 0 ⟨#[]⟩) 286);have HB:=Hd hb;have HX:=Hd h1;have HL:=Hd l1;have d26:=ah hb c26;clear h1 hb l1;go_wp2_with fail
    refine(vo ab a fill at' kind s false (by have:=nh.o;simp[this]) wA (HO.o.ag (M:=[]) (Ch.af HB.o) qc)).mono ?_;rintro e w2⟨rfl,hb2⟩;have az:=Hd (ai HB.o hb2);have aF:=Hd (ae hb2 HX.o);have f0:=aJ aF.o 0;have f1:=aJ aF.o 1;have f2:=aJ aF.o 2;have f3:=aJ aF.o 3;have e0:=cn aF.o 0;have e1:=cn aF.o 1;have e2:=cn aF.o 2;have e3:=cn aF.o 3;simp only[gA,gZ,gS]at f0 f1 f2 f3;clear hb2 hA hp c26 d26;go_wp2_with fail
    rw[xu]
    go_end0
    have hle:wr.heap.size≤p:=HL.o;have hS:=((Ch.af (M:=[]) az.o));exact⟨rfl,Re.o _ _ HQ.o ((((hS.set (b:=p) 1 (U Z 0) (.inr hle) (fun _ _ _ _=> .inr hle)).set (b:=p) 2 (qg ⟨#[]⟩) (.inr hle) (fun _ _ _ _=> .inr hle)).set (b:=p) 3 (U Z 0) (.inr hle) (fun _ _ _ _=> .inr hle)).below qc (Nat.le_refl _))⟩
   ·obtain⟨b0,n0,b1,n1,b2,n2,hr,dx⟩:=hc'.row;have c26:wr.cell? ⟨K.cb,26,none⟩=some (.iface iY (pV ab)):=by rw[ar hr 26 _ rfl];exact qX some hcur
    have nh:=Hd je;have HO:=Hd ho;clear hr dx hcur hc' je ho;obtain⟨wA,p,hA,hp,h1,hb,l1⟩:=aD wr (qn (nQ 0 0 ⟨#[]⟩) 286);have HB:=Hd hb;have HX:=Hd h1;have HL:=Hd l1;have d26:=ah hb c26;clear h1 hb l1;go_wp2_with fail
    refine(sB ab at' a false (by have:=nh.o;simp[this]) wA (HO.o.ag (M:=[]) (Ch.af HB.o) qc)).mono ?_;rintro e w2⟨rfl,hb2⟩;have az:=Hd (ai HB.o hb2);have aF:=Hd (ae hb2 HX.o);have f0:=aJ aF.o 0;have f1:=aJ aF.o 1;have f2:=aJ aF.o 2;have f3:=aJ aF.o 3;have e0:=cn aF.o 0;have e1:=cn aF.o 1;have e2:=cn aF.o 2;have e3:=cn aF.o 3;simp only[gA,gZ,gS]at f0 f1 f2 f3;clear hb2 hA hp c26 d26;go_wp2_with fail
    rw[xu]
    go_end0
    have hle:wr.heap.size≤p:=HL.o;have hS:=((Ch.af (M:=[]) az.o));exact⟨rfl,Re.o _ _ HQ.o (((hS.set (b:=p) 0 (U Z 0) (.inr hle) (fun _ _ _ _=> .inr hle)).set (b:=p) 3 (U Z 0) (.inr hle) (fun _ _ _ _=> .inr hle)).below qc (Nat.le_refl _))⟩
set_option maxHeartbeats 6400000 in
theorem zM(t:iI)(ht:t.ok)(Fv:c.th=t.v)(ab:Nat)(a:Int)(hcur:c.cur= .iface iY (pV ab))(w:qo)(Q:qo→Prop)(h:bt w K c)(ho:mh w ab 2 a)
 (HT: ∀w1,bt w1 K {c with cur:= .nilIface}→Ch [K.cb] w w1→eN t #[ql (nQ a 0 ⟨#[]⟩)] w1 Q)
 (hI: ∀J,Q J→ ∃c',bt J K c'∧Idle J c'.cur) (hQB: ∀J w'',Q J→qz J.heap.size J w''→Q w''):
 qw qx 137 #[pV K.cb] w fun e J=>e=qm (qj #[])∧Q J:=by
 have HH:=Hd h;have HO:=Hd ho;have HT':=Hd HT;have HI:=Hd hI;have Re:=Hd hQB;have Xh:=Hd Fv;have oU:=Hd hcur;have CD: ∀(args:Array qp) (W:qo),(callFunc t.F args).run qx W= .ok (.enter t.F args) W:=ht;have r0:=Cm;have r1:=GV;have r2:=Cn;have r3:=Co;have r4:=vx;have r5:=vy;have r6:=aaa iY qc;have r7:=aef;clear h ho HT hI hQB Fv hcur ht;go_enter func137,ntmps137;go_wp2_with fail
 go_step3
 go_wp2_with fail
 go_step3
 go_wp2_with fail
 go_loopw [2] (fun s wr=>(s=undef∧w=wr)∨((∃b,s=pV b)∧Q wr)) (fun s _=>Rb s)
 case atStart=>exact .inl ⟨rfl,rfl⟩
 case round=>
  rcases hrel with⟨rfl,rfl⟩|⟨⟨b,rfl⟩,hq⟩
  ·obtain⟨b0,n0,b1,n1,b2,n2,hr,dx⟩:=HH.o.row;have c26:w.cell? ⟨K.cb,26,none⟩=some (.iface iY (pV ab)):=by rw[ar hr 26 _ rfl];exact qX some oU.o
   obtain⟨wA,p,hA,hp,h1,hb,l1⟩:=aD w (qn (nQ 0 0 ⟨#[]⟩) 286);have HB:=Hd hb;have HX:=Hd h1;have HL:=Hd l1;have d26:=ah hb c26;clear h1 hb l1 hr dx;go_wp2_with fail
   refine(sB ab 2 a true qc wA (HO.o.ag (M:=[]) (Ch.af HB.o) qc)).mono ?_;rintro e w2⟨rfl,hb2⟩;have az:=Hd (ai HB.o hb2);have aF:=Hd (ae hb2 HX.o);have f0:=aJ aF.o 0;have f1:=aJ aF.o 1;have f2:=aJ aF.o 2;have f3:=aJ aF.o 3;have e0:=cn aF.o 0;have e1:=cn aF.o 1;have e2:=cn aF.o 2;have e3:=cn aF.o 3;simp only[gA,gZ,gS]at f0 f1 f2 f3;have hle:w.heap.size≤p:=HL.o;obtain⟨wf,IX⟩: ∃x,((w2.setCell ⟨p,0,none⟩ (U Z a)).setCell ⟨p,3,none⟩ (U Z 0))=x:=⟨_,rfl⟩
   have yK:qy (Ch [] w wf):=Hd (by rw[←IX];exact(((Ch.af (M:=[]) az.o).set (b:=p) 0 (U Z a) (.inr hle) (fun _ _ _ _=> .inr hle)).set (b:=p) 3 (U Z 0) (.inr hle) (fun _ _ _ _=> .inr hle)));have Zu:qy (wf.heap[p]? =some (qn (nQ a 0 ⟨#[]⟩) 286 (0,0))):=Hd (by rw[←IX];exact((av (i:=3) (av (i:=0) aF.o (U Z a)) (U Z 0))).trans rfl);have Xi:=Hd (HH.o.ag yK.o qc);obtain⟨b0,n0,b1,n1,b2,n2,hr,dx⟩:=Xi.o.row;have g26:wf.cell? ⟨K.cb,26,none⟩=some (.iface iY (pV ab)):=by rw[ar hr 26 _ rfl];exact qX some oU.o
   clear hb2 hA hp c26 d26 dx hr;go_wp2_with fail
   refine(agT ab 2 a wf (HO.o.ag yK.o qc)).mono ?_;rintro e w5⟨q0,m0,q1,m1,q2,m2,rfl,dx,hlq,hb5⟩;have dP:=Hd (yK.o.step hb5);have yB:=Hd (ae hb5 Zu.o);have Rf:=Hd (Xi.o.grow hb5);have Rg:=Hd dx;clear hlq hb5 dx g26 f0 f1 f2 f3 e0 e1 e2 e3;clear IX;obtain⟨b0,n0,b1,n1,b2,n2,hr,dx⟩:=Rf.o.row;have i2:=ar hr 2 _ rfl;have i3:=ar hr 3 _ rfl;have i26:w5.cell? ⟨K.cb,26,none⟩=some (.iface iY (pV ab)):=by rw[ar hr 26 _ rfl];exact qX some oU.o
   have k2:=cn hr 2;have k3:=cn hr 3;have k26:=cn hr 26;have R1:=av (i:=2) hr (U Z 0);have R2:=av (i:=3) R1 (qh (some ⟨q0,0,none⟩) 2 m0);have R3:=av (i:=26) R2 .nilIface;obtain⟨w6,h6⟩: ∃x,((w5.setCell ⟨K.cb,2,none⟩ (U Z 0)).setCell ⟨K.cb,3,none⟩ (qh (some ⟨q0,0,none⟩) 2 m0)).setCell ⟨K.cb,26,none⟩ .nilIface=x:=⟨_,rfl⟩;have ee:qy (Ch [K.cb] w5 w6):=Hd (by rw[←h6];exact((Ch.dn hr qa 2 _).aq (Ch.dn R1 qa 3 _)).aq (Ch.dn R2 qa 26 _));have tW:qy (w6.heap[K.cb]? =some (qn (rp K q0 m0 {c with cur:= .nilIface}) 80 (0,0))):=Hd (by rw[←h6,R3,GW];rfl)
   have UW:qy (bt w6 K {c with cur:= .nilIface}):=Hd (Rf.o.oX ee.o ⟨q0,m0,q1,m1,q2,m2,tW.o,Rg.o.ag ee.o⟩ rfl rfl);have vp:=Hd (ee.o.heap yB.o (by have:=HH.o.lt K.cb (by simp[CK.soft]);simp;omega));have vA:qy (Ch [K.cb] w w6):=Hd ((dP.o.mono qc).aq ee.o);clear hr dx R1 R2 R3;go_wp2_with fail
   clear i2 i3 i26 k2 k3 k26 h6
   have th0:w6.drew.cell? ⟨K.cb,27,none⟩=some (.func (.func t.F) #[] t.cap):=by
    have:=ar tW.o 27 _ rfl;rw[show(w6.drew).cell? ⟨K.cb,27,none⟩=w6.cell? ⟨K.cb,27,none⟩from rfl,this];exact qX some Xh.o
   have Fw:qy (w6.drew.heap[p]? =some (qn (nQ a 0 ⟨#[]⟩) 286 (0,0))):=Hd vp.o;have ki:qy (bt w6.drew K {c with cur:= .nilIface}):=Hd (UW.o.ag (M:=[]) (Ch.refl _ _).drew qc);have mO:qy (Ch [K.cb] w w6.drew):=Hd vA.o.drew;refine aB 5 6 (fun X=>X=w6.drew) qd rfl ?_;generalize w6.drew=W7 at th0 Fw ki mO⊢;have HEQ:qy (W7=W7):=Hd rfl;obtain⟨x0,x1,x2,x3,x4,x5,x6,x7,x8,x9,x10,x11⟩:=bP Fw.o;refine tL 4 89 ?_ HEQ.o ?_ ?_;rotate_left
   ·intro wq hq;subst hq;exact bJ
   simp only[pS,aS,sZ,sS];refine ay 0 qd rfl rfl (aw (some 85) (v:=pV K.cb) (J:=W7) rfl qf ⟨fun _=>rfl,?_⟩);simp only[pS,aS,sZ,sS];refine ay 1 qd rfl rfl (aw (some 86) (v:=pV K.cb) (J:=W7) rfl qf ⟨fun _=>rfl,?_⟩);simp only[pS,aS,sZ,sS];refine ay 2 qd rfl rfl (aw (some 87) (v:=qi (some ⟨K.cb,27,none⟩)) (J:=W7) rfl qf ⟨fun _=>rfl,?_⟩);simp only[pS,aS,sZ,sS];refine ay 3 qd rfl rfl (aw (some 88) (v:= .func (.func t.F) #[] t.cap) (J:=W7) rfl qf ⟨fun _=>rfl,?_⟩);simp only[pS,aS,sZ,sS];refine ay 5 qd rfl rfl ?_
   refine al (some 90) (f:=t.F) (args:=#[ql (nQ a 0 ⟨#[]⟩)]++t.cap) rfl ?_ (fun v X=>Q X) ?_ ?_
   ·go_simp
   ·have hT:=HT'.o W7 ki.o mO.o;unfold eN at hT;exact hT.mono fun e J h=>⟨_,h.1,h.2⟩
   rintro v w8 hq8;have HQ8:=Hd hq8;clear hq8 x0 x1 x2 x3 x4 x5 x6 x7 x8 x9 x10 x11 th0;refine⟨fun h=>qZ rfl h,?_⟩;simp only[pS,aS,sZ,sS];refine aU qd ?_;go_wp2_with fail
   exact⟨.inr ⟨⟨p,rfl⟩,HQ8.o⟩,xH (show(0:Nat)<1 by decide) (Nat.le_refl _)⟩
  ·have HQ:=Hd hq;obtain⟨c',hc',hi⟩:=HI.o wr hq;clear hq r6 r7 HH HO HT' Xh oU HI CD;rcases hi with hcur|⟨ab,rec,at',i,a,ph,je,hcur,ho⟩|⟨ab,a,fill,at',kind,s,je,hcur,ho⟩|⟨ab,at',a,je,hcur,ho⟩
   ·obtain⟨b0,n0,b1,n1,b2,n2,hr,dx⟩:=hc'.row;have c26:wr.cell? ⟨K.cb,26,none⟩=some .nilIface:=by rw[ar hr 26 _ rfl];exact qX some hcur
    clear hr dx hcur hc';go_wp2_with fail
    rw[xu]
    go_end0
    exact⟨rfl,HQ.o⟩
   ·obtain⟨b0,n0,b1,n1,b2,n2,hr,dx⟩:=hc'.row;have c26:wr.cell? ⟨K.cb,26,none⟩=some (.iface gk (pV ab)):=by rw[ar hr 26 _ rfl];exact qX some hcur
    have nh:=Hd je;have HO:=Hd ho;clear hr dx hcur hc' je ho;obtain⟨wA,p,hA,hp,h1,hb,l1⟩:=aD wr (qn (nQ 0 0 ⟨#[]⟩) 286);have HB:=Hd hb;have HX:=Hd h1;have HL:=Hd l1;have d26:=ah hb c26;clear h1 hb l1;go_wp2_with fail
    refine(sA ab rec at' i a ph false (by have:=nh.o;simp[this]) wA (HO.o.ag (M:=[]) (Ch.af HB.o) qc)).mono ?_;rintro e w2⟨rfl,hb2⟩;have az:=Hd (ai HB.o hb2);have aF:=Hd (ae hb2 HX.o);have f0:=aJ aF.o 0;have f1:=aJ aF.o 1;have f2:=aJ aF.o 2;have f3:=aJ aF.o 3;have e0:=cn aF.o 0;have e1:=cn aF.o 1;have e2:=cn aF.o 2;have e3:=cn aF.o 3;simp only[gA,gZ,gS]at f0 f1 f2 f3;clear hb2 hA hp c26 d26;go_wp2_with fail
    rw[xu]
    go_end0
    have hle:wr.heap.size≤p:=HL.o;have hS:=((Ch.af (M:=[]) az.o));exact⟨rfl,Re.o _ _ HQ.o (((hS.set (b:=p) 0 (U Z 0) (.inr hle) (fun _ _ _ _=> .inr hle)).set (b:=p) 3 (U Z 0) (.inr hle) (fun _ _ _ _=> .inr hle)).below qc (Nat.le_refl _))⟩
   ·obtain⟨b0,n0,b1,n1,b2,n2,hr,dx⟩:=hc'.row;have c26:wr.cell? ⟨K.cb,26,none⟩=some (.iface gm (pV ab)):=by rw[ar hr 26 _ rfl];exact qX some hcur
    have nh:=Hd je;have HO:=Hd ho;clear hr dx hcur hc' je ho;obtain⟨wA,p,hA,hp,h1,hb,l1⟩:=aD wr (qn (nQ 0 0 ⟨#[]⟩) 286);have HB:=Hd hb;have HX:=Hd h1;have HL:=Hd l1;have d26:=ah hb c26;clear h1 hb l1;go_wp2_with fail
    refine(vo ab a fill at' kind s false (by have:=nh.o;simp[this]) wA (HO.o.ag (M:=[]) (Ch.af HB.o) qc)).mono ?_;rintro e w2⟨rfl,hb2⟩;have az:=Hd (ai HB.o hb2);have aF:=Hd (ae hb2 HX.o);have f0:=aJ aF.o 0;have f1:=aJ aF.o 1;have f2:=aJ aF.o 2;have f3:=aJ aF.o 3;have e0:=cn aF.o 0;have e1:=cn aF.o 1;have e2:=cn aF.o 2;have e3:=cn aF.o 3;simp only[gA,gZ,gS]at f0 f1 f2 f3;clear hb2 hA hp c26 d26;go_wp2_with fail
    rw[xu]
    go_end0
    have hle:wr.heap.size≤p:=HL.o;have hS:=((Ch.af (M:=[]) az.o));exact⟨rfl,Re.o _ _ HQ.o ((((hS.set (b:=p) 1 (U Z 0) (.inr hle) (fun _ _ _ _=> .inr hle)).set (b:=p) 2 (qg ⟨#[]⟩) (.inr hle) (fun _ _ _ _=> .inr hle)).set (b:=p) 3 (U Z 0) (.inr hle) (fun _ _ _ _=> .inr hle)).below qc (Nat.le_refl _))⟩
   ·obtain⟨b0,n0,b1,n1,b2,n2,hr,dx⟩:=hc'.row;have c26:wr.cell? ⟨K.cb,26,none⟩=some (.iface iY (pV ab)):=by rw[ar hr 26 _ rfl];exact qX some hcur
    have nh:=Hd je;have HO:=Hd ho;clear hr dx hcur hc' je ho;obtain⟨wA,p,hA,hp,h1,hb,l1⟩:=aD wr (qn (nQ 0 0 ⟨#[]⟩) 286);have HB:=Hd hb;have HX:=Hd h1;have HL:=Hd l1;have d26:=ah hb c26;clear h1 hb l1;go_wp2_with fail
    refine(sB ab at' a false (by have:=nh.o;simp[this]) wA (HO.o.ag (M:=[]) (Ch.af HB.o) qc)).mono ?_;rintro e w2⟨rfl,hb2⟩;have az:=Hd (ai HB.o hb2);have aF:=Hd (ae hb2 HX.o);have f0:=aJ aF.o 0;have f1:=aJ aF.o 1;have f2:=aJ aF.o 2;have f3:=aJ aF.o 3;have e0:=cn aF.o 0;have e1:=cn aF.o 1;have e2:=cn aF.o 2;have e3:=cn aF.o 3;simp only[gA,gZ,gS]at f0 f1 f2 f3;clear hb2 hA hp c26 d26;go_wp2_with fail
    rw[xu]
    go_end0
    have hle:wr.heap.size≤p:=HL.o;have hS:=((Ch.af (M:=[]) az.o));exact⟨rfl,Re.o _ _ HQ.o (((hS.set (b:=p) 0 (U Z 0) (.inr hle) (fun _ _ _ _=> .inr hle)).set (b:=p) 3 (U Z 0) (.inr hle) (fun _ _ _ _=> .inr hle)).below qc (Nat.le_refl _))⟩
