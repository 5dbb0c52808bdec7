/- Part 24 of the texts that the law's walk needs. -/
import Derived.Test.YtimabpfjjpjfjaaGreatDoorM23
import Derived.Deep.AppendSrc
import Derived.Deep.Upon
set_option maxHeartbeats 3200000
set_option maxRecDepth 100000
set_option linter.all false
open Go renaming World→qo,Value→qp,Calls→qw
open Go.Value renaming int→U,string→qg,slice→qh,pointer→qi
open Go.IntKind renaming i64→Z
open Go.Obj renaming cells→qn
open Go.Ending renaming returned→qm
open Go.RowKit renaming Below→qz
namespace Go.Proofs.YtimabpfjjpjfjaaGreatDoor
open Tryz
open Tryz renaming prog→qx
namespace TopW
open Go.RowKit OpW
variable{w J:qo}{M:List Nat}
structure zb where
 h:Int
 o:Int
 d:ByteArray
abbrev CC(y:zb):Array qp:=#[U Z y.h,U Z y.o,qg y.d]
structure Ek(w:qo)(g:Nat)(cap:Nat)(y:zb):Prop where
 row: ∃cs:Array qp,w.heap[g]? =some (qn cs 238 (0,0))∧cs[0]? =some (U Z y.h)∧cs[1]? =some (U Z y.o)∧cs[2]? =some (qg y.d)
 ge:1≤cap
 le:cap≤maxLen
theorem Ek.ag{g cap:Nat}{y:zb}(h:Ek w g cap y)(c:Ch M w J):Ek J g cap y:=by
 obtain⟨cs,h1,h2⟩:=h.row;exact⟨⟨cs,c.bC _ _ _ _ h1 qa,h2⟩,h.ge,h.le⟩
theorem Ek.cells{g cap:Nat}{y:zb}(h:Ek w g cap y):w.cell? ⟨g,0,none⟩=some (U Z y.h)∧w.cell? ⟨g,1,none⟩=some (U Z y.o)∧w.cell? ⟨g,2,none⟩=some (qg y.d):=by
 obtain⟨cs,h1,h2,h3,h4⟩:=h.row;exact⟨by rw[qI h1];simpa using h2,by rw[qI h1];simpa using h3,by rw[qI h1];simpa using h4⟩
def fG(w:qo)(bb:Nat):Option zb→Prop
 |none=> ∃oa,w.heap[bb]? =some (qn #[qh oa 0 0] 176 (0,0))
 |some y=> ∃g cap,w.heap[bb]? =some (qn #[qh (some ⟨g,0,none⟩) 1 cap] 176 (0,0))∧Ek w g cap y
theorem fG.ag{bb:Nat}{x:Option zb}(h:fG w bb x)(c:Ch M w J)(hn:bb∉M):fG J bb x:=by
 cases x with
 |none=>obtain⟨oa,h⟩:=h;exact⟨oa,c.heap h hn⟩
 |some y=>obtain⟨g,cap,h1,h2⟩:=h;exact⟨g,cap,c.heap h1 hn,h2.ag c⟩
theorem fG.lt{bb:Nat}{x:Option zb}(h:fG w bb x):bb<w.heap.size:=by
 cases x with
 |none=>obtain⟨oa,h⟩:=h;exact qK h
 |some y=>obtain⟨g,cap,h1,h2⟩:=h;exact qK h1
theorem Qg(w:qo):qw qx 43 #[] w fun e J=>e=qm (qi (some ⟨w.heap.size,0,none⟩))∧fG J w.heap.size none∧qz w.heap.size w J:=by
 go_enter func43,ntmps43;go_wp2
 go_ret;exact⟨rfl,⟨none,qA _ _⟩,aa _ _⟩
theorem El(h o:Int)(d:ByteArray)(hb:Nat)(w:qo)(hc:w.cell? ⟨hb,0,none⟩=some (U Z h)):
 qw qx 334 #[.agg #[U Z h,U Z o,qg d],qi (some ⟨hb,0,none⟩)] w fun e J=>e=qm (.bool true)∧qz w.heap.size w J:=by
 have bu:=Hd (aa w (qn #[U Z h,U Z o,qg d] 238));have HX:=Hd (qA w (qn #[U Z h,U Z o,qg d] 238));have hc1:=ah bu.o hc;clear hc;go_enter func334,ntmps334;go_wp2_with fail
 obtain⟨d0,d1,d2⟩:=bS HX.o;go_wp2
 go_ret;exact⟨aH qc,bu.o⟩
theorem Ux(oa:Option Addr)(hb:Nat)(w:qo):qw qx 333 #[qh oa 0 0,.func (.func 334) #[] #[qi (some ⟨hb,0,none⟩)]] w fun e J=>e=qm (U Z (-1))∧w=J:=by
 go_enter func333,ntmps333;go_wp2
 go_loopw [8] (fun x wr=>x=U Z 0∧w=wr) (fun _ _=>0)
 case atStart=>exact⟨rfl,rfl⟩
 case round=>
  obtain⟨rfl,rfl⟩:=hrel;go_wp2
  go_ret;exact⟨rfl,rfl⟩
theorem Zg(y:zb)(g cap hb:Nat)(w:qo)(hc:w.cell? ⟨hb,0,none⟩=some (U Z y.h))(hg:Ek w g cap y):
 qw qx 333 #[qh (some ⟨g,0,none⟩) 1 cap,.func (.func 334) #[] #[qi (some ⟨hb,0,none⟩)]] w fun e J=>e=qm (U Z 0)∧qz w.heap.size w J:=by
 obtain⟨g0,g1,g2⟩:=hg.cells;have HH:=Hd hc;clear hc hg;go_enter func333,ntmps333;go_wp2
 go_loopw [8] (fun x wr=>x=U Z 0∧w=wr) (fun _ _=>0)
 case atStart=>exact⟨rfl,rfl⟩
 case round=>
  obtain⟨rfl,rfl⟩:=hrel;go_wp2_with fail
  refine(El y.h y.o y.d hb w HH.o).mono ?_;rintro e w2⟨rfl,hb2⟩;have az:=Hd hb2;clear hb2;go_wp2
  go_ret;exact⟨rfl,az.o⟩
theorem Lr(bb:Nat)(h:Int)(w:qo)(hb:fG w bb none):
 qw qx 266 #[qi (some ⟨bb,0,none⟩),U Z h] w fun e J=>e=qm (U Z (-1))∧qz w.heap.size w J:=by
 obtain⟨oa,h1⟩:=hb;have bu:=Hd (aa w (qn #[U Z h] 3));have c0:=(aC (ae bu.o h1) 0 qc).1;simp only[gA,gZ]at c0;clear h1;go_enter func266,ntmps266;go_wp2_with fail
 refine(Ux oa _ _).mono ?_;rintro e w2⟨rfl,rfl⟩;go_wp2
 go_ret;exact⟨rfl,bu.o⟩
theorem Em(bb:Nat)(y:zb)(h:Int)(hh:h=y.h)(w:qo)(hb:fG w bb (some y)):
 qw qx 266 #[qi (some ⟨bb,0,none⟩),U Z h] w fun e J=>e=qm (U Z 0)∧qz w.heap.size w J:=by
 obtain⟨g,cap,h1,h2⟩:=hb;have bu:=Hd (aa w (qn #[U Z h] 3));have HX:=Hd (qA w (qn #[U Z h] 3));have c0:=(aC (ae bu.o h1) 0 qc).1;have HW:=Hd (h2.ag (M:=[]) (Ch.af bu.o));have HE:=Hd hh;simp only[gA,gZ]at c0;clear h1 h2 hh;go_enter func266,ntmps266;go_wp2_with fail
 have hx0:=aJ HX.o 0;refine(Zg y g cap w.heap.size _ (by rw[←HE.o];exact hx0) HW.o).mono ?_;rintro e w2⟨rfl,hb2⟩;have az:=Hd (ai bu.o hb2);clear hb2;go_wp2
 go_ret;exact⟨rfl,az.o⟩
theorem tU:(prog.info? 238).map (·.size)=some 3:=qd
theorem uM(bb:Nat)(h:Int)(w:qo)(hb:fG w bb none):
 qw qx 193 #[qi (some ⟨bb,0,none⟩),U Z h] w fun e J=>e=qm (.tuple #[.agg #[U Z 0,U Z 0,qg ⟨#[]⟩],.bool false])∧qz w.heap.size w J:=by
 have bu:=Hd (aa w (qn #[U Z 0,U Z 0,qg ⟨#[]⟩] 238));have HX:=Hd (qA w (qn #[U Z 0,U Z 0,qg ⟨#[]⟩] 238));have HO:=Hd (hb.ag (M:=[]) (Ch.af bu.o) qc);clear hb;go_enter func193,ntmps193;go_wp2_with fail
 generalize w.alloc (qn #[U Z 0,U Z 0,qg ⟨#[]⟩] 238)=W at bu HX HO⊢;refine(Lr bb h W HO.o).mono ?_;rintro e w2⟨rfl,hb2⟩;have az:=Hd (ai bu.o hb2);have aF:=Hd (ae hb2 HX.o);clear hb2;go_wp2_with(refine qE rfl 238 (Operand.tmp 4) _ rfl w.heap.size _ rfl rfl 238 _ aF.o tU rfl (by simp[Value.oneCell']) ?_)
 refine aY rfl rfl rfl (qJ _ _ _ _ _ _ aF.o) underlying238 rfl tU ?_;exact⟨rfl,aj az.o Y _⟩
theorem yw(bb:Nat)(y:zb)(h:Int)(hh:h=y.h)(w:qo)(hb:fG w bb (some y)):
 qw qx 193 #[qi (some ⟨bb,0,none⟩),U Z h] w fun e J=>e=qm (.tuple #[.agg (CC y),.bool true])∧qz w.heap.size w J:=by
 have bu:=Hd (aa w (qn #[U Z 0,U Z 0,qg ⟨#[]⟩] 238));have HX:=Hd (qA w (qn #[U Z 0,U Z 0,qg ⟨#[]⟩] 238));have HO:=Hd (hb.ag (M:=[]) (Ch.af bu.o) qc);have HE:=Hd hh;clear hb hh;go_enter func193,ntmps193;go_wp2_with fail
 generalize w.alloc (qn #[U Z 0,U Z 0,qg ⟨#[]⟩] 238)=W at bu HX HO⊢;refine(Em bb y h HE.o W HO.o).mono ?_;rintro e w2⟨rfl,hb2⟩;have az:=Hd (ai bu.o hb2);have aF:=Hd (ae hb2 HX.o);obtain⟨g,cap,h1,h2⟩:=HO.o.ag (M:=[]) (Ch.af hb2) qc;obtain⟨g0,g1,g2⟩:=h2.cells;have c0:=aJ h1 0;simp only[gA,gZ]at c0;clear hb2 h1 h2;go_wp2_with(refine qE rfl 238 (Operand.tmp 4) _ rfl w.heap.size _ rfl rfl 238 _ aF.o tU rfl (by simp[Value.oneCell']) ?_)
 refine aY rfl rfl rfl (qJ _ _ _ _ _ _ aF.o) underlying238 rfl tU ?_;exact⟨rfl,aj az.o Y _⟩
theorem Zh:(prog.info? 238).map (fun i=>(i.zero,i.size,i.bytes))=some (some (.agg #[U Z 0,U Z 0,qg ⟨#[]⟩]),3,32):=qd
theorem Qh(bb:Nat)(y:zb)(h:Int)(hh:h=y.h)(w:qo)(hb:fG w bb (some y)):
 qw qx 195 #[qi (some ⟨bb,0,none⟩),U Z h] w fun e J=>e=qm (.bool true)∧fG J bb none∧Ch [bb] w J:=by
 have HO:=Hd hb;have HE:=Hd hh;clear hb hh;go_enter func195,ntmps195;go_wp2_with fail
 refine(Em bb y h HE.o w HO.o).mono ?_;rintro e w2⟨rfl,hb2⟩;have az:=Hd hb2;obtain⟨g,cap,h1,h2⟩:=HO.o.ag (M:=[]) (Ch.af hb2) qc;have H1:=Hd h1;have uY:1≤cap:=h2.ge;have hcz:(cap:Int)≥1:=Y;have hw1:IntKind.i64.wrap 1=1:=qa;obtain⟨O,hO⟩: ∃O:Nat,(if cap=1 then some (⟨g,0,none⟩:Addr)else some ⟨g,3,none⟩)=some ⟨g,O,none⟩:=by split<;>exact⟨_,rfl⟩
 clear hb2 h1 h2;go_wp2_with fail
 have cA:Hid (Ch [] w2 w2.drew):=Hd (Ch.refl _ _).drew;refine aB 18 19 (fun X=>Ch [] w2 X) qd rfl ?_;refine tL 0 11 ?_ cA.o ?_ (tL 1 12 ?_ cA.o ?_ (tL 2 13 ?_ cA.o ?_ (tL 3 14 ?_ cA.o ?_ (tL 4 15 ?_ cA.o ?_ (tL 5 16 ?_ cA.o ?_ (tL 6 17 ?_ cA.o ?_ (tL 7 18 ?_ cA.o ?_ (tL 8 19 ?_ cA.o ?_ (tL 9 20 ?_ cA.o ?_ (tL 10 21 ?_ cA.o ?_ (tL 11 22 ?_ cA.o ?_ (tL 12 23 ?_ cA.o ?_ (tL 13 24 ?_ cA.o ?_ (tL 14 25 ?_ cA.o ?_ ?_))))))))))))))
 iterate 15
  rotate_left
  ·intro wq hq;have HQ:=hq.heap H1.o qc;have g0:=(aJ HQ 0);simp only[gA,gZ]at g0;exact bJ
 simp only[pS,aS,sZ,sS];refine tL 15 26 ?_ cA.o ?_ ?_;rotate_left
 ·intro wq hq;exact bJ
 simp only[pS,aS,sZ,sS];refine ay 16 qd rfl rfl (aw (some 27) (v:=qi (some ⟨bb,0,none⟩)) (J:=w2.drew) rfl qf ⟨fun _=>cA.o,?_⟩);simp only[pS,aS,sZ,sS];refine ay 17 qd rfl rfl (aw (some 28) (v:=qi (some ⟨bb,0,none⟩)) (J:=w2.drew) rfl qf ⟨fun _=>cA.o,?_⟩);simp only[pS,aS,sZ,sS];have d0:=aJ H1.o 0;have e0:=cn H1.o 0;simp only[gA,gZ]at d0;refine ay 18 qd rfl rfl (bm none (J:=w2.drew.setCell ⟨bb,0,none⟩ (qh (some ⟨g,0,none⟩) 0 0)) rfl qf ⟨fun h=>qZ rfl h,?_⟩);simp only[Act.put];refine aU qd ?_;clear d0 e0;go_wp2
 go_ret;have H8:=av (w:=w2.drew) (i:=0) H1.o (qh (some ⟨g,0,none⟩) 0 0);simp only[aS,sZ]at H8;exact⟨rfl,⟨_,H8⟩,Ch.pre az.o ((Ch.refl _ _).drew.aq (Ch.dn (w:=w2.drew) H1.o qa 0 _))⟩
theorem BW(xs:List qp)(zs:Array qp)(j:Nat)(h:j<xs.length):(xs.toArray++zs)[j]? =xs[j]? :=by rw[Array.getElem?_append_left (by simpa using h)];simp
theorem vb(d:Option Tmp){P:Program}{o:Oper}{a:Act}{K:Act→qo→Prop}{Q:Exit→Act→qo→Prop}(hd:o.dst=d)(s x:Operand)(t:TypeId)
 (ho:o.op= .call {callee:= .builtin .append,args:=#[s,x],argTypes:=#[t,t]}) (e:TypeId) (i:TypeInfo) (z:qp) (ht:P.underlying t=some (.slice e)) (hi:P.info? e=some i) (hz:i.zero=some z)
 (W:qo) (oa:Option Addr) (hs:a.eval s=qh oa 0 0) (q:Addr) (m c:Nat) (news:List qp) (hx:a.eval x=qh (some q) m c) (hl:news.length=m*i.size)
 (ji: ∀j u,news[j]? =some u→W.cell? (q.add j)=some u) (h1: ∀u∈news,u.oneCell'=true) (hm:0<m) (h63:m≤maxLen) (fh:m*i.bytes≤140737488355328)
 (h: ∀cap,m≤cap→cap≤maxLen→K (a.put d (qh (some ⟨W.heap.size,0,none⟩) m cap)) (W.drew.alloc (qn (news.toArray++Builtin.zeroCells z.cells (cap-m)) e))):o.wp P a W K Q:=by
 subst hd
 have zA:(Builtin.firstCells i.size 0 (qh oa 0 0)).run P W.drew= .ok ([]:List qp).toArray W.drew:=by
  cases oa with
  |none=>exact run_firstCells_none W.drew _ 0 0 0
  |some q=>exact run_firstCells_some W.drew _ 0 q 0 0 [] qc qc
 have dV:=run_append_grow_src (P:=P) W t t o.type e i z ht hi hz oa 0 0 [] zA (qh (some q) m c) m news (Src.ofSlice W ht q m c news hl ji h1) Y (by simp only[maxLen]at h63;omega) (growslice_fits Y (by simpa using fh));simp only[Nat.zero_add,xk]at dV;have hh:=h (grownCap W m 0 e) (grownCap_ge W m 0 e) (grownCap_le_maxLen W m 0 e h63);unfold Oper.wp;simp only[execOp,ho,resolve,invoke,builtin,Sem.run_bind,Sem.run_pure,List.map_toArray,List.map_cons,List.map_nil,hs,hx,dV,Result.andThen,Oper.upon];exact hh
theorem Ls(bb:Nat)(y:zb)(hy:(0≤y.h∧y.h<16384)∧0≤y.o∧y.o≤7000∧1≤y.d.size∧y.d.size≤1024)(w:qo)(hb:fG w bb none):
 qw qx 132 #[qi (some ⟨bb,0,none⟩),.agg (CC y)] w fun e J=>e=qm (U Z 0)∧fG J bb (some y)∧Ch [bb] w J:=by
 have bu:=Hd (aa w (qn (CC y) 238));have HX:=Hd (qA w (qn (CC y) 238));obtain⟨oa,h1⟩:=hb;have HO:=Hd (ae bu.o h1);obtain⟨⟨y1,y2⟩,y3,y4,y5,y6⟩:=hy;have q1: ¬y.h<0:=Y;have q2: ¬(16384:Int)≤y.h:=Y;have q3: ¬y.o<0:=Y;have q4: ¬((y.d.size:Nat):Int)<1:=Y;have q5: ¬(1024:Int)<((y.d.size:Nat):Int):=Y;obtain⟨R,hR⟩: ∃R:Int,IntKind.i64.wrap (8192-((y.d.size:Nat):Int))=R:=⟨_,rfl⟩;have q6: ¬R<y.o:=by rw[←hR,qO _ Y];omega
 have c0:=aJ HO.o 0;simp only[gA,gZ]at c0;clear y1 y2 y3 y4 y5 y6 h1;go_enter func132,ntmps132;go_wp2_with fail
 generalize w.alloc (qn (CC y) 238)=W at bu HX HO c0⊢;have cA:Hid (Ch [] W W.drew):=Hd (Ch.refl _ _).drew;refine aB 10 11 (fun X=>Ch [] W X) qd rfl ?_;refine tL 0 50 ?_ cA.o ?_ (tL 1 51 ?_ cA.o ?_ (tL 2 52 ?_ cA.o ?_ (tL 3 53 ?_ cA.o ?_ (tL 4 54 ?_ cA.o ?_ (tL 5 55 ?_ cA.o ?_ ?_)))))
 iterate 6
  rotate_left
  ·intro wq hq;have HQ:=hq.heap HO.o qc;have g0:=(aJ HQ 0);obtain⟨d0,d1,d2⟩:=bS (hq.heap HX.o qc);simp only[gA,gZ]at g0;exact bJ
 simp only[pS,aS,sZ,sS];refine ay 6 qd rfl rfl (aw (some 56) (v:=qh (some ⟨W.heap.size,0,none⟩) 1 1) (J:=W.drew.alloc (qn (CC y) 238)) rfl qf ⟨fun _=>cA.o.alloc _,?_⟩);simp only[pS,aS,sZ,sS];have Fu:=Hd (qA W.drew (qn (CC y) 238));have dP:Hid (Ch [] W (W.drew.alloc (qn (CC y) 238))):=Hd (cA.o.alloc _);generalize W.drew.alloc (qn (CC y) 238)=W5 at Fu dP⊢;obtain⟨n0,n1,n2⟩:=bS Fu.o;obtain⟨i0,hi,hz0,hz1,hz2⟩:=info_parts Zh
 refine ay 7 qd rfl rfl (vb (some 57) rfl (Operand.tmp 54) (Operand.tmp 56) 174 rfl 238 i0 _ underlying174 hi hz0 W5 oa rfl ⟨W.heap.size,0,none⟩ 1 1 [U Z y.h,U Z y.o,qg y.d] rfl (by rw[hz1];rfl) ?_ (by simp[Value.oneCell']) Y qa (by rw[hz2];decide) ?_)
 ·intro j u hu
  match j,hu with
  |0,hu=>simp at hu;subst hu;exact n0
  |1,hu=>simp at hu;subst hu;exact n1
  |2,hu=>simp at hu;subst hu;exact n2
  |j+3,hu=>simp at hu
 intro cap WI WJ;have ee:Hid (Ch [] W (W5.drew.alloc (qn ([U Z y.h,U Z y.o,qg y.d].toArray++Builtin.zeroCells (Value.agg #[U Z 0,U Z 0,qg ⟨#[]⟩]).cells (cap-1)) 238))):=Hd (dP.o.drew.alloc _);have HWR:Hid (Ek (W5.drew.alloc (qn ([U Z y.h,U Z y.o,qg y.d].toArray++Builtin.zeroCells (Value.agg #[U Z 0,U Z 0,qg ⟨#[]⟩]).cells (cap-1)) 238)) W5.heap.size cap y):=Hd ⟨⟨_,qA W5.drew _,BW _ _ 0 qc,BW _ _ 1 qc,BW _ _ 2 qc⟩,WI,WJ⟩;refine⟨fun _=>ee.o,?_⟩;simp only[pS,aS,sZ,sS]
 generalize W5.drew.alloc (qn ([U Z y.h,U Z y.o,qg y.d].toArray++Builtin.zeroCells (Value.agg #[U Z 0,U Z 0,qg ⟨#[]⟩]).cells (cap-1)) 238)=W6 at ee HWR⊢;generalize W5.heap.size=g at HWR⊢;have iD:=Hd (ee.o.heap HO.o qc);have d0:=aJ iD.o 0;have e0:=cn iD.o 0;simp only[gA,gZ]at d0;clear n0 n1 n2;refine ay 8 qd rfl rfl (aw (some 58) (v:=qi (some ⟨bb,0,none⟩)) (J:=W6) rfl qf ⟨fun _=>ee.o,?_⟩);simp only[pS,aS,sZ,sS];refine ay 9 qd rfl rfl (aw (some 59) (v:=qi (some ⟨bb,0,none⟩)) (J:=W6) rfl qf ⟨fun _=>ee.o,?_⟩);simp only[pS,aS,sZ,sS]
 refine ay 10 qd rfl rfl (bm none (J:=W6.setCell ⟨bb,0,none⟩ (qh (some ⟨g,0,none⟩) 1 cap)) rfl qf ⟨fun h=>qZ rfl h,?_⟩);simp only[Act.put];refine aU qd ?_;clear d0 e0;go_wp2
 go_ret;have H8:=av (i:=0) iD.o (qh (some ⟨g,0,none⟩) 1 cap);simp only[aS,sZ]at H8;have hc:=Ch.dn iD.o qa 0 (qh (some ⟨g,0,none⟩) 1 cap);exact⟨rfl,⟨g,cap,H8,HWR.o.ag hc⟩,Ch.pre bu.o ((ee.o.mono qc).aq hc)⟩
