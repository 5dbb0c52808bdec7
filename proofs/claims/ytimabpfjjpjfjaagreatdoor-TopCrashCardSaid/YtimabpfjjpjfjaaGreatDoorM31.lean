/- Part 31 of the texts that the law's walk needs. -/
import Derived.Test.YtimabpfjjpjfjaaGreatDoorM19
import Derived.Test.YtimabpfjjpjfjaaGreatDoorM21
import Derived.Test.YtimabpfjjpjfjaaGreatDoorM30
import Derived.Defers
import Derived.Recover
set_option maxHeartbeats 3200000
set_option maxRecDepth 100000
set_option linter.all false
open Go renaming World→qo,Calls→qw,Value→qp
open Go.Obj renaming cells→qn
open Go.Value renaming pointer→qi,int→U,tuple→qj,string→qg
open Go.RowKit renaming Below→qz,Hid→qy
open Go.Ending renaming returned→qm
open Go.IntKind renaming i64→Z
namespace Go.Proofs.YtimabpfjjpjfjaaGreatDoor
open Tryz
open Tryz renaming prog→qx
namespace TopW
open Go.RowKit OpW
variable{w J:qo}{M:List Nat}
theorem Ey{g:Nat}(h:InoW.lj w g)(k:Ch M w J):J.heap[g]? =w.heap[g]? ∧InoW.lj J g:=by
 obtain⟨cs,fr,h⟩:=h;have:=k.bC g cs _ fr h qa;exact⟨this.trans h.symm,cs,fr,this⟩
theorem Ez{B B':Nat}{oa:Option Addr}{l:List ExtW.Pt}(h:ExtW.et B oa l w)(hB:B≤B')(hb: ∀a,oa=some a→J.heap[a.block]? =w.heap[a.block]?):ExtW.et B' oa l J:=by
 intro i x hx;obtain⟨a,h1,h2,d0,d1,d2,d3⟩:=h i x hx;have hb:=hb a h1;have hc: ∀q:Addr,q.block=a.block→J.cell? q=w.cell? q:=fun q hq=>by unfold World.cell?;rw[hq,hb]
 exact⟨a,h1,Y,(hc (a.add (i*4)) (bA _ _)).trans d0,(hc ⟨(a.add (i*4)).block,(a.add (i*4)).off+1,none⟩ (bA _ _)).trans d1,
  (hc ⟨(a.add (i*4)).block,(a.add (i*4)).off+2,none⟩ (bA _ _)).trans d2,(hc ⟨(a.add (i*4)).block,(a.add (i*4)).off+3,none⟩ (bA _ _)).trans d3⟩
theorem UL{tb b:Nat}{x:InoP.dw}{y:InoW.IV}(h:InoW.ic w tb b x y)(k:Ch M w J):InoW.ic J tb b x y:=
 {h with sU:=Ez h.sU k.size (fun a ha=>(Ey (h.ty a ha) k).1),ty:=fun a ha=>(Ey (h.ty a ha) k).2}
theorem QB{tb b:Nat}{L:List InoP.dw}{next:Int}(h:InoW.jf w tb b L next)(k:Ch M w J)(h1:tb∉M)(h2:b∉M):InoW.jf J tb b L next:=
 ⟨k.heap h.head h1,by
  obtain⟨n,g,hm,e1,e2⟩:=h.map;exact⟨n,g,hm.of_block (k.block b (an.lt hm) h2),e1,fun i x hx=>by obtain⟨y,hy,hr⟩:=e2 i x hx;exact⟨y,hy,UL hr k⟩⟩,h.cV⟩
theorem EA{tb b:Nat}{L:List InoP.dw}{next:Int}(h:InoW.jf w tb b L next): ∀cs t fr,w.heap[b]? =some (qn cs t fr)→t∉kU:=by
 intro cs t fr hc;obtain⟨n,g,⟨es,clock,hm,_⟩,_⟩:=h.map;rw[hm]at hc;cases hc
theorem jD{tb b:Nat}{L:List InoP.dw}{next:Int}(h:InoW.jf w tb b L next)(k:ax b w J):Ch [tb,b] w J:=(Ch.lI k (M:=[tb,b]) qc (EA h))
theorem GC{tb b:Nat}{L:List InoP.dw}{next:Int}(h:InoW.jf w tb b L next)(k:InoW.bU tb b w J):Ch [tb,b] w J:=
 ⟨k.os,k.tape,k.output,k.size,fun i hi hn=>k.block i hi (fun e=>hn (by simp[e])) (fun e=>hn (by simp[e])),fun i cs t fr hi ht=>by
  refine(k.block i (qK hi) ?_ ?_).trans hi
  ·rintro rfl;rw[h.head]at hi;injection hi with hi;injection hi with _ e _
   exact qZ (e▸ht) qa
  ·rintro rfl;exact EA h _ _ _ hi ht⟩
theorem QC{nb b c:Nat}{D:List DirP.En}(h:DirW.uI w nb b c D)(k:Ch M w J)(h1:b∉M)(h2:c∉M):DirW.uI J nb b c D:=
 ⟨k.bC _ _ _ _ h.head qa,by obtain⟨n,hm⟩:=h.map;exact⟨n,hm.of_block (k.block b (an.lt hm) h1)⟩,by obtain⟨n,g,hm,hg⟩:=h.zD;exact⟨n,g,hm.of_block (k.block c (an.lt hm) h2),hg⟩,h.cV,h.bc⟩
theorem yA{nb b c:Nat}{D:List DirP.En}(h:DirW.uI w nb b c D)(k:DirW.bU b c w J):Ch [b,c] w J:=
 ⟨k.os,k.tape,k.output,k.size,fun i hi hn=>k.block i hi (fun e=>hn (by simp[e])) (fun e=>hn (by simp[e])),fun i cs t fr hi ht=>by
  obtain⟨n,es,cl,hm,_⟩:=h.map;obtain⟨n',g,⟨es',cl',hc,_⟩,_⟩:=h.zD;refine(k.block i (qK hi) ?_ ?_).trans hi
  ·rintro rfl;rw[hm]at hi;cases hi
  ·rintro rfl;rw[hc]at hi;cases hi⟩
structure en(w:qo)(rb tb ib nb db cb:Nat)(L:List InoP.dw)(nx:Int)(D:List DirP.En):Prop where
 head:w.heap[rb]? =some (qn #[qi (some ⟨tb,0,none⟩),qi (some ⟨nb,0,none⟩)] 87 (0,0))
 t:InoW.jf w tb ib L nx
 n:DirW.uI w nb db cb D
 apart:tb≠db∧tb≠cb∧ib≠db∧ib≠cb
variable{rb tb ib nb db cb:Nat}{L:List InoP.dw}{nx:Int}{D:List DirP.En}
theorem en.cells(h:en w rb tb ib nb db cb L nx D):w.cell? ⟨rb,0,none⟩=some (qi (some ⟨tb,0,none⟩))∧w.cell? ⟨rb,1,none⟩=some (qi (some ⟨nb,0,none⟩)):=cp h.head
theorem en.ag(h:en w rb tb ib nb db cb L nx D)(k:Ch M w J)(hn: ∀x∈[tb,ib,db,cb],x∉M):en J rb tb ib nb db cb L nx D:=
 ⟨k.bC _ _ _ _ h.head qa,QB h.t k (hn _ qc) (hn _ qc),QC h.n k (hn _ qc) (hn _ qc),h.apart⟩
theorem en.lt(h:en w rb tb ib nb db cb L nx D): ∀x∈[tb,ib,db,cb],x<w.heap.size:=by
 intro x hx;have h1:=h.t.lt;have h2:=h.n.lt;simp only[qG,qQ,xt]at hx;rcases hx with rfl|rfl|rfl|rfl
 ·exact h1.1
 ·exact h1.2
 ·exact h2.2.1
 ·exact h2.2.2
theorem en.grow(h:en w rb tb ib nb db cb L nx D)(k:qz w.heap.size w J):en J rb tb ib nb db cb L nx D:=h.ag (M:=[]) (Ch.af k) qc
theorem en.fI{L':List InoP.dw}{nx':Int}(h:en w rb tb ib nb db cb L nx D)(k:Ch [tb,ib] w J)(ht:InoW.jf J tb ib L' nx'):en J rb tb ib nb db cb L' nx' D:=
 ⟨k.bC _ _ _ _ h.head qa,ht,QC h.n k (by have:=h.apart;simp;omega) (by have:=h.apart;simp;omega),h.apart⟩
theorem en.Jb{D':List DirP.En}(h:en w rb tb ib nb db cb L nx D)(k:Ch [db,cb] w J)(hd:DirW.uI J nb db cb D'):en J rb tb ib nb db cb L nx D':=
 ⟨k.bC _ _ _ _ h.head qa,QB h.t k (by have:=h.apart;simp;omega) (by have:=h.apart;simp;omega),hd,h.apart⟩
theorem LF(w:qo):qw qx 72 #[] w fun e J=> ∃rb tb ib nb db cb,e=qm (qi (some ⟨rb,0,none⟩))∧en J rb tb ib nb db cb [InoP.root] 2 []∧w.heap.size≤rb∧(∀x∈[tb,ib,db,cb],w.heap.size≤x)∧qz w.heap.size w J:=by
 go_enter func72,ntmps72;go_wp2_with fail
 refine(InoW.lO w).mono ?_;rintro e w2⟨rfl,ht2,hb2⟩;have ze:=Hd ht2;have az:=Hd hb2;clear ht2 hb2;go_wp2_with fail
 refine(DirW.lO w2).mono ?_;rintro e w3⟨rfl,hd3,hb3⟩;have zj:=Hd (ze.o.grow hb3);have fY:=Hd hd3;have cu:=Hd (ai az.o hb3);have dO:=Hd ze.o.lt;have Gr:=Hd az.o.size;clear hd3 hb3;go_wp2_with fail
 go_ret;have hb4:=aa w3 (qn #[qi (some ⟨w.heap.size+1,0,none⟩),qi (some ⟨w2.heap.size+2,0,none⟩)] 87);have h1:=dO.o;have h2:=Gr.o;have h3:=cu.o.size;refine⟨w3.heap.size,w.heap.size+1,w.heap.size,w2.heap.size+2,w2.heap.size,w2.heap.size+1,rfl,⟨qA _ _,zj.o.grow hb4,fY.o.grow hb4,Y⟩,h3,?_,ai cu.o hb4⟩;intro x hx;simp only[qG,qQ,xt]at hx;omega
theorem gX(err:Int)(w:qo):qw qx 255 #[U Z err,.bool false] w fun e J=>e=qm (qj #[])∧w=J:=by
 go_enter func255,ntmps255;go_wp2
 go_end0
 exact⟨rfl,rfl⟩
theorem ni:(prog.info? 28).map (·.size)=some 4:=qd
theorem tX(i k:Int)(hi:InoW.kI i)(hk:(InoW.bL L i).k=k)(w:qo)(h:en w rb tb ib nb db cb L nx D):
 qw qx 256 #[qi (some ⟨rb,0,none⟩),U Z i] w fun e J=>e=qm (U Z k)∧qz w.heap.size w J:=by
 obtain⟨r0,r1⟩:=h.cells;have HT:=Hd h.t;have HI:=Hd hi;have HK:=Hd hk;clear h hi hk;go_enter func256,ntmps256;go_wp2_with fail
 refine(InoW.wu i HI.o w HT.o).mono ?_;rintro e w2⟨rfl,hb2⟩;rw[HK.o];generalize(InoW.bL L i).i=s0;generalize(InoW.bL L i).l=s2;generalize(InoW.bL L i).s=s3;generalize InoW.wo L i=sb;have az:=Hd hb2;have HX:=Hd (qA w2 (qn #[U Z 0,U Z 0,U Z 0,U Z 0] 28));clear hb2;go_wp2_with fail
 go_ret;exact⟨rfl,ai az.o (aa _ _)⟩
abbrev pR:ByteArray:=⟨#[47]⟩
abbrev pA:ByteArray:=⟨#[47,97]⟩
abbrev nA:ByteArray:=⟨#[97]⟩
theorem EB:PathW.dq pR.data.toList=some []∧PathW.pO pR.data.toList=0:=qa
theorem sJ:PathW.dq pA.data.toList=some [[97]]∧PathW.pO pA.data.toList=0:=qa
theorem BY(w:qo)(h:en w rb tb ib nb db cb L nx D):
 qw qx 253 #[qi (some ⟨rb,0,none⟩),qg pR] w fun e J=>e=qm (U Z 1)∧qz w.heap.size w J:=by
 clear h;go_enter func253,ntmps253;go_wp2_with fail
 refine(PathW.Al pR qa w).mono ?_;rintro e w2⟨v,rfl,hs2,hb2⟩;rw[EB.2];rw[EB.1]at hs2;obtain⟨oa,cap,rfl⟩:=hs2.form;have az:=Hd hb2;clear hs2 hb2;go_wp2_with(go_at_call 255;refine(gX _ _).mono ?_;rintro e w9 ⟨rfl,rfl⟩)
 go_loopw [7,23] (fun x y wr=>x=U Z 1∧y=U Z 0∧w2=wr) (fun _ _ _=>0)
 case atStart=>exact⟨rfl,rfl,rfl⟩
 case round=>
  obtain⟨rfl,rfl,rfl⟩:=hrel;go_wp2
  go_ret;exact⟨rfl,az.o⟩
theorem LG(i k:Int)(hi:DirP.lk D (1,nA)=some i)(hk:(InoW.bL L 1).k=1)(w:qo)(h:en w rb tb ib nb db cb L nx D):
 qw qx 253 #[qi (some ⟨rb,0,none⟩),qg pA] w fun e J=>e=qm (U Z i)∧qz w.heap.size w J:=by
 have HT:=Hd h;have HK:=Hd hk;have HI:qy (DirW.yg D 1 nA=i∧DirW.Gl D 1 nA=true):=Hd (by unfold DirW.yg DirW.Gl;rw[hi];exact⟨rfl,rfl⟩);clear h hi hk;go_enter func253,ntmps253;go_wp2_with fail
 refine(PathW.Al pA qa w).mono ?_;rintro e w2⟨v,rfl,hs2,hb2⟩;rw[sJ.2];rw[sJ.1]at hs2;obtain⟨oa,cap,rfl⟩:=hs2.form;have az:=Hd hb2;have cX:=Hd hs2;have ze:=Hd (HT.o.grow hb2);clear hs2 hb2
 obtain⟨g,hg⟩: ∃g:Nat,oa=some ⟨g,0,none⟩:=by
  rcases cX.o.2 with⟨hv,h0⟩|⟨g,cap',cur,hv,_⟩
  ·simp at h0
  ·simp only[Value.slice.injEq]at hv;exact⟨g,hv.1⟩
 subst hg
 have HG:qy (w2.cell? ⟨g,0,none⟩=some (qg nA)):=by
  rcases cX.o.2 with⟨hv,h0⟩|⟨g',cap',cur,hv,hb,hh,_,_,hs,hx⟩
  ·simp at h0
  ·simp only[Value.slice.injEq,Option.some.injEq,Addr.mk.injEq,and_true]at hv;obtain⟨rfl,_⟩:=hv;refine Hd ?_;rw[qI hh];have:=qX (·[0]?) hx;simpa [PathW.gF]using this
 clear cX;go_wp2_with(go_at_call 255;refine(gX _ _).mono ?_;rintro e w9 ⟨rfl,rfl⟩)
 go_loopw [7,23] (fun x y wr=> ∃k:Nat,k≤1∧x=U Z (if k=0 then 1 else i)∧y=U Z (k:Nat)∧qz w2.heap.size w2 wr) (fun _ y _=>((1:Int)-intOf y).toNat)
 case atStart=>exact⟨0,Y,rfl,rfl,Below.refl _ _⟩
 case round=>
  obtain⟨k,hk,rfl,rfl,hb⟩:=hrel;have HB:=Hd hb;clear hb;have hk2:k=0∨k=1:=Y;rcases hk2 with rfl|rfl
  ·have HTr:=Hd (ze.o.grow HB.o);obtain⟨r0,r1⟩:=HTr.o.cells;have hg:=ah HB.o HG.o;clear hk;simp only[if_true];go_wp2_with fail
   refine(tX 1 1 (by unfold InoW.kI;decide) HK.o wr HTr.o).mono ?_;rintro e w5⟨rfl,hb5⟩;have gx:=Hd (ai HB.o hb5);have HT5:=Hd (HTr.o.grow hb5);clear r0 r1 hg hb5;obtain⟨r0,r1⟩:=HT5.o.cells
   go_wp2_with(first
    |(go_at_call 255;refine(gX _ _).mono ?_;rintro e w9 ⟨rfl,rfl⟩)
    |(go_at_call 323;refine(DirW.gQ nb db cb D 1 nA ⟨qa,qa⟩ _ HT5.o.n).mono ?_;rintro e w9 ⟨rfl,rfl⟩;rw[HI.o.1,HI.o.2]))
   exact⟨⟨1,Y,rfl,rfl,gx.o⟩,qa⟩
  ·clear hk;go_wp2
   go_ret;exact⟨rfl,ai az.o HB.o⟩
theorem GD(p:Addr)(w:qo):
 CallsD qx 321 #[qi (some p)] .returning w fun e u' J=>e=qm (qj #[])∧u'= .returning∧J=w:=by
 refine callsD_of_wpS func321 rfl fun c₀ cs hu=>?_;apply wpS_seq;apply wpS_region;simp[wpOpsS,go_sem,recoverD,hu,ntmps321,Exit.thenS];refine wpS_of_wp ?_;go_wp2
 cases c₀;simp_all [bodyPostS,results,results321]
theorem tY(K:FuncId)(cap:Array qp)(w:qo)(R:qo→Prop)(CD: ∀W,(callFunc K cap).run qx W= .ok (.enter K cap) W)
 (hK: ∀w1,qz w.heap.size w w1→qw qx K cap w1 fun e w2=>e=qm (qj #[])∧R w2∧ ∀o,w1.heap[w.heap.size]? =some o→w2.heap[w.heap.size]? =some o)
 (hR: ∀w2 w3,R w2→Ch [w.heap.size] w2 w3→R w3):
 qw qx 251 #[qi (some ⟨rb,0,none⟩),.func (.func K) #[] cap] w fun e J=>e=qm (U Z 0)∧R J:=by
 have zB: ∀(fn:Fn) (first cap:Array qp) (w:qo),(Instr.makeFunc fn first cap).run qx w= .ok (.func fn first cap) w:=fun _ _ _ _=>rfl;have HK:=Hd hK;have HR:=Hd hR;clear hK hR
 go_enter_defers func251,ntmps251
 go_wp2_with fail
 have bu:=Hd (aa w (qn #[U Z 0] 49));have HX:=Hd (qA w (qn #[U Z 0] 49));generalize w.alloc (qn #[U Z 0] 49)=W at bu HX⊢;refine(HK.o W bu.o).mono ?_;rintro e w2⟨rfl,hr2,hc2⟩;have eB:=Hd hr2;have aF:=Hd (hc2 _ HX.o);have d0:=aJ aF.o 0;have e0:=cn aF.o 0;simp only[gA,gZ]at d0;clear hr2 hc2;go_wp2_with fail
 refine leaves_cons (f:=321) (args:=#[qi (some ⟨w.heap.size,0,none⟩)]) qc (by simp[go_sem]) ?_;refine(GD ⟨w.heap.size,0,none⟩ _).mono ?_;rintro e u' w''⟨rfl,rfl,rfl⟩;have CJ:Ch [w.heap.size] w2 (w2.setCell ⟨w.heap.size,0,none⟩ (U Z 0)):=Ch.dn aF.o qa 0 _;have hx3:=(aC (av (i:=0) aF.o (U Z 0)) 0 qc).1;have hr3:=HR.o _ _ eB.o CJ;simp at hx3;generalize w2.setCell ⟨w.heap.size,0,none⟩ (U Z 0)=w3 at hx3 hr3⊢;simp[Leaves,settle,results,results251,go_sem,hx3];exact hr3
theorem GF(b1 b2 b3:Nat)(x:Int)(i:Int)(hi:DirP.lk D (1,nA)=some i)(hk:(InoW.bL L 1).k=1)(w:qo)(h:en w rb tb ib nb db cb L nx D)
 (h1:w.heap[b1]? =some (qn #[qi (some ⟨rb,0,none⟩)] 37 (0,0))) (h2:w.heap[b2]? =some (qn #[qg pA] 9 (0,0))) (h3:w.heap[b3]? =some (qn #[U Z x] 3 (0,0))):
 qw qx 456 #[qi (some ⟨b1,0,none⟩),qi (some ⟨b2,0,none⟩),qi (some ⟨b3,0,none⟩)] w fun e J=>e=qm (qj #[])∧ ∃wm,qz w.heap.size w wm∧J=wm.setCell ⟨b3,0,none⟩ (U Z i):=by
 have HT:=Hd h;have HI:=Hd hi;have HK:=Hd hk;have c1:=aJ h1 0;have c2:=aJ h2 0;have H3:=Hd h3;simp only[gA,gZ]at c1 c2;clear h hi hk h1 h2 h3;go_enter func456,ntmps456;go_wp2_with fail
 refine(LG i 1 HI.o HK.o w HT.o).mono ?_;rintro e w2⟨rfl,hb2⟩;have az:=Hd hb2;have c3:=(aC (ae hb2 H3.o) 0 qc).1;have e3:=(aC (ae hb2 H3.o) 0 qc).2;simp only[gA,gZ]at c3;clear hb2;go_wp2
 go_end0
 exact⟨rfl,w2,az.o,rfl⟩
theorem LH(i:Int)(hi:DirP.lk D (1,nA)=some i)(hk:(InoW.bL L 1).k=1)(w:qo)(h:en w rb tb ib nb db cb L nx D):
 qw qx 412 #[qi (some ⟨rb,0,none⟩),qg pA] w fun e J=>e=qm (qj #[U Z i,U Z 0])∧qz w.heap.size w J:=by
 have HT:=Hd h;have HI:=Hd hi;have HK:=Hd hk;have zB: ∀(fn:Fn) (first cap:Array qp) (w:qo),(Instr.makeFunc fn first cap).run qx w= .ok (.func fn first cap) w:=fun _ _ _ _=>rfl;have HW:=Hd (gz w (qn #[qi (some ⟨rb,0,none⟩)] 37) (qn #[qg pA] 9) (qn #[U Z 0] 3));clear h hi hk;go_enter func412,ntmps412;go_wp2_with fail
 generalize((w.alloc (qn #[qi (some ⟨rb,0,none⟩)] 37)).alloc (qn #[qg pA] 9)).alloc (qn #[U Z 0] 3)=W at HW⊢;obtain⟨hA,hB,hC,hb,hz⟩:=HW.o;have HA:=Hd hA;have HB:=Hd hB;have HC:=Hd hC;have lH:=Hd hb;have HZ:=Hd hz;clear hA hB hC hb hz HW;refine(tY (rb:=rb) 456 _ W (fun x=>qz w.heap.size w x∧x.heap[w.heap.size+1+1]? =some (qn #[U Z i] 3 (0,0))) (fun W=>by go_simp) ?_ ?_).mono ?_
 ·intro w1 hw1;refine(GF w.heap.size (w.heap.size+1) (w.heap.size+1+1) 0 i HI.o HK.o w1 (HT.o.grow (ai lH.o hw1)) (ae hw1 HA.o) (ae hw1 HB.o) (ae hw1 HC.o)).mono ?_;rintro e w2⟨rfl,wm,hm,rfl⟩;refine⟨rfl,⟨(ai (ai lH.o hw1) hm).setCell (p:=⟨w.heap.size+1+1,0,none⟩) (by simp;omega) _,?_⟩,fun o ho=>aZ (ae hm ho) (by have:=HZ.o;omega)⟩;exact av (i:=0) (ae hm (ae hw1 HC.o)) _
 ·rintro w2 w3⟨h1,h2⟩hc;have hz:=HZ.o;exact⟨(h1.trans (hc.below (B:=w.heap.size) (by simp;omega) h1.size)),hc.heap h2 (by simp;omega)⟩
 rintro e w2⟨rfl,h1,h2⟩;have H1:=Hd h1;have c0:=aJ h2 0;simp only[gA,gZ]at c0;clear h1 h2;go_wp2
 go_ret2
 exact⟨rfl,H1.o⟩
end TopW
namespace TopW
open Go.RowKit
theorem adH:PathW.Oa pA.data.toList=([47],[97],true):=by
 rw[PathW.Oa,sJ.1];rfl
theorem ahw(w:qo):qw qx 485 #[qg pA] w fun e J=>e=qm (qj #[qg pR,qg nA,.bool true])∧qz w.heap.size w J:=by
 refine(PathW.Yh pA qa w).mono ?_;rintro e J⟨rfl,hb⟩;rw[adH];exact⟨rfl,hb⟩
open OpW
variable{w J:qo}{M:List Nat}
variable{rb tb ib nb db cb:Nat}{L:List InoP.dw}{nx:Int}{D:List DirP.En}
theorem EC:(prog.info? 557).map (·.size)=some 3:=qd
abbrev spZ:Array qp:=#[U Z 0,qg ⟨#[]⟩,U Z 0]
theorem Jc(er i:Int)(hi:DirW.yg D 1 nA=i)(hk:(InoW.bL L 1).k=1)(w:qo)(h:en w rb tb ib nb db cb L nx D):
 qw qx 444 #[qi (some ⟨rb,0,none⟩),qg pA,U Z er] w fun e J=>e=qm (.agg #[U Z 1,qg nA,U Z i])∧qz w.heap.size w J:=by
 have bu:=Hd (aa w (qn spZ 557));have HX:=Hd (qA w (qn spZ 557));have HT:=Hd (h.grow bu.o);have dO:=Hd h.lt;have HI:=Hd hi;have HK:=Hd hk;clear h hi hk;go_enter func444,ntmps444;go_wp2_with fail
 generalize w.alloc (qn spZ 557)=W at bu HX HT⊢;go_wp2_with fail
 refine(PathW.cG pA qa W).mono ?_;rintro e w2⟨rfl,hb2⟩;rw[sJ.1];have az:=Hd (ai bu.o hb2);have aF:=Hd (ae hb2 HX.o);have ze:=Hd (HT.o.grow hb2);clear hb2;go_wp2_with(go_at_call 255;refine(gX _ _).mono ?_;rintro e w9 ⟨rfl,rfl⟩)
 refine(ahw w2).mono ?_;rintro e w3⟨rfl,hb3⟩;have cu:=Hd (ai az.o hb3);have jn:=Hd (ae hb3 aF.o);have zj:=Hd (ze.o.grow hb3);clear hb3;go_wp2_with(go_at_call 255;refine(gX _ _).mono ?_;rintro e w9 ⟨rfl,rfl⟩)
 refine(BY w3 zj.o).mono ?_;rintro e w4⟨rfl,hb4⟩;have dp:=Hd (ai cu.o hb4);have jA:=Hd (ae hb4 jn.o);have HT4:=Hd (zj.o.grow hb4);clear hb4;go_wp2_with fail
 have gx:=Hd (ai dp.o (aa w4 (qn #[U Z 1,qg nA,U Z 0] 557)));have yB:=Hd (ae (aa w4 (qn #[U Z 1,qg nA,U Z 0] 557)) jA.o);have HT5:=Hd (HT4.o.grow (aa w4 (qn #[U Z 1,qg nA,U Z 0] 557)));have Fu:=Hd (qA w4 (qn #[U Z 1,qg nA,U Z 0] 557));have HZ4:=Hd dp.o.size;have ZB:=Hd (qK jA.o);generalize w4.alloc (qn #[U Z 1,qg nA,U Z 0] 557)=w5 at gx yB HT5 Fu⊢;generalize w4.heap.size=sb at Fu HZ4 ZB⊢;refine(tX 1 1 (by unfold InoW.kI;decide) HK.o w5 HT5.o).mono ?_;rintro e w6⟨rfl,hb6⟩;have jd:=Hd (ai gx.o hb6);have vp:=Hd (ae hb6 yB.o);have Ja:=Hd (ae hb6 Fu.o);have HT6:=Hd (HT5.o.grow hb6);clear hb6
 go_wp2_with(go_at_call 255;refine(gX _ _).mono ?_;rintro e w9 ⟨rfl,rfl⟩)
 have c60:=aJ Ja.o 0;have uK: ∀x∈[tb,ib,db,cb],x∉[sb]:=fun x hx=>by have h1:=dO.o x hx;have h2:=HZ4.o;simp only[qS];omega
 simp only[gA,gZ]at c60;have au:qy (Ch [sb] w6 w6.drew∧w6.drew.cell? ⟨sb,0,none⟩=some (U Z 1)):=Hd ⟨(Ch.refl _ _).drew,c60⟩;refine aB 13 13 (fun X=>Ch [sb] w6 X∧X.cell? ⟨sb,0,none⟩=some (U Z 1)) qd rfl ?_;refine tN 0 37 ?_ au.o ?_ (tN 1 38 ?_ au.o ?_ (tN 2 39 ?_ au.o ?_ (tN 3 40 ?_ au.o ?_ (tN 4 41 ?_ au.o ?_ (tN 5 42 ?_ au.o ?_ (tN 6 43 ?_ au.o ?_ ?_))))))
 iterate 7
  rotate_left
  ·intro wq hq;have g0:=hq.2;obtain⟨r0,r1⟩:=(HT6.o.ag hq.1 uK).cells;exact bJ
 simp only[pS,aS,sZ,sS];refine ay 7 qd rfl rfl (al (some 44) (f:=323) (args:=#[qi (some ⟨nb,0,none⟩),U Z 1,qg nA]) rfl qf (fun u X=>(∃b,u=qj #[U Z i,.bool b])∧w6.drew=X) ((DirW.gQ nb db cb D 1 nA ⟨qa,qa⟩ w6.drew (HT6.o.ag au.o.1 uK).n).mono fun e J ⟨h1,h2⟩=>⟨_,h1,⟨_,by rw[HI.o]⟩,h2⟩) ?_);rintro u w7⟨⟨b,rfl⟩,rfl⟩;refine⟨fun _=>au.o,?_⟩;simp only[pS,aS,sZ,sS];refine tN 8 36 ?_ au.o ?_ (tN 9 45 ?_ au.o ?_ (tN 10 46 ?_ au.o ?_ (tN 11 47 ?_ au.o ?_ ?_)))
 iterate 4
  rotate_left
  ·intro wq hq;exact bJ
 simp only[pS,aS,sZ,sS];have d2:=aJ Ja.o 2;have e2:=cn Ja.o 2;simp only[gA,gZ,gS]at d2;have Uv:=Hd (av (w:=w6.drew) (i:=2) Ja.o (U Z i));have sY:qy (Ch [sb] w6 (w6.drew.setCell ⟨sb,2,none⟩ (U Z i))):=Hd (au.o.1.aq (Ch.dn (w:=w6.drew) Ja.o qa 2 _));refine ay 12 qd rfl rfl (bm none (J:=w6.drew.setCell ⟨sb,2,none⟩ (U Z i)) rfl qf ⟨fun _=>⟨sY.o,(aJ Uv.o 0)⟩,?_⟩);simp only[Act.put];refine aU qd ?_;clear c60 d2 e2 au;generalize w6.drew.setCell ⟨sb,2,none⟩ (U Z i)=w8 at Uv sY⊢;simp only[aS,sZ,sS]at Uv;obtain⟨d0,d1,d2⟩:=bS Uv.o;have HX8:=Hd (sY.o.heap vp.o (by have:=ZB.o;simp;omega))
 go_wp2_with(refine qE rfl 557 (Operand.tmp 6) _ rfl w.heap.size _ rfl rfl 557 _ HX8.o EC rfl (by simp[Value.oneCell']) ?_)
 try simp only[Act.put]
 refine aR rfl rfl rfl (qJ _ _ _ _ _ _ HX8.o) underlying557 rfl EC ?_;exact⟨rfl,aj (jd.o.trans (sY.o.below (B:=w.heap.size) (by have:=HZ4.o;simp;omega) jd.o.size)) Y _⟩
abbrev ED(i:Int):Array qp:=#[U Z 1,qg nA,U Z i]
theorem QD(b:Bool)(hb:decide (64≤DirP.cT D 1)=b)(w:qo)(h:en w rb tb ib nb db cb L nx D):
 qw qx 448 #[qi (some ⟨rb,0,none⟩),U Z 1] w fun e J=>e=qm (.bool b)∧w=J:=by
 obtain⟨r0,r1⟩:=h.cells;have HT:=Hd h;have HB:=Hd hb;clear h hb;go_enter func448,ntmps448;go_wp2_with(go_at_call 445;refine(DirW.jB nb db cb D 1 (by unfold DirW.Bt;decide) _ HT.o.n).mono ?_;rintro e w9 ⟨rfl,rfl⟩)
 go_ret;exact⟨aH (by rw[←HB.o];simp;omega),rfl⟩
theorem ZC(i:Int)(hi:InoW.kI i)(w:qo)(h:en w rb tb ib nb db cb L nx D):
 qw qx 446 #[qi (some ⟨rb,0,none⟩),.agg (ED i)] w fun e J=>e=qm (qj #[])∧en J rb tb ib nb db cb (InoP.eT L i (-1)) nx (DirP.del D (1,nA))∧Ch [tb,ib,db,cb] w J:=by
 have bu:=Hd (aa w (qn (ED i) 557));have HX:=Hd (qA w (qn (ED i) 557));have HT:=Hd (h.grow bu.o);have dO:=Hd h.lt;have HI:=Hd hi;clear h hi;go_enter func446,ntmps446;go_wp2_with fail
 generalize w.alloc (qn (ED i) 557)=W at bu HX HT⊢;obtain⟨d0,d1,d2⟩:=bS HX.o;obtain⟨r0,r1⟩:=HT.o.cells
 go_still_tail 8,qd
 change wpList _ _ _ _ _ W.drew
 have fF:qy (Ch [tb,ib,db,cb] W W.drew):=Hd (Ch.refl _ _).drew;have oS:=Hd (HT.o.ag (M:=[]) (Ch.refl [] W).drew qc);have kh:qy (W.drew.heap[w.heap.size]? =some (qn (ED i) 557 (0,0))):=HX;clear d0 d1 d2 r0 r1;generalize W.drew=W1 at fF oS kh⊢;go_wp2_with(go_at_call 453;refine(DirW.Pp nb db cb D 1 nA ⟨qa,qa⟩ _ oS.o.n).mono ?_;rintro e w2 ⟨rfl,hd2,ho2,hz2⟩;have mC:=Hd hd2;have kN:=Hd ho2;clear hd2 ho2 hz2)
 have WV:=Hd (yA oS.o.n kN.o);have ze:=Hd (oS.o.Jb WV.o mC.o);have dD:qy (Ch [tb,ib,db,cb] W w2):=Hd (fF.o.aq (WV.o.mono qc));have aF:=Hd (WV.o.heap kh.o (by have h1:=dO.o db qc;have h2:=dO.o cb qc;simp;omega));clear WV mC kN;obtain⟨d0,d1,d2⟩:=bS aF.o;obtain⟨r0,r1⟩:=ze.o.cells
 go_still_tail 6,qd
 change wpList _ _ _ _ _ w2.drew
 have jY:qy (Ch [tb,ib,db,cb] W w2.drew):=Hd dD.o.drew;have zj:=Hd (ze.o.ag (M:=[]) (Ch.refl [] w2).drew qc);clear d0 d1 d2 r0 r1;generalize w2.drew=w3 at jY zj⊢;go_wp2_with(go_at_call 486;refine(InoW.Dh i (-1) HI.o _ zj.o.t).mono ?_;rintro e w4 ⟨rfl,ht4,ho4⟩;have HI4:=Hd ht4;have gH:=Hd ho4;clear ht4 ho4)
 go_end0
 have sv:=jD zj.o.t gH.o;exact⟨rfl,zj.o.fI sv HI4.o,Ch.pre bu.o (jY.o.aq (sv.mono qc))⟩
theorem adL(i0 i:Int)(hi:InoW.kI i)(w:qo)(h:en w rb tb ib nb db cb L nx D):
 qw qx 449 #[qi (some ⟨rb,0,none⟩),.agg (ED i0),U Z i] w fun e J=>e=qm (qj #[])∧en J rb tb ib nb db cb (InoP.eT L i 1) nx (DirW.tQ D 1 nA i)∧Ch [tb,ib,db,cb] w J:=by
 have bu:=Hd (aa w (qn (ED i0) 557));have HX:=Hd (qA w (qn (ED i0) 557));have HT:=Hd (h.grow bu.o);have HI:=Hd hi;clear h hi;go_enter func449,ntmps449;go_wp2_with fail
 generalize w.alloc (qn (ED i0) 557)=W at bu HX HT⊢;obtain⟨d0,d1,d2⟩:=bS HX.o;obtain⟨r0,r1⟩:=HT.o.cells
 go_still_tail 9,qd
 change wpList _ _ _ _ _ W.drew
 have fF:qy (Ch [tb,ib,db,cb] W W.drew):=Hd (Ch.refl _ _).drew;have oS:=Hd (HT.o.ag (M:=[]) (Ch.refl [] W).drew qc);clear d0 d1 d2 r0 r1;generalize W.drew=W1 at fF oS⊢;go_wp2_with fail
 refine(DirW.TW nb db cb D 1 nA i qa ⟨qa,qa⟩ _ oS.o.n).mono ?_;rintro e w2⟨rfl,hd2,ho2,hz2⟩;have mC:=Hd hd2;have kN:=Hd ho2;clear hd2 ho2 hz2;have WV:=Hd (yA oS.o.n kN.o);have ze:=Hd (oS.o.Jb WV.o mC.o);have dD:qy (Ch [tb,ib,db,cb] W w2):=Hd (fF.o.aq (WV.o.mono qc));clear WV mC kN;obtain⟨r0,r1⟩:=ze.o.cells;go_wp2_with(go_at_call 486;refine(InoW.Dh i 1 HI.o _ ze.o.t).mono ?_;rintro e w4 ⟨rfl,ht4,ho4⟩;have HI4:=Hd ht4;have gH:=Hd ho4;clear ht4 ho4)
 go_end0
 have sv:=jD ze.o.t gH.o;exact⟨rfl,ze.o.fI sv HI4.o,Ch.pre bu.o (dD.o.aq (sv.mono qc))⟩
theorem UM(b1 b2 b3:Nat)(ino:Int)(hf:DirW.yg D 1 nA=0)(hc:decide (64≤DirP.cT D 1)=false)(hE:InoP.iu L nx 2=0)(hI:InoP.mu L nx 2=ino)(bI:InoW.kI ino)(hk:(InoW.bL L 1).k=1)(w:qo)(h:en w rb tb ib nb db cb L nx D)
 (h1:w.heap[b1]? =some (qn #[qi (some ⟨rb,0,none⟩)] 37 (0,0))) (h2:w.heap[b2]? =some (qn #[qg pA] 9 (0,0))) (h3:w.heap[b3]? =some (qn #[U Z 2] 3 (0,0))) (hb1:b1∉[tb,ib,db,cb]):
 qw qx 483 #[qi (some ⟨b1,0,none⟩),qi (some ⟨b2,0,none⟩),qi (some ⟨b3,0,none⟩)] w fun e J=>e=qm (qj #[])∧en J rb tb ib nb db cb (InoP.eT (InoP.kr L nx 2) ino 1) (InoP.kt L nx 2) (DirW.tQ D 1 nA ino)∧Ch [tb,ib,db,cb] w J:=by
 have HT:=Hd h;have HF:=Hd hf;have HC:=Hd hc;have HE:=Hd hE;have HI:=Hd hI;have uq:=Hd bI;have HK:=Hd hk;have dO:=Hd h.lt;have cq:=Hd hb1;have c1:=aJ h1 0;have c2:=aJ h2 0;have H1:=Hd h1;have H3:=Hd h3;simp only[gA,gZ]at c1 c2;clear h hf hc hE hI bI hk h1 h2 h3 hb1;go_enter func483,ntmps483;go_wp2_with fail
 refine(Jc 61 0 HF.o HK.o w HT.o).mono ?_;rintro e w2⟨rfl,hb2⟩;clear c1 c2;have az:=Hd (ai hb2 (aa w2 (qn (ED 0) 557)));have hz2:=hb2.size;obtain⟨sb,uK⟩: ∃sb,w2.heap.size=sb:=⟨_,rfl⟩;have BF:qy ((w2.alloc (qn (ED 0) 557)).heap[sb]? =some (qn (ED 0) 557 (0,0))):=Hd (by rw[←uK];exact qA w2 _);have sX:qy (w.heap.size≤sb):=Hd Y;clear hb2 hz2;go_wp2_with fail
 clear uK;generalize w2.alloc (qn (ED 0) 557)=w3 at az BF⊢;have zj:=Hd (HT.o.grow az.o);have c1:=(aC (ae az.o H1.o) 0 qc).1;have c3:=(aC (ae az.o H3.o) 0 qc).1;simp only[gA,gZ]at c1 c3;obtain⟨d0,d1,d2⟩:=bS BF.o;obtain⟨r0,r1⟩:=zj.o.cells;refine(gX _ _).mono ?_;rintro e w9⟨rfl,rfl⟩;go_wp2_with fail
 refine(QD false HC.o w3 zj.o).mono ?_;rintro e w9⟨rfl,rfl⟩;go_wp2_with fail
 refine(gX _ _).mono ?_;rintro e w9⟨rfl,rfl⟩;go_wp2_with fail
 have hn1:sb∉[tb,ib]:=by have h1:=dO.o tb qc;have h2:=dO.o ib qc;have:=sX.o;simp;omega
 have hn2:b1∉[tb,ib]:=by have:=cq.o;simp at this⊢;omega
 have au:qy (Ch [tb,ib] w3 w3.drew):=Hd (Ch.refl _ _).drew;have H13:=Hd (ae az.o H1.o);have H33:=Hd (ae az.o H3.o);clear c1 c3 d0 d1 d2 r0 r1;refine aB 11 11 (fun X=>Ch [tb,ib] w3 X) qd rfl ?_;refine tN 0 19 ?_ au.o ?_ (tN 1 20 ?_ au.o ?_ (tN 2 21 ?_ au.o ?_ (tN 3 22 ?_ au.o ?_ (tN 4 23 ?_ au.o ?_ ?_))))
 iterate 5
  rotate_left
  ·intro wq hq;have c1:=(aC (hq.heap H13.o hn2) 0 qc).1;have c3:=(aC (hq.bC _ _ _ _ H33.o qa) 0 qc).1;obtain⟨r0,r1⟩:=cp (hq.bC _ _ _ _ zj.o.head qa);simp only[gA,gZ]at c1 c3;exact bJ
 simp only[pS,aS,sZ,sS];have ZD:=Hd (zj.o.ag (M:=[]) (Ch.refl [] w3).drew qc);refine ay 5 qd rfl rfl (al (some 24) (f:=484) (args:=#[qi (some ⟨tb,0,none⟩),U Z 2]) rfl qf (fun u X=>u=qj #[U Z ino,U Z 0]∧InoW.jf X tb ib (InoP.kr L nx 2) (InoP.kt L nx 2)∧Ch [tb,ib] w3.drew X) ((InoW.NJ 2 w3.drew ZD.o.t).mono fun e J ⟨h1,h2,h3⟩=>⟨_,h1,by rw[HE.o,HI.o],h2,GC ZD.o.t h3⟩) ?_);rintro u w4⟨rfl,ht4,hc4⟩;have UN:qy (Ch [tb,ib] w3 w4):=Hd (au.o.aq hc4);have HT4:=Hd (ZD.o.fI hc4 ht4);clear ht4 hc4;refine⟨fun _=>UN.o,?_⟩;simp only[pS,aS,sZ,sS]
 refine tN 6 18 ?_ UN.o ?_ (tN 7 25 ?_ UN.o ?_ (tN 8 26 ?_ UN.o ?_ (tN 9 4 ?_ UN.o ?_ (tN 10 5 ?_ UN.o ?_ ?_))))
 iterate 5
  rotate_left
  ·intro wq hq;exact bJ
 simp only[pS,aS,sZ,sS];refine aU qd ?_;have HN4:=Hd (UN.o.heap BF.o hn1);have H14:=Hd (UN.o.heap (ae az.o H1.o) hn2);obtain⟨d0,d1,d2⟩:=bS HN4.o;have c1:=aJ H14.o 0;simp only[gA,gZ]at c1;go_wp2_with(go_at_call 255;refine(gX _ _).mono ?_;rintro e w9 ⟨rfl,rfl⟩)
 refine(adL 0 ino uq.o w4 HT4.o).mono ?_;rintro e w5⟨rfl,h5,hc5⟩;have H5:=Hd h5;have dP:=Hd hc5;clear h5 hc5 d0 d1 d2 c1;go_wp2_with fail
 go_end0
 exact⟨rfl,H5.o,Ch.pre az.o ((UN.o.mono qc).aq dP.o)⟩
theorem ZE(ino:Int)(hf:DirW.yg D 1 nA=0)(hc:decide (64≤DirP.cT D 1)=false)(hE:InoP.iu L nx 2=0)(hI:InoP.mu L nx 2=ino)(bI:InoW.kI ino)(hk:(InoW.bL L 1).k=1)(w:qo)(h:en w rb tb ib nb db cb L nx D):
 qw qx 442 #[qi (some ⟨rb,0,none⟩),qg pA,U Z 2] w fun e J=>e=qm (U Z 0)∧en J rb tb ib nb db cb (InoP.eT (InoP.kr L nx 2) ino 1) (InoP.kt L nx 2) (DirW.tQ D 1 nA ino)∧Ch [tb,ib,db,cb] w J:=by
 have HT:=Hd h;have HF:=Hd hf;have IC:=Hd hc;have HE:=Hd hE;have HI:=Hd hI;have uq:=Hd bI;have HK:=Hd hk;have dO:=Hd h.lt;have zB: ∀(fn:Fn) (first cap:Array qp) (w:qo),(Instr.makeFunc fn first cap).run qx w= .ok (.func fn first cap) w:=fun _ _ _ _=>rfl;have HW:=Hd (gz w (qn #[qi (some ⟨rb,0,none⟩)] 37) (qn #[qg pA] 9) (qn #[U Z 2] 3));clear h hf hc hE hI bI hk;go_enter func442,ntmps442;go_wp2_with fail
 generalize((w.alloc (qn #[qi (some ⟨rb,0,none⟩)] 37)).alloc (qn #[qg pA] 9)).alloc (qn #[U Z 2] 3)=W at HW⊢;obtain⟨hA,hB,hC,hb,hz⟩:=HW.o;have HA:=Hd hA;have HB:=Hd hB;have HC:=Hd hC;have lH:=Hd hb;have HZ:=Hd hz;have HN:qy (∀x∈[tb,ib,db,cb],x∉[W.heap.size]):=Hd fun x hx=>by have:=dO.o x hx;simp;omega
 clear hA hB hC hb hz HW;go_wp2_with fail
 refine(tY (rb:=rb) 483 _ W (fun x=>en x rb tb ib nb db cb (InoP.eT (InoP.kr L nx 2) ino 1) (InoP.kt L nx 2) (DirW.tQ D 1 nA ino)∧Ch [tb,ib,db,cb] w x) (fun W=>by go_simp) ?_ ?_).mono ?_
 ·intro w1 hw1;refine(UM w.heap.size (w.heap.size+1) (w.heap.size+1+1) ino HF.o IC.o HE.o HI.o uq.o HK.o w1 (HT.o.grow (ai lH.o hw1)) (ae hw1 HA.o) (ae hw1 HB.o) (ae hw1 HC.o) (fun hx=>qZ (dO.o _ hx) Y)).mono ?_;rintro e w2⟨rfl,h2,hc2⟩;exact⟨rfl,⟨h2,Ch.pre (ai lH.o hw1) hc2⟩,fun o ho=>hc2.heap ho fun hx=>qZ (dO.o _ hx) (by have:=HZ.o;omega)⟩
 ·rintro w2 w3⟨h1,h2⟩hc;exact⟨h1.ag hc HN.o,h2.trans hc (by have:=HZ.o;simp;omega)⟩
 rintro e w2⟨rfl,h1,h2⟩;have H1:=Hd h1;have H2:=Hd h2;clear h1 h2;go_wp2
 go_ret;exact⟨rfl,H1.o,H2.o⟩
theorem QE(ino:Int)(hf:DirW.yg D 1 nA=0)(hc:decide (64≤DirP.cT D 1)=false)(hE:InoP.iu L nx 2=0)(hI:InoP.mu L nx 2=ino)(bI:InoW.kI ino)(hk:(InoW.bL L 1).k=1)(w:qo)(h:en w rb tb ib nb db cb L nx D):
 qw qx 407 #[qi (some ⟨rb,0,none⟩),qg pA] w fun e J=>e=qm (U Z 0)∧en J rb tb ib nb db cb (InoP.eT (InoP.kr L nx 2) ino 1) (InoP.kt L nx 2) (DirW.tQ D 1 nA ino)∧Ch [tb,ib,db,cb] w J:=by
 have HM:=Hd (ZE ino hf hc hE hI bI hk w h);clear h hf hc hE hI bI hk;go_enter func407,ntmps407;go_wp2_with fail
 refine HM.o.mono ?_;rintro e w2⟨rfl,h1,h2⟩;have H1:=Hd h1;have H2:=Hd h2;clear h1 h2 HM;go_wp2
 go_ret;exact⟨rfl,H1.o,H2.o⟩
theorem LI(b1 b2:Nat)(i:Int)(hf:DirW.yg D 1 nA=i)(hi0:(i==0)=false)(bI:InoW.kI i)(MH:(InoW.bL L i).k=2)(hk:(InoW.bL L 1).k=1)(w:qo)(h:en w rb tb ib nb db cb L nx D)
 (h1:w.heap[b1]? =some (qn #[qi (some ⟨rb,0,none⟩)] 37 (0,0))) (h2:w.heap[b2]? =some (qn #[qg pA] 9 (0,0))):
 qw qx 450 #[qi (some ⟨b1,0,none⟩),qi (some ⟨b2,0,none⟩)] w fun e J=>e=qm (qj #[])∧en J rb tb ib nb db cb (InoP.eT L i (-1)) nx (DirP.del D (1,nA))∧Ch [tb,ib,db,cb] w J:=by
 have HT:=Hd h;have HF:=Hd hf;have uq:=Hd bI;have HK:=Hd hk;have KX:=Hd MH;have c1:=aJ h1 0;have c2:=aJ h2 0;have H1:=Hd h1;simp only[gA,gZ]at c1 c2;clear h hf bI MH hk h1 h2;go_enter func450,ntmps450;go_wp2_with fail
 refine(Jc 70 i HF.o HK.o w HT.o).mono ?_;rintro e w2⟨rfl,hb2⟩;clear c1 c2;have az:=Hd (ai hb2 (aa w2 (qn (ED i) 557)));obtain⟨sb,uK⟩: ∃sb,w2.heap.size=sb:=⟨_,rfl⟩;have BF:qy ((w2.alloc (qn (ED i) 557)).heap[sb]? =some (qn (ED i) 557 (0,0))):=Hd (by rw[←uK];exact qA w2 _);clear hb2;go_wp2_with fail
 clear uK;generalize w2.alloc (qn (ED i) 557)=w3 at az BF⊢;have zj:=Hd (HT.o.grow az.o);have c1:=(aC (ae az.o H1.o) 0 qc).1;simp only[gA,gZ]at c1;obtain⟨d0,d1,d2⟩:=bS BF.o;refine(gX _ _).mono ?_;rintro e w9⟨rfl,rfl⟩;go_wp2_with fail
 refine(tX i 2 uq.o KX.o w3 zj.o).mono ?_;rintro e w4⟨rfl,hb4⟩;have dp:=Hd (ai az.o hb4);have HT4:=Hd (zj.o.grow hb4);have HN4:=Hd (ae hb4 BF.o);clear hb4 c1 d0 d1 d2;have c1:=(aC (ae dp.o H1.o) 0 qc).1;simp only[gA,gZ]at c1;obtain⟨d0,d1,d2⟩:=bS HN4.o;go_wp2_with(go_at_call 255;refine(gX _ _).mono ?_;rintro e w9 ⟨rfl,rfl⟩)
 refine(ZC i uq.o w4 HT4.o).mono ?_;rintro e w5⟨rfl,h5,hc5⟩;have H5:=Hd h5;have dP:=Hd hc5;clear h5 hc5 d0 d1 d2 c1;go_wp2_with fail
 go_end0
 exact⟨rfl,H5.o,Ch.pre dp.o dP.o⟩
theorem QF(i:Int)(hf:DirW.yg D 1 nA=i)(hi0:(i==0)=false)(bI:InoW.kI i)(MH:(InoW.bL L i).k=2)(hk:(InoW.bL L 1).k=1)(w:qo)(h:en w rb tb ib nb db cb L nx D):
 qw qx 409 #[qi (some ⟨rb,0,none⟩),qg pA] w fun e J=>e=qm (U Z 0)∧en J rb tb ib nb db cb (InoP.eT L i (-1)) nx (DirP.del D (1,nA))∧Ch [tb,ib,db,cb] w J:=by
 have HT:=Hd h;have HF:=Hd hf;have HI0:=Hd hi0;have uq:=Hd bI;have HK:=Hd hk;have KX:=Hd MH;have dO:=Hd h.lt;have zB: ∀(fn:Fn) (first cap:Array qp) (w:qo),(Instr.makeFunc fn first cap).run qx w= .ok (.func fn first cap) w:=fun _ _ _ _=>rfl;have HW:=Hd (aP w (qn #[qi (some ⟨rb,0,none⟩)] 37) (qn #[qg pA] 9));clear h hf hi0 bI MH hk;go_enter func409,ntmps409;go_wp2_with fail
 generalize(w.alloc (qn #[qi (some ⟨rb,0,none⟩)] 37)).alloc (qn #[qg pA] 9)=W at HW⊢;obtain⟨hA,hB,hb,hz⟩:=HW.o;have HA:=Hd hA;have HB:=Hd hB;have lH:=Hd hb;have HZ:=Hd hz;have HN:qy (∀x∈[tb,ib,db,cb],x∉[W.heap.size]):=Hd fun x hx=>by have:=dO.o x hx;simp;omega
 clear hA hB hb hz HW;go_wp2_with fail
 refine(tY (rb:=rb) 450 _ W (fun x=>en x rb tb ib nb db cb (InoP.eT L i (-1)) nx (DirP.del D (1,nA))∧Ch [tb,ib,db,cb] w x) (fun W=>by go_simp) ?_ ?_).mono ?_
 ·intro w1 hw1;refine(LI w.heap.size (w.heap.size+1) i HF.o HI0.o uq.o KX.o HK.o w1 (HT.o.grow (ai lH.o hw1)) (ae hw1 HA.o) (ae hw1 HB.o)).mono ?_;rintro e w2⟨rfl,h2,hc2⟩;exact⟨rfl,⟨h2,Ch.pre (ai lH.o hw1) hc2⟩,fun o ho=>hc2.heap ho fun hx=>qZ (dO.o _ hx) (by have:=HZ.o;omega)⟩
 ·rintro w2 w3⟨h1,h2⟩hc;exact⟨h1.ag hc HN.o,h2.trans hc (by have:=HZ.o;simp;omega)⟩
 rintro e w2⟨rfl,h1,h2⟩;have H1:=Hd h1;have H2:=Hd h2;clear h1 h2;go_wp2
 go_ret;exact⟨rfl,H1.o,H2.o⟩
theorem gj(rb tb nb:Nat)(w:qo)(h:w.cell? ⟨rb,0,none⟩=some (qi (some ⟨tb,0,none⟩))):
 qw qx 13 #[qi (some ⟨rb,0,none⟩)] w fun e J=>e=qm (qi (some ⟨tb,0,none⟩))∧w=J:=by
 go_enter func13,ntmps13;go_wp2
 go_ret;exact⟨rfl,rfl⟩
