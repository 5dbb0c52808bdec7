/- Part 7 of the texts that the law's walk needs. -/
import Derived.Test.YtimabpfjjpjfjaaGreatDoorM03
import Derived.Test.YtimabpfjjpjfjaaGreatDoorM06
import Derived.Lib.SlKeysI
import Derived.Laws.ResultCell
import Derived.Laws.Rows
set_option maxHeartbeats 3200000
set_option maxRecDepth 100000
set_option linter.all false
open Go renaming Addr→qt,Value→qp,World→qo,Calls→qw
open Go.Value renaming agg→ql,int→U,slice→qh,pointer→qi,tuple→qj,bool→qk
open Go.IntKind renaming i64→Z
open Go.Obj renaming cells→qn
open Go.RowKit renaming Below→qz,Hid→qy
open Go.Ending renaming returned→qm
namespace Go.Proofs.YtimabpfjjpjfjaaGreatDoor
open Tryz
open Tryz renaming prog→qx
namespace InoW
open Go.RowKit InoP ExtW
open Go.Maps (Keyed)
open Go.MapKept Go.WideShapes
open Go.WideElems (Fit rd rg rd_key rg_of)
structure IV where
 i:Int
 k:Int
 l:Int
 o:Int
 s:Int
 oa:Option qt
 n:Nat
 c:Nat
def ivV(y:IV):qp:=ql #[U Z y.i,U Z y.k,U Z y.l,U Z y.o,U Z y.s,qh y.oa y.n y.c]
def iV(i:Int):qp:=U Z i
def kI(i:Int):Prop:=(Lit.int .i64 i).wf=true
theorem ew{i:Int}(h: -9223372036854775808≤i∧i≤9223372036854775807):kI i:=by
 unfold kI;simp[Lit.wf,IntKind.min,IntKind.max,IntKind.signed,IntKind.bits];omega
theorem sW:MK qx 3 iV kI:=⟨Maps.int_keyed underlying3,fun x h=>⟨_,Maps.keyOf_int_mk underlying3 h⟩,fun x y h=>by simpa [iV]using h⟩
theorem NC(w:qo):(zeroValue 95).run qx w= .ok (ivV ⟨0,0,0,0,0,none,0,0⟩) w:=qd
def De(w:qo)(b n:Nat)(g:Int→Option IV):Prop:=an iV kI ivV w b n g
def lj(w:qo)(g:Nat):Prop:= ∃cs fr,w.heap[g]? =some (qn cs 384 fr)
theorem lj.grow{w J:qo}{g:Nat}(h:lj w g)(k:qz w.heap.size w J):lj J g:=by
 obtain⟨cs,fr,h⟩:=h;exact⟨cs,fr,(k.block g (qK h)).trans h⟩
theorem lj.only{w J:qo}{g c:Nat}(h:lj w g)(k:ax c w J)(bd:g≠c):lj J g:=by
 obtain⟨cs,fr,h⟩:=h;exact⟨cs,fr,ax.heap k h bd⟩
theorem lj.row{B n c:Nat}{w:qo}{oa:Option qt}{l:List Pt}(h:Row B w (qh oa n c) l): ∀a,oa=some a→lj w a.block:=by
 intro a ha;rcases h.2 with⟨e,h0⟩|⟨g,cap',cur,e,h1,h2,h3,h4,h5,h6⟩
 ·simp only[Value.slice.injEq]at e;rw[e.1]at ha;cases ha
 ·simp only[Value.slice.injEq]at e;rw[e.1]at ha;injection ha with ha
  subst ha;exact⟨_,_,h2⟩
structure ic(w:qo)(tb b:Nat)(x:dw)(y:IV):Prop where
 i:y.i=x.i
 k:y.k=x.k
 l:y.l=x.l
 o:y.o=x.o
 s:y.s=x.s
 n:y.n=x.p.length
 sU:et w.heap.size y.oa x.p w
 fO: ∀a,y.oa=some a→a.block≠tb∧a.block≠b
 nil:y.oa=none→y.n=0∧y.c=0
 ty: ∀a,y.oa=some a→lj w a.block
theorem Df{B c:Nat}{oa:Option qt}{l:List Pt}{w J:qo}(h:et B oa l w)(ho:ax c w J)(hB:B≤w.heap.size)(bd: ∀a,oa=some a→a.block≠c):et B oa l J:=by
 intro i x hx;obtain⟨a,h1,h2,d0,d1,d2,d3⟩:=h i x hx;have hb:J.heap[a.block]? =w.heap[a.block]? :=ho.block _ Y (fun e=>bd a h1 (by injection e));have hc: ∀q:qt,q.block=a.block→J.cell? q=w.cell? q:=fun q hq=>by unfold World.cell?;rw[hq,hb]
 exact⟨a,h1,h2,(hc (a.add (i*4)) (bA _ _)).trans d0,(hc ⟨(a.add (i*4)).block,(a.add (i*4)).off+1,none⟩ (bA _ _)).trans d1,
  (hc ⟨(a.add (i*4)).block,(a.add (i*4)).off+2,none⟩ (bA _ _)).trans d2,(hc ⟨(a.add (i*4)).block,(a.add (i*4)).off+3,none⟩ (bA _ _)).trans d3⟩
theorem ic.grow{w J:qo}{tb b:Nat}{x:dw}{y:IV}(h:ic w tb b x y)(k:qz w.heap.size w J):ic J tb b x y:=
 {h with sU:=h.sU.grow k,ty:=fun a ha=>(h.ty a ha).grow k}
theorem ic.only{w J:qo}{tb b c:Nat}{x:dw}{y:IV}(h:ic w tb b x y)(k:ax c w J)(hc:c=tb∨c=b):ic J tb b x y:=
 {h with sU:=(Df h.sU k (Nat.le_refl _) fun a ha=>by
  have:=h.fO a ha;rcases hc with rfl|rfl
  ·exact this.1
  ·exact this.2).mono k.size,ty:=fun a ha=>(h.ty a ha).only k (by have:=h.fO a ha;rcases hc with rfl|rfl;exact this.1;exact this.2)}
structure jf(w:qo)(tb b:Nat)(L:List dw)(next:Int):Prop where
 head:w.heap[tb]? =some (qn #[.map (some b),U Z next] 97 (0,0))
 map: ∃n g,De w b n g∧(∀i,find L i=none→g i=none)∧ ∀i x,find L i=some x→ ∃y,g i=some y∧ic w tb b x y
 cV:im L next
variable{w J:qo}{tb b:Nat}{L:List dw}{next:Int}
theorem jf.ne(h:jf w tb b L next):tb≠b:=by
 rintro rfl;obtain⟨n,g,⟨es,clock,hm,_⟩,_⟩:=h.map;rw[h.head]at hm;cases hm
theorem jf.lt(h:jf w tb b L next):tb<w.heap.size∧b<w.heap.size:=by
 obtain⟨n,g,hm,_⟩:=h.map;exact⟨qK h.head,an.lt hm⟩
theorem jf.grow(h:jf w tb b L next)(k:qz w.heap.size w J):jf J tb b L next:=
 ⟨(k.block tb h.lt.1).trans h.head,by
   obtain⟨n,g,hm,h1,h2⟩:=h.map;exact⟨n,g,an.ag hm k,h1,fun i x hx=>by obtain⟨y,hy,hr⟩:=h2 i x hx;exact⟨y,hy,hr.grow k⟩⟩,h.cV⟩
theorem jf.m0(h:jf w tb b L next):w.cell? ⟨tb,0,none⟩=some (.map (some b))∧w.cell? ⟨tb,1,none⟩=some (U Z next)∧w.frozen? ⟨tb,0,none⟩=false∧w.frozen? ⟨tb,1,none⟩=false:=
 ⟨(aJ h.head 0),(aJ h.head 1),(cn h.head 0),(cn h.head 1)⟩
def zu(e:MapEntry):Int:=match e.key with| .int _ x=>x|_=>0
theorem Ae{n:Nat}{g:Int→Option IV}(h:De w b n g){ks:List Int}(hn:ks.Nodup)(hm: ∀i,i∈ks↔g i≠none)(hs:ks.length≤1000):
 ∃D0:DataW Unit,w.ownsMap qx 3 (fun _=>some (.nil,[])) b ks.length D0∧(intKeys D0).Perm ks∧Maps.size D0=ks.length∧ ∀ty,(Builtin.len_ #[92] ty #[.map (some b)]).run qx w= .ok (.int .i64 (ks.length:Nat)) w:=by
 obtain⟨es,clock,hb,_,S,E⟩:=h
 have hk: ∀e∈es.toList,e.key= .int .i64 (zu e)∧(Lit.int .i64 (zu e)).wf=true∧zu e∈ks:=fun e he=>by
  obtain⟨x,y,h1,h2,_,h4⟩:=E.1 e he;have e1:zu e=x:=by unfold zu;rw[h1];rfl
  rw[e1];exact⟨h1,h2,(hm x).2 (by rw[h4];simp)⟩
 have Sx:(es.toList.map zu).Nodup:=by
  have h3:=((stamped_iff es clock).1 S).2.2;exact List.pairwise_map.2 (h3.imp_of_mem fun ha hb bd e=>bd (by rw[(hk _ ha).1,(hk _ hb).1,e]))
 have Dg:(es.toList.map zu).Perm ks:=(List.perm_ext_iff_of_nodup Sx hn).2 fun i=>by
  constructor
  ·intro hi;obtain⟨e,he,rfl⟩:=List.mem_map.1 hi;exact(hk e he).2.2
  ·intro hi
   cases hg:g i with
   |none=>exact qZ hg ((hm i).1 hi)
   |some y=>
    obtain⟨e,he,hke⟩:=E.2 i y hg;exact List.mem_map.2 ⟨e,he,by unfold zu;rw[hke];rfl⟩
 have hlen:es.size=ks.length:=by have:=Dg.length_eq;simpa using this
 have rU: ∀e∈es.toList,rd qx 3 (fun _=>some ((.nil:DataW Unit),([]:List MemPlace))) e=some (.int .i64 (zu e),.nil):=fun e he=>by
  unfold rd;rw[(hk e he).1,Maps.keyOf_int_mk underlying3 (hk e he).2.1];rfl
 have F:Fit qx 3 (fun _=>some ((.nil:DataW Unit),([]:List MemPlace))) es clock:=⟨by unfold maxLen;omega,S,fun e he=>⟨_,rU e he⟩⟩;refine⟨_,⟨es,clock,hb,F,Y,rfl⟩,?_,?_⟩
 ·show(List.map (fun p=>intOf p.1) ((es.toList.map (rg qx 3 (fun _=>some ((.nil:DataW Unit),([]:List MemPlace))))).foldr DataW.insert [])).Perm ks;refine((sorted_perm _).map _).trans ?_;rw[List.map_map]
  have e2:List.map ((fun p:Lit×DataW Unit=>intOf p.1)∘rg qx 3 (fun _=>some ((.nil:DataW Unit),([]:List MemPlace)))) es.toList=es.toList.map zu:=
   List.map_congr_left fun e he=>by
    simp only[Function.comp];rw[rg_of (rU e he)];rfl
  rw[e2];exact Dg
 ·refine⟨by simp[Maps.size,length_sorted,hlen],fun ty=>?_⟩;rw[run_len_map w 92 ty b es clock qd hb,hlen];rfl
theorem Ii{g:Int→Option IV}(hg:im L next)(h1: ∀i,find L i=none→g i=none)(h2: ∀i x,find L i=some x→ ∃y,g i=some y∧ic w tb b x y):
 (L.map (·.i)).Nodup∧ ∀i,i∈L.map (·.i)↔g i≠none:=by
 refine⟨((lL L).1 hg.dU).imp fun h=>by omega,fun i=>⟨fun hi=>?_,fun hi=>?_⟩⟩
 ·obtain⟨x,hx,rfl⟩:=List.mem_map.1 hi;obtain⟨y,hy,_⟩:=h2 _ x (uo hg.dU hx);rw[hy];simp
 ·cases hf:find L i with
  |none=>exact qZ (h1 i hf) hi
  |some x=>
   obtain⟨hx,rfl⟩:=gJ hf;exact List.mem_map.2 ⟨x,hx,rfl⟩
end InoW
namespace InoW
open Go.RowKit InoP ExtW
open Go.MapKept
variable{w:qo}{tb b:Nat}{L:List dw}{next:Int}
theorem aY{P:Program}{fn:Func}{R:Ending→qo→Prop}{a:Act}{w:qo}{p u:Tmp}{ty:TypeId}{g:Nat}{cs:Array qp}{d:TypeDesc}{t:TypeId}{fr:Nat×Nat}(Bz:fn.results=#[.cell p ty,.tmp u])
 (hp:a.tmps.getD p undef=qi (some ⟨g,0,none⟩)) (hd0:a.defers=[]) (hg:w.heap[g]? =some (qn cs t fr)) (hu:P.underlying ty=some d) (hd:(match d with| .struct _| .array _ _=>true|_=>false)=true)
 (hi:(P.info? ty).map (·.size)=some cs.size) (hR:R (qm (qj #[ql cs,a.tmps.getD u undef])) w):bodyPost P fn R .ret a w:=
 xB (by rw[results_cell_tmp Bz,hp];simp[asAddr,Result.andThen,run_loadVar_row w g t ty cs fr d hg hu hd hi]) hd0 hR
theorem kv:(prog.info? 95).map (·.size)=some 6:=qd
def Kn(w:qo)(b:Nat)(y:IV):Prop:=w.heap[b]? =some (qn #[U Z y.i,U Z y.k,U Z y.l,U Z y.o,U Z y.s,qh y.oa y.n y.c] 95 (0,0))
theorem Kn.cells{w:qo}{b:Nat}{y:IV}(h:Kn w b y):w.cell? ⟨b,0,none⟩=some (U Z y.i)∧w.cell? ⟨b,1,none⟩=some (U Z y.k)∧w.cell? ⟨b,2,none⟩=some (U Z y.l)∧w.cell? ⟨b,3,none⟩=some (U Z y.o)∧w.cell? ⟨b,4,none⟩=some (U Z y.s)∧w.cell? ⟨b,5,none⟩=some (qh y.oa y.n y.c):=
 ⟨(aJ h 0),(aJ h 1),(aJ h 2),(aJ h 3),(aJ h 4),(aJ h 5)⟩
structure Op(w:qo)(tb b n:Nat)(g:Int→Option IV)(L:List dw)(next:Int):Prop where
 m:De w b n g
 no: ∀i,find L i=none→g i=none
 yes: ∀i x,find L i=some x→ ∃y,g i=some y∧ic w tb b x y
theorem jf.op(h:jf w tb b L next): ∃n g,Op w tb b n g L next:=by
 obtain⟨n,g,h1,h2,h3⟩:=h.map;exact⟨n,g,h1,h2,h3⟩
theorem jf.len(h:jf w tb b L next)(ty:TypeId):(Builtin.len_ #[92] ty #[.map (some b)]).run qx w= .ok (U Z (L.length:Nat)) w:=by
 obtain⟨n,g,h1,h2,h3⟩:=h.map;obtain⟨k1,k2⟩:=Ii h.cV h2 h3;obtain⟨D0,_,_,_,h4⟩:=Ae h1 k1 k2 (by simp;have:=h.cV.len;omega);rw[h4];simp
theorem lO(w:qo):qw qx 114 #[] w fun e J=>e=qm (qi (some ⟨w.heap.size+1,0,none⟩))∧jf J (w.heap.size+1) w.heap.size [root] 2∧qz w.heap.size w J:=by
 have Ij:= @run_makeMap qx;have H0:qy (De (w.alloc (.map #[] 0)) w.heap.size 0 (fun _=>none)):=Hd (an.made w);obtain⟨w5,dV,hm5,ho5,hs5⟩:=an.store H0.o sW underlying92 1 ⟨1,1,1,0,0,none,0,0⟩ (ew Y);have Wh:(Instr.mapUpdate 92 (.map (some w.heap.size)) (U Z 1) (ql #[U Z 1,U Z 1,U Z 1,U Z 0,U Z 0,qh none 0 0])).run qx (w.alloc (.map #[] 0))= .ok () w5:=dV;have ou:=Hd hm5;have eV:=Hd ho5;have hs:w5.heap.size=w.heap.size+1:=by rw[hs5];simp
 clear dV hm5 ho5 hs5;go_enter func114,ntmps114;go_wp2_with fail
 go_ret;have hb0:qz w.heap.size w w5:=(aa w (.map #[] 0)).trans (eV.o.below (Nat.le_refl _) qc);refine⟨rfl,⟨?_,⟨1,_,an.ag ou.o (aa _ _),fun i hi=>?_,fun i x hx=>?_⟩,JV⟩,hb0.trans ((aa w5 _).mono Y)⟩
 ·rw[←hs];exact qA w5 _
 ·have:=zY.1 hi root qc;show(if i=1 then _ else none)=none;rw[qB (fun e=>this e.symm)]
 ·obtain⟨hm,rfl⟩:=gJ hx;obtain rfl:x=root:=by simpa using hm
  exact⟨⟨1,1,1,0,0,none,0,0⟩,rfl,rfl,rfl,rfl,rfl,rfl,rfl,fun j z hz=>by simp[root]at hz,fun a ha=>by simp at ha,fun _=>⟨rfl,rfl⟩,fun a ha=>by simp at ha⟩
theorem Tc(n:Nat)(g:Int→Option IV)(i:Int)(hi:kI i)(y:IV)(hy:g i=some y)(w:qo)(h0:w.cell? ⟨tb,0,none⟩=some (.map (some b)))(hm:De w b n g):
 qw qx 258 #[qi (some ⟨tb,0,none⟩),U Z i] w fun e J=>e=qm (qj #[ivV y,qk true])∧qz w.heap.size w J:=by
 have HM:=Hd (an.alloc hm (qn #[U Z 0,U Z 0,U Z 0,U Z 0,U Z 0,qh none 0 0] 95));have h1:=aA (o:=qn #[U Z 0,U Z 0,U Z 0,U Z 0,U Z 0,qh none 0 0] 95) h0;have HY:=Hd hy;have HI:=Hd hi;clear hm hy hi h0;go_enter func258,ntmps258;go_wp2_with(at_lookup;go_loud (refine bD _ rfl _ _ 92 95 true rfl sW underlying92 _ (NC _) b n g HM.o (by rfl) i HI.o (by rfl) y HY.o (ql #[U Z y.i,U Z y.k,U Z y.l,U Z y.o,U Z y.s,qh y.oa y.n y.c]) rfl ?_;simp only[if_true]))
 refine aY (p:=4) (u:=5) rfl rfl rfl ((xm _ _ qc).trans (qA w _)) underlying95 rfl kv ?_;exact⟨rfl,ai (aa w _) (aa _ _)⟩
theorem XX(n:Nat)(g:Int→Option IV)(i:Int)(hi:kI i)(hy:g i=none)(w:qo)(h0:w.cell? ⟨tb,0,none⟩=some (.map (some b)))(hm:De w b n g):
 qw qx 258 #[qi (some ⟨tb,0,none⟩),U Z i] w fun e J=>e=qm (qj #[ql #[U Z 0,U Z 0,U Z 0,U Z 0,U Z 0,qh none 0 0],qk false])∧qz w.heap.size w J:=by
 have HM:=Hd (an.alloc hm (qn #[U Z 0,U Z 0,U Z 0,U Z 0,U Z 0,qh none 0 0] 95));have h1:=aA (o:=qn #[U Z 0,U Z 0,U Z 0,U Z 0,U Z 0,qh none 0 0] 95) h0;have HY:=Hd hy;have HI:=Hd hi;clear hm hy hi h0;go_enter func258,ntmps258;go_wp2_with(at_lookup;go_loud (refine bE _ rfl _ _ 92 95 true rfl sW underlying92 _ (NC _) b n g HM.o (by rfl) i HI.o (by rfl) HY.o ?_;unfold ivV;simp only[if_true]))
 refine aY (p:=4) (u:=5) rfl rfl rfl ((xm _ _ qc).trans (qA w _)) underlying95 rfl kv ?_;exact⟨rfl,ai (aa w _) (aa _ _)⟩
theorem jf.set{J:qo}(h:jf w tb b L next){n':Nat}{g':Int→Option IV}{L':List dw}(hm:De J b n' g')(ho:ax b w J)(hg:im L' next)
 (h1: ∀i,find L' i=none→g' i=none) (h2: ∀i x,find L' i=some x→ ∃y,g' i=some y∧ic w tb b x y):jf J tb b L' next:=
 ⟨ax.heap ho h.head h.ne,⟨n',g',hm,h1,fun i x hx=>by obtain⟨y,hy,hr⟩:=h2 i x hx;exact⟨y,hy,hr.only ho (.inr rfl)⟩⟩,hg⟩
theorem ND{n:Nat}{g:Int→Option IV}(o:Op w tb b n g L next){x x0:dw}{y:IV}(hf:find L x.i=some x0)(hr:ic w tb b x y):
 (∀i,find (oX L x) i=none→(if i=x.i then some y else g i)=none)∧ ∀i z,find (oX L x) i=some z→ ∃u,(if i=x.i then some y else g i)=some u∧ic w tb b z u:=by
 have e:=MU L x x0 hf;refine⟨fun i hi=>?_,fun i z hz=>?_⟩
 ·rw[e]at hi;by_cases c:i=x.i
  ·simp[c]at hi
  ·simp only[qB c]at hi⊢;exact o.no i hi
 ·rw[e]at hz;by_cases c:i=x.i
  ·simp only[qH c]at hz⊢;injection hz with hz
   exact⟨y,rfl,hz▸hr⟩
  ·simp only[qB c]at hz⊢;exact o.yes i z hz
theorem XY{n:Nat}{g:Int→Option IV}(o:Op w tb b n g L next){x:dw}{y:IV}:
 (∀i,find (del L x.i) i=none→(if i=x.i then none else(if i=x.i then some y else g i))=none)∧ ∀i z,find (del L x.i) i=some z→ ∃u,(if i=x.i then none else(if i=x.i then some y else g i))=some u∧ic w tb b z u:=by
 have e:=MV L x.i;refine⟨fun i hi=>?_,fun i z hz=>?_⟩
 ·rw[e]at hi;by_cases c:i=x.i
  ·simp[c]
  ·simp only[qB c]at hi⊢;exact o.no i hi
 ·rw[e]at hz;by_cases c:i=x.i
  ·simp[c]at hz
  ·simp only[qB c]at hz⊢;exact o.yes i z hz
theorem Op.grow{J:qo}{n:Nat}{g:Int→Option IV}(o:Op w tb b n g L next)(k:qz w.heap.size w J):Op J tb b n g L next:=
 ⟨an.ag o.m k,o.no,fun i x hx=>by obtain⟨y,hy,hr⟩:=o.yes i x hx;exact⟨y,hy,hr.grow k⟩⟩
theorem dW{b:Nat}{w J:qo}(h:ax b w.drew J):ax b w J:=⟨h.os,h.tape,h.output,h.size,h.block⟩
theorem NF(x x0:dw)(y:IV)(may:Bool)(hf:find L x.i=some x0)(hg:kX x)(w:qo)(h:jf w tb b L next)(hr:ic w tb b x y):
 qw qx 457 #[qi (some ⟨tb,0,none⟩),ql #[U Z y.i,U Z y.k,U Z y.l,U Z y.o,U Z y.s,qh y.oa y.n y.c],qk may] w fun e J=>e=qm (U Z 0)∧jf J tb b (gL L x may) next∧ax b w J:=by
 obtain⟨n,g,op⟩:=h.op;have hb1:=aa w (qn #[U Z y.i,U Z y.k,U Z y.l,U Z y.o,U Z y.s,qh y.oa y.n y.c] 95);have H1:=Hd (h.grow hb1);have OP:=Hd (op.grow hb1);have h0:=H1.o.m0.1;have ago:=h.cV.num _ (gJ hf).1;have hnx:=h.cV.next;have hxi:=(gJ hf).2;have Sk:=hg.l;have hoo:=hg.o;have HI:qy (kI y.i):=Hd (ew (by rw[hr.i];omega));have HF:=Hd hf;have HG:=Hd hg;have HR:=Hd (hr.grow hb1);have cq:=Hd hb1;have hw1:IntKind.i64.wrap (y.l+y.o)=y.l+y.o:=qO _ (by rw[hr.l,hr.o];omega);have Ko:=hr.l;have hyo:=hr.o;have dO:=Hd h.lt
 have fu:qy (Kn (w.alloc (qn #[U Z y.i,U Z y.k,U Z y.l,U Z y.o,U Z y.s,qh y.oa y.n y.c] 95)) w.heap.size y):=Hd (qA w _);obtain⟨c0,c1,c2,c3,c4,c5⟩:=fu.o.cells;clear h hf hg hr hb1 op ago hnx hxi
 cases may with
 |false=>
  clear hw1 Ko hyo Sk hoo;go_enter func457,ntmps457;go_wp2_with fail
  generalize w.alloc (qn #[U Z y.i,U Z y.k,U Z y.l,U Z y.o,U Z y.s,qh y.oa y.n y.c] 95)=w1 at*
  go_still_tail 7,qd
  clear c0 c1 c2 c3 c4 c5;go_wp2_with(at_mapUpdate;go_loud (refine bl _ rfl _ _ _ 92 95 rfl sW underlying92 b n g (an.drew OP.o.m) (by rfl) y.i y HI.o (by rfl) (by rfl) ?_;intro w5 hm5 ho5 hs5;have ou:=Hd hm5;have eV:qy (ax b w1 w5):=Hd (dW (w:=w1) ho5);clear hm5 ho5 hs5))
  go_ret;have hk:gL L x false=oX L x:=by unfold gL;rw[qB qc]
  obtain⟨q1,q2⟩:=ND OP.o HF.o HR.o;rw[←HR.o.i]at q1 q2
  exact⟨rfl,by rw[hk];exact H1.o.set ou.o eV.o (H1.o.cV.oX HF.o HG.o) q1 q2,(ax.af cq.o).trans eV.o⟩
 |true=>
  by_cases hz:y.l+y.o=0
  ·have hz2:(y.l+y.o==0)=true:=by rw[beq_iff_eq];exact hz
   have HK:qy (gL L x true=del L x.i):=Hd (by unfold gL;rw[qH ⟨rfl,by rw[←Ko,←hyo];exact hz⟩]);clear Ko hyo Sk hoo hz;go_enter func457,ntmps457;go_wp2_with fail
   generalize w.alloc (qn #[U Z y.i,U Z y.k,U Z y.l,U Z y.o,U Z y.s,qh y.oa y.n y.c] 95)=w1 at*
   go_still_tail 7,qd
   clear c0 c1 c2 c3 c4 c5 h0;go_wp2_with(at_mapUpdate;go_loud (refine bl _ rfl _ _ _ 92 95 rfl sW underlying92 b n g (an.drew OP.o.m) (by rfl) y.i y HI.o (by rfl) (by rfl) ?_;intro w5 hm5 ho5 hs5;have ou:=Hd hm5;have eV:qy (ax b w1 w5):=Hd (dW (w:=w1) ho5);obtain⟨c0,c1,c2,c3,c4,c5⟩:=Kn.cells (ax.heap eV.o fu.o (by have:=dO.o;omega));have h0:=(aC (ax.heap eV.o H1.o.head H1.o.ne) 0 qc).1;simp only[gA,gZ]at h0;clear hm5 ho5 hs5))
   go_still_tail 6,qd
   clear c0 c1 c2 c3 c4 c5 h0;go_wp2_with(at_delete;go_loud (refine eS _ rfl _ _ 92 95 rfl sW underlying92 b (n+1) _ (an.drew ou.o) (by rfl) y.i HI.o (by rfl) ?_;intro w6 hm6 ho6 hs6;have Wi:=Hd hm6;have iD:qy (ax b w5 w6):=Hd (dW (w:=w5) ho6);clear hm6 ho6 hs6))
   go_ret;obtain⟨q1,q2⟩:=XY OP.o (x:=x) (y:=y);rw[←HR.o.i]at q1 q2;refine⟨rfl,?_,(ax.af cq.o).trans (eV.o.trans iD.o)⟩;rw[HK.o];have uR:=H1.o.cV.del x.i;rw[←HR.o.i]at uR⊢;exact H1.o.set Wi.o (eV.o.trans iD.o) uR q1 q2
  ·have hz2:(y.l+y.o==0)=false:=by rw[qP];exact hz
   have HK:qy (gL L x true=oX L x):=Hd (by unfold gL;rw[qB (fun e=>hz (by rw[Ko,hyo];exact e.2))]);clear Ko hyo Sk hoo hz;go_enter func457,ntmps457;go_wp2_with fail
   generalize w.alloc (qn #[U Z y.i,U Z y.k,U Z y.l,U Z y.o,U Z y.s,qh y.oa y.n y.c] 95)=w1 at*
   go_still_tail 7,qd
   clear c0 c1 c2 c3 c4 c5 h0;go_wp2_with(at_mapUpdate;go_loud (refine bl _ rfl _ _ _ 92 95 rfl sW underlying92 b n g (an.drew OP.o.m) (by rfl) y.i y HI.o (by rfl) (by rfl) ?_;intro w5 hm5 ho5 hs5;have ou:=Hd hm5;have eV:qy (ax b w1 w5):=Hd (dW (w:=w1) ho5);obtain⟨c0,c1,c2,c3,c4,c5⟩:=Kn.cells (ax.heap eV.o fu.o (by have:=dO.o;omega));clear hm5 ho5 hs5))
   go_ret;obtain⟨q1,q2⟩:=ND OP.o HF.o HR.o;rw[←HR.o.i]at q1 q2;exact⟨rfl,by rw[HK.o];exact H1.o.set ou.o eV.o (H1.o.cV.oX HF.o HG.o) q1 q2,(ax.af cq.o).trans eV.o⟩
end InoW
namespace InoW
open Go.RowKit InoP ExtW
variable{tb b:Nat}{L:List dw}{next:Int}
theorem rV(x x0:dw)(may:Bool)(yi yk yl yo ys:Int)(oa:Option qt)(n c:Nat)(hf:find L x.i=some x0)(hg:kX x)(w:qo)(h:jf w tb b L next)(hr:ic w tb b x ⟨yi,yk,yl,yo,ys,oa,n,c⟩):
 qw qx 457 #[qi (some ⟨tb,0,none⟩),ql #[U Z yi,U Z yk,U Z yl,U Z yo,U Z ys,qh oa n c],qk may] w fun e J=>e=qm (U Z 0)∧jf J tb b (gL L x may) next∧ax b w J:=
 NF x x0 ⟨yi,yk,yl,yo,ys,oa,n,c⟩ may hf hg w h hr
theorem jf.all{w:qo}(h:jf w tb b L next)(i:Int):(find L i=none∧ ∀J,qz w.heap.size w J→kI i→qw qx 258 #[qi (some ⟨tb,0,none⟩),U Z i] J fun e w2=>e=qm (qj #[ql #[U Z 0,U Z 0,U Z 0,U Z 0,U Z 0,qh none 0 0],qk false])∧qz J.heap.size J w2)∨
 ∃x yi yk yl yo ys oa n c,find L i=some x∧kX x∧ic w tb b x ⟨yi,yk,yl,yo,ys,oa,n,c⟩∧ ∀J,qz w.heap.size w J→qw qx 258 #[qi (some ⟨tb,0,none⟩),U Z i] J fun e w2=>e=qm (qj #[ql #[U Z yi,U Z yk,U Z yl,U Z yo,U Z ys,qh oa n c],qk true])∧qz J.heap.size J w2:=by
 obtain⟨n,g,o⟩:=h.op
 cases hf:find L i with
 |none=>exact .inl ⟨rfl,fun J hb hi=>XX n g i hi (o.no i hf) J (h.grow hb).m0.1 (an.ag o.m hb)⟩
 |some x=>
  obtain⟨y,hy,hr⟩:=o.yes i x hf;obtain⟨hx,hxi⟩:=gJ hf;have hn:=h.cV.num x hx;have hnx:=h.cV.next;exact .inr ⟨x,y.i,y.k,y.l,y.o,y.s,y.oa,y.n,y.c,rfl,h.cV.all x hx,hr,fun J hb=>Tc n g i (ew Y) y hy J (h.grow hb).m0.1 (an.ag o.m hb)⟩
theorem ic.abX{w:qo}{x:dw}{yi yk yl yo ys:Int}{oa:Option qt}{n c:Nat}(h:ic w tb b x ⟨yi,yk,yl,yo,ys,oa,n,c⟩)(d:Int):ic w tb b {x with l:=x.l+d} ⟨yi,yk,yl+d,yo,ys,oa,n,c⟩:=
 {i:=h.i,k:=h.k,l:=by have:=h.l;simp only at this⊢;omega,o:=h.o,s:=h.s,n:=h.n,sU:=h.sU,fO:=h.fO,nil:=h.nil,ty:=h.ty}
theorem ic.abY{w:qo}{x:dw}{yi yk yl yo ys:Int}{oa:Option qt}{n c:Nat}(h:ic w tb b x ⟨yi,yk,yl,yo,ys,oa,n,c⟩)(d:Int):ic w tb b {x with o:=x.o+d} ⟨yi,yk,yl,yo+d,ys,oa,n,c⟩:=
 {i:=h.i,k:=h.k,l:=h.l,o:=by have:=h.o;simp only at this⊢;omega,s:=h.s,n:=h.n,sU:=h.sU,fO:=h.fO,nil:=h.nil,ty:=h.ty}
theorem Dh(i d:Int)(hi:kI i)(w:qo)(h:jf w tb b L next):
 qw qx 486 #[qi (some ⟨tb,0,none⟩),U Z i,U Z d] w fun e J=>e=qm (U Z (iO L i d))∧jf J tb b (eT L i d) next∧ax b w J:=by
 have H:=Hd h;rcases h.all i with⟨hf,eC⟩|⟨x,yi,yk,yl,yo,ys,oa,n,c,hf,hg,hr,eC⟩
 ·have HE:qy (iO L i d=60∧eT L i d=L):=Hd (by unfold iO eT;rw[hf];exact⟨rfl,rfl⟩);have HC:=Hd (eC w (Below.refl _ _) hi);clear h hi hf eC;go_enter func486,ntmps486;go_wp2_with(go_at_call 258;refine HC.o.mono ?_;rintro e w2 ⟨rfl,hb2⟩;have az:=Hd hb2;clear hb2)
  go_ret;have hb:=ai az.o (aa w2 (qn #[U Z 0,U Z 0,U Z 0,U Z 0,U Z 0,qh none 0 0] 95));exact⟨aO HE.o.1.symm,by rw[HE.o.2];exact H.o.grow hb,ax.af hb⟩
 ·have HC:=Hd (eC w (Below.refl _ _));have HF:=Hd hf;have HG:=Hd hg;have HR:=Hd hr;have hl:=hg.l;have Ko:=hr.l;simp only at Ko;have HL:=Hd hl;have NG:=Hd Ko;clear h hi hf hg hr eC hl Ko;by_cases bI:(d=1∨d= -1)∧i≠1
  ·have hi1:(i==1)=false:=by rw[qP];exact bI.2
   have HI1:=Hd bI.2;by_cases NH:x.l+d<0∨8<x.l+d
   ·have HE:qy (iO L i d=66∧eT L i d=L):=Hd (by
     have e:iO L i d=66:=by unfold iO;rw[HF.o];exact(qH bI).trans (qH NH)
     exact⟨e,by unfold eT;rw[HF.o];exact qB (by rw[e];decide)⟩)
    have hw:IntKind.i64.wrap (yl+d)=yl+d:=qO _ (by have:=HL.o;have:=NG.o;omega)
    have ff:(d=1∧decide (yl+1<0)=false∧8<yl+1)∨(d= -1∧yl+ -1<0):=by
     have:=HL.o;have:=NG.o;rcases bI.1 with e|e
     ·left;subst e;exact⟨rfl,qD Y,Y⟩
     ·right;subst e;exact⟨rfl,Y⟩
    clear bI NH;rcases ff with⟨rfl,h2,h3⟩|⟨rfl,h2⟩
    all_goals
     go_enter func486,ntmps486;go_wp2_with(go_at_call 258;refine HC.o.mono ?_;rintro e w2 ⟨rfl,hb2⟩;have az:=Hd hb2;clear hb2)
     go_ret;have hb:=ai az.o (aa w2 (qn #[U Z yi,U Z yk,U Z yl,U Z yo,U Z ys,qh oa n c] 95));exact⟨aO HE.o.1.symm,by rw[HE.o.2];exact H.o.grow hb,ax.af hb⟩
   ·have HX:qy (kX {x with l:=x.l+d}∧x.i=i):=Hd ⟨{HG.o with l:=by show 0≤x.l+d∧x.l+d≤8;omega},(gJ HF.o).2⟩
    have HE:qy (iO L i d=0∧eT L i d=gL L {x with l:=x.l+d} (decide (d<0))):=Hd (by
     have e:iO L i d=0:=by unfold iO;rw[HF.o];exact(qH bI).trans (qB NH)
     exact⟨e,by unfold eT;rw[HF.o];exact qH e⟩)
    have hw:IntKind.i64.wrap (yl+d)=yl+d:=qO _ (by have:=HL.o;have:=NG.o;omega)
    have ff:(d=1∧decide (yl+1<0)=false∧decide (8<yl+1)=false)∨(d= -1∧decide (yl+ -1<0)=false∧decide (8<yl+ -1)=false):=by
     have:=HL.o;have:=NG.o;rcases bI.1 with e|e
     ·left;subst e;exact⟨rfl,qD Y,qD Y⟩
     ·right;subst e;exact⟨rfl,qD Y,qD Y⟩
    clear bI NH;rcases ff with⟨rfl,h2,h3⟩|⟨rfl,h2,h3⟩
    ·go_enter func486,ntmps486
     go_wp2_with(first
      |(go_at_call 258;refine HC.o.mono ?_;rintro e w2 ⟨rfl,hb2⟩;have az:=Hd hb2;clear hb2)
      |(go_at_call 457;go_loud (refine(rV {x with l:=x.l+1} x false yi yk (yl+1) yo ys oa n c (by rw[←HF.o,←HX.o.2]) HX.o.1 _ (H.o.grow (ai az.o (aa w2 _))) ((HR.o.abX _).grow (ai az.o (aa w2 _)))).mono ?_;rintro e w3 ⟨rfl,h3,ho3⟩;have H3:=Hd h3;have mx:=Hd ho3;clear h3 ho3)))
     go_ret;exact⟨aO HE.o.1.symm,by rw[HE.o.2];exact H3.o,(ax.af (ai az.o (aa w2 _))).trans mx.o⟩
    ·go_enter func486,ntmps486
     go_wp2_with(first
      |(go_at_call 258;refine HC.o.mono ?_;rintro e w2 ⟨rfl,hb2⟩;have az:=Hd hb2;clear hb2)
      |(go_at_call 457;go_loud (refine(rV {x with l:=x.l+ -1} x true yi yk (yl+ -1) yo ys oa n c (by rw[←HF.o,←HX.o.2]) HX.o.1 _ (H.o.grow (ai az.o (aa w2 _))) ((HR.o.abX _).grow (ai az.o (aa w2 _)))).mono ?_;rintro e w3 ⟨rfl,h3,ho3⟩;have H3:=Hd h3;have mx:=Hd ho3;clear h3 ho3)))
     go_ret;exact⟨aO HE.o.1.symm,by rw[HE.o.2];exact H3.o,(ax.af (ai az.o (aa w2 _))).trans mx.o⟩
  ·have HE:qy (iO L i d=1∧eT L i d=L):=Hd (by
    have e:iO L i d=1:=by unfold iO;rw[HF.o];exact qB bI
    exact⟨e,by unfold eT;rw[HF.o];exact qB (by rw[e];decide)⟩)
   have ff:(d=1∧i=1)∨(d= -1∧i=1)∨((d==1)=false∧(d== -1)=false):=by
    simp only[qP,ne_eq]at*;omega
   clear bI;rcases ff with⟨rfl,rfl⟩|⟨rfl,rfl⟩|⟨h1,h2⟩
   all_goals
    go_enter func486,ntmps486;go_wp2_with(go_at_call 258;refine HC.o.mono ?_;rintro e w2 ⟨rfl,hb2⟩;have az:=Hd hb2;clear hb2)
    go_ret;have hb:=ai az.o (aa w2 (qn #[U Z yi,U Z yk,U Z yl,U Z yo,U Z ys,qh oa n c] 95));exact⟨aO HE.o.1.symm,by rw[HE.o.2];exact H.o.grow hb,ax.af hb⟩
structure bU(c b:Nat)(w J:qo):Prop where
 os:J.os=w.os
 tape:J.tape=w.tape
 output:J.output=w.output
 size:w.heap.size≤J.heap.size
 block: ∀k,k<w.heap.size→k≠c→k≠b→J.heap[k]? =w.heap[k]?
theorem bU.of{c b:Nat}{w J:qo}(h:ax b w J):bU c b w J:=⟨h.os,h.tape,h.output,h.size,fun k hk _ hb=>h.block k hk (fun e=>hb (by injection e))⟩
theorem bU.ofC{c b:Nat}{w J:qo}(h:ax c w J):bU c b w J:=⟨h.os,h.tape,h.output,h.size,fun k hk hc _=>h.block k hk (fun e=>hc (by injection e))⟩
theorem bU.trans{c b:Nat}{a w x:qo}(h:bU c b a w)(k:bU c b w x):bU c b a x:=
 ⟨k.os.trans h.os,k.tape.trans h.tape,k.output.trans h.output,qM h.size k.size,fun i hi hc hb=>(k.block i (xH hi h.size) hc hb).trans (h.block i hi hc hb)⟩
theorem bU.below{c b B:Nat}{w J:qo}(h:bU c b w J)(hc:B≤c)(hb:B≤b)(hw:B≤w.heap.size):qz B w J:=
 ⟨h.os,h.tape,h.output,h.size,fun k hk=>h.block k Y Y Y⟩
variable{tb b:Nat}{L:List dw}{next:Int}
theorem Kq(e:Int)(w:qo):qw qx 460 #[U Z e] w fun r J=>r=qm (U Z (ng e))∧w=J:=by
 by_cases h:e=3
 ·subst h;go_enter func460,ntmps460;go_wp2_with fail
  go_ret;exact⟨rfl,rfl⟩
 ·have h2:(e==3)=false:=by rw[qP];exact h
  have HE:qy (ng e=e):=Hd (qB h);clear h;go_enter func460,ntmps460;go_wp2_with fail
  go_ret;exact⟨aO HE.o.symm,rfl⟩
theorem Ik{k:Int}(e:Int)(h:iu L next k=e)(h0:e≠0):iu L next k=e∧mu L next k=0∧kr L next k=L∧kt L next k=next:=by
 unfold mu kr kt;rw[h,qB h0,qB h0,qB h0];exact⟨rfl,rfl,rfl,rfl⟩
theorem NI{k:Int}(h:iu L next k=0):iu L next k=0∧mu L next k=next∧kr L next k=L++[⟨next,k,0,0,0,[]⟩]∧kt L next k=next+1:=by
 unfold mu kr kt;rw[h];exact⟨rfl,rfl,rfl,rfl⟩
theorem jf.made{w w5:qo}{n m:Nat}{g:Int→Option IV}{k:Int}(h:jf w tb b L next)(o:Op w tb b n g L next)(hk:k=1∨k=2)(hl:L.length<64∧next<2147483647)
 (hm:De w5 b m (fun z=>if z=next then some ⟨next,k,0,0,0,none,0,0⟩else g z)) (ho:ax b w w5):
 jf (w5.setCell ⟨tb,1,none⟩ (U Z (next+1))) tb b (L++[⟨next,k,0,0,0,[]⟩]) (next+1)∧bU tb b w (w5.setCell ⟨tb,1,none⟩ (U Z (next+1))):=by
 have hh:=ax.heap ho h.head h.ne;have hos:ax tb w5 (w5.setCell ⟨tb,1,none⟩ (U Z (next+1))):=(ax.refl tb w5).setCell 1 _;have e:=JR L ⟨next,k,0,0,0,[]⟩ h.cV.JU;refine⟨⟨?_,⟨m,_,an.only hm hos (fun e=>h.ne e.symm),fun i hi=>?_,fun i x hx=>?_⟩,h.cV.snoc hk hl.1 hl.2⟩,(bU.of ho).trans (bU.ofC hos)⟩
 ·rw[heap_setCell_same w5 tb 1 _ _ _ hh];rfl
 ·rw[e]at hi;by_cases c:i=next
  ·simp[c]at hi
  ·simp only[qB c]at hi⊢;exact o.no i hi
 ·rw[e]at hx;by_cases c:i=next
  ·simp only[qH c]at hx⊢;injection hx with hx
   exact⟨_,rfl,hx▸⟨rfl,rfl,rfl,rfl,rfl,rfl,fun j z hz=>by simp at hz,fun a ha=>by simp at ha,fun _=>⟨rfl,rfl⟩,fun a ha=>by simp at ha⟩⟩
  ·simp only[qB c]at hx⊢;obtain⟨y,hy,hr⟩:=o.yes i x hx;exact⟨y,hy,(hr.only ho (.inr rfl)).only hos (.inl rfl)⟩
theorem NJ(k:Int)(w:qo)(h:jf w tb b L next):
 qw qx 484 #[qi (some ⟨tb,0,none⟩),U Z k] w fun e J=>e=qm (qj #[U Z (mu L next k),U Z (iu L next k)])∧jf J tb b (kr L next k) (kt L next k)∧bU tb b w J:=by
 have H:=Hd h;obtain⟨n,g,o⟩:=h.op;have OP:=Hd o;have hlm:=h.len;obtain⟨m0,m1,f0,f1⟩:=h.m0;have hnx:=h.cV.next;clear h o;by_cases hk:k=1∨k=2
 ·by_cases uw:64≤L.length∨2147483647≤next
  ·have HE:qy (iu L next k=67∧mu L next k=0∧kr L next k=L∧kt L next k=next):=Hd (Ik 67 (by unfold iu;exact(qH hk).trans (qH uw)) qa)
   have ff:(64:Int)≤(L.length:Nat)∨decide ((64:Int)≤(L.length:Nat))=false∧2147483647≤next:=by
    by_cases hc:(64:Int)≤(L.length:Nat)
    ·exact .inl hc
    ·exact .inr ⟨qD hc,Y⟩
   clear uw;rcases hk with rfl|rfl
   all_goals
    rcases ff with h1|⟨h1,h2⟩
    all_goals
     go_enter func484,ntmps484;go_wp2_with fail
     go_ret2
     exact⟨by rw[HE.o.1,HE.o.2.1];rfl,by rw[HE.o.2.2.1,HE.o.2.2.2];exact H.o,bU.of (ax.refl _ _)⟩
  ·have HE:qy (iu L next k=0∧mu L next k=next∧kr L next k=L++[⟨next,k,0,0,0,[]⟩]∧kt L next k=next+1):=Hd (NI (by unfold iu;exact(qH hk).trans (qB uw)));have h1:decide ((64:Int)≤(L.length:Nat))=false:=qD Y;have h2:decide (2147483647≤next)=false:=qD Y;have hw:IntKind.i64.wrap (next+1)=next+1:=qO _ Y
   have hw2:IntKind.i64.wrap next=next:=qO _ Y
   have HI:qy (kI next):=Hd (ew Y);have ea:qy (L.length<64∧next<2147483647):=Hd Y;have ff:k=1∨k=2:=hk;clear uw hk hnx;rcases ff with rfl|rfl
   ·go_enter func484,ntmps484;go_wp2_with fail
    go_still_tail 14,qd
    clear m0 m1 f0 f1 hlm h1 h2;go_wp2_with(at_mapUpdate;go_loud (refine bl _ rfl _ _ _ 92 95 rfl sW underlying92 b n g (an.drew OP.o.m) (by rfl) next ⟨next,1,0,0,0,none,0,0⟩ HI.o (by rfl) (by rfl) ?_;intro w5 hm5 ho5 hs5;have ou:=Hd hm5;have eV:qy (ax b w w5):=Hd (dW (w:=w) ho5);have hh5:=ax.heap eV.o H.o.head H.o.ne;have m1:=(aJ hh5 1);have f1:=(cn hh5 1);simp only[gA,gZ,gS]at m1;clear hm5 ho5 hs5 hh5))
    go_ret2
    obtain⟨q1,q2⟩:=H.o.made OP.o qa ea.o ou.o eV.o;exact⟨by rw[HE.o.1,HE.o.2.1];rfl,by rw[HE.o.2.2.1,HE.o.2.2.2];exact q1,q2⟩
   ·go_enter func484,ntmps484;go_wp2_with fail
    go_still_tail 14,qd
    clear m0 m1 f0 f1 hlm h1 h2;go_wp2_with(at_mapUpdate;go_loud (refine bl _ rfl _ _ _ 92 95 rfl sW underlying92 b n g (an.drew OP.o.m) (by rfl) next ⟨next,2,0,0,0,none,0,0⟩ HI.o (by rfl) (by rfl) ?_;intro w5 hm5 ho5 hs5;have ou:=Hd hm5;have eV:qy (ax b w w5):=Hd (dW (w:=w) ho5);have hh5:=ax.heap eV.o H.o.head H.o.ne;have m1:=(aJ hh5 1);have f1:=(cn hh5 1);simp only[gA,gZ,gS]at m1;clear hm5 ho5 hs5 hh5))
    go_ret2
    obtain⟨q1,q2⟩:=H.o.made OP.o qa ea.o ou.o eV.o;exact⟨by rw[HE.o.1,HE.o.2.1];rfl,by rw[HE.o.2.2.1,HE.o.2.2.2];exact q1,q2⟩
 ·have HE:qy (iu L next k=1∧mu L next k=0∧kr L next k=L∧kt L next k=next):=Hd (Ik 1 (by unfold iu;exact qB hk) qa);have h1:(k !=1)=true:=by rw[bne_iff_ne];omega
  have h2:(k !=2)=true:=by rw[bne_iff_ne];omega
  clear hk;go_enter func484,ntmps484;go_wp2_with fail
  go_ret2
  exact⟨by rw[HE.o.1,HE.o.2.1];rfl,by rw[HE.o.2.2.1,HE.o.2.2.2];exact H.o,bU.of (ax.refl _ _)⟩
theorem aj{B g:Nat}{w J:qo}(h:qz B w J)(hg:B≤g)(cs:Array qp):qz B w (J.setRow g cs):=
 ⟨h.os,h.tape,h.output,by rw[setRow_size];exact h.size,fun k hk=>(xl J g k cs Y).trans (h.block k hk)⟩
theorem NK(i e:Int)(hi:kI i)(he:mw L i=e)(h0:e≠0)(w:qo)(h:jf w tb b L next):
 qw qx 458 #[qi (some ⟨tb,0,none⟩),U Z i] w fun r J=>r=qm (qj #[ql #[U Z 0,U Z 0,U Z 0,U Z 0,U Z 0,qh none 0 0],U Z e])∧qz w.heap.size w J:=by
 unfold mw at he;have bu:=Hd (aa w (qn #[U Z 0,U Z 0,U Z 0,U Z 0,U Z 0,qh none 0 0] 95));rcases h.all i with⟨hf,eC⟩|⟨x,yi,yk,yl,yo,ys,oa,n,c,hf,hg,hr,eC⟩
 ·rw[hf]at he;obtain rfl:(60:Int)=e:=he;have HC:=Hd (eC _ bu.o hi);clear h hi hf eC h0;go_enter func458,ntmps458
  go_wp2_with(first
   |(go_at_call 258;refine HC.o.mono ?_;rintro e w2 ⟨rfl,hb2⟩;have az:=Hd hb2;clear hb2)
   |(refine qE rfl 95 (Operand.tmp 4) _ rfl w.heap.size _ rfl rfl 95 _ ((xm _ _ (qK (bV az.o))).trans (bV az.o)) kv rfl (by simp[Value.oneCell']) ?_))
  try simp only[Exit.inBlock,Exit.then]
  refine aY (p:=4) (u:=5) rfl rfl rfl (qJ _ _ _ _ _ _ ((xm _ _ (qK (bV az.o))).trans (bV az.o))) underlying95 rfl kv ?_;exact⟨rfl,aj (ai (ai bu.o az.o) (aa _ _)) (Nat.le_refl _) _⟩
 ·rw[hf]at he
  have hk:x.k=1:=by
   simp only at he;by_cases c:x.k=1
   ·exact c
   ·rw[qB c]at he;exact qZ he.symm h0
  obtain rfl:(63:Int)=e:=by simpa [hk]using he
  have NL:=hr.k;simp only at NL;obtain rfl:yk=1:=NL.trans hk;have HC:=Hd (eC _ bu.o);clear h hi hf eC h0 hg hr NL he hk;go_enter func458,ntmps458
  go_wp2_with(first
   |(go_at_call 258;refine HC.o.mono ?_;rintro e w2 ⟨rfl,hb2⟩;have az:=Hd hb2;clear hb2)
   |(refine qE rfl 95 (Operand.tmp 4) _ rfl w.heap.size _ rfl rfl 95 _ ((xm _ _ (qK (bV az.o))).trans (bV az.o)) kv rfl (by simp[Value.oneCell']) ?_))
  try simp only[Exit.inBlock,Exit.then]
  refine aY (p:=4) (u:=5) rfl rfl rfl (qJ _ _ _ _ _ _ ((xm _ _ (qK (bV az.o))).trans (bV az.o))) underlying95 rfl kv ?_;exact⟨rfl,aj (ai (ai bu.o az.o) (aa _ _)) (Nat.le_refl _) _⟩
theorem Td(i:Int)(he:mw L i=0)(w:qo)(h:jf w tb b L next):
 ∃x yi yk yl yo ys oa n c,find L i=some x∧x.k≠1∧kX x∧ic w tb b x ⟨yi,yk,yl,yo,ys,oa,n,c⟩∧
  qw qx 458 #[qi (some ⟨tb,0,none⟩),U Z i] w fun r J=>r=qm (qj #[ql #[U Z yi,U Z yk,U Z yl,U Z yo,U Z ys,qh oa n c],U Z 0])∧qz w.heap.size w J:=by
 unfold mw at he;have bu:=Hd (aa w (qn #[U Z 0,U Z 0,U Z 0,U Z 0,U Z 0,qh none 0 0] 95));rcases h.all i with⟨hf,_⟩|⟨x,yi,yk,yl,yo,ys,oa,n,c,hf,hg,hr,eC⟩
 ·rw[hf]at he;cases he
 ·rw[hf]at he;have hk:x.k≠1:=fun e=>by simp[e]at he
  have NL:=hr.k;simp only at NL;have hk1:(yk==1)=false:=by rw[qP,NL];exact hk
  have HC:=Hd (eC _ bu.o);refine⟨x,yi,yk,yl,yo,ys,oa,n,c,hf,hk,hg,hr,?_⟩;clear h hf eC hg hr NL he hk;go_enter func458,ntmps458
  go_wp2_with(first
   |(go_at_call 258;refine HC.o.mono ?_;rintro e w2 ⟨rfl,hb2⟩;have az:=Hd hb2;clear hb2)
   |(refine qE rfl 95 (Operand.tmp 4) _ rfl w.heap.size _ rfl rfl 95 _ ((xm _ _ (qK (bV az.o))).trans (bV az.o)) kv rfl (by simp[Value.oneCell']) ?_))
  try simp only[Exit.inBlock,Exit.then]
  refine aY (p:=4) (u:=5) rfl rfl rfl (qJ _ _ _ _ _ _ ((xm _ _ (qK (bV az.o))).trans (bV az.o))) underlying95 rfl kv ?_;exact⟨rfl,aj (ai (ai bu.o az.o) (aa _ _)) (Nat.le_refl _) _⟩
def bL(L:List dw)(i:Int):dw:=(find L i).getD ⟨0,0,0,0,0,[]⟩
def wo(L:List dw)(i:Int):Bool:=(find L i).isSome
theorem ni:(prog.info? 28).map (·.size)=some 4:=qd
theorem wu(i:Int)(hi:kI i)(w:qo)(h:jf w tb b L next):
 qw qx 187 #[qi (some ⟨tb,0,none⟩),U Z i] w fun e J=>e=qm (qj #[ql #[U Z (bL L i).i,U Z (bL L i).k,U Z (bL L i).l,U Z (bL L i).s],qk (wo L i)])∧qz w.heap.size w J:=by
 have bu:=Hd (aa w (qn #[U Z 0,U Z 0,U Z 0,U Z 0] 28));rcases h.all i with⟨hf,eC⟩|⟨x,yi,yk,yl,yo,ys,oa,n,c,hf,hg,hr,eC⟩
 ·have HC:=Hd (eC _ bu.o hi);have HE:qy (bL L i=⟨0,0,0,0,0,[]⟩∧wo L i=false):=Hd (by unfold bL wo;rw[hf];exact⟨rfl,rfl⟩);clear h hi hf eC;go_enter func187,ntmps187
  go_wp2_with(first
   |(go_at_call 258;refine HC.o.mono ?_;rintro e w2 ⟨rfl,hb2⟩;have az:=Hd hb2;clear hb2)
   |(refine qE rfl 28 (Operand.tmp 4) _ rfl w.heap.size _ rfl rfl 28 _ ((xm _ _ (qK (bV az.o))).trans (bV az.o)) ni rfl (by simp[Value.oneCell']) ?_))
  try simp only[Exit.inBlock,Exit.then]
  refine aY (p:=4) (u:=5) rfl rfl rfl (qJ _ _ _ _ _ _ ((xm _ _ (qK (bV az.o))).trans (bV az.o))) underlying28 rfl ni ?_;exact⟨by rw[HE.o.1,HE.o.2];rfl,aj (ai (ai bu.o az.o) (aa _ _)) (Nat.le_refl _) _⟩
 ·have HC:=Hd (eC _ bu.o);have HE:qy (bL L i=x∧wo L i=true∧yi=x.i∧yk=x.k∧yl=x.l∧ys=x.s):=Hd ⟨by unfold bL;rw[hf];rfl,by unfold wo;rw[hf];rfl,hr.i,hr.k,hr.l,hr.s⟩;clear h hi hf eC hg hr;go_enter func187,ntmps187
  go_wp2_with(first
   |(go_at_call 258;refine HC.o.mono ?_;rintro e w2 ⟨rfl,hb2⟩;have az:=Hd hb2;clear hb2)
   |(refine qE rfl 28 (Operand.tmp 4) _ rfl w.heap.size _ rfl rfl 28 _ ((xm _ _ (qK (bV az.o))).trans (bV az.o)) ni rfl (by simp[Value.oneCell']) ?_))
  try simp only[Exit.inBlock,Exit.then]
  refine aY (p:=4) (u:=5) rfl rfl rfl (qJ _ _ _ _ _ _ ((xm _ _ (qK (bV az.o))).trans (bV az.o))) underlying28 rfl ni ?_;exact⟨by rw[HE.o.1,HE.o.2.1,←HE.o.2.2.1,←HE.o.2.2.2.1,←HE.o.2.2.2.2.1,←HE.o.2.2.2.2.2];rfl,aj (ai (ai bu.o az.o) (aa _ _)) (Nat.le_refl _) _⟩
theorem oB(i off n a:Int):eR L i off n a=if mw L i=0 then(if Kl off n then ng (jr ((find L i).getD ⟨0,0,0,0,0,[]⟩).p ⟨off,n,a,0⟩)else 67)else mw L i:=by
 unfold eR mw
 cases find L i with
 |none=>simp
 |some x=>by_cases h:x.k=1<;>simp[h]
theorem wv{i off n a:Int}(h:eR L i off n a≠0):gM L i off n a=L:=by
 unfold gM
 cases hf:find L i with
 |none=>rfl
 |some x=>exact qB h
theorem NM(w:qo)(c:Nat)(u v:qp):ax c w ((w.setCell ⟨c,5,none⟩ u).setCell ⟨c,4,none⟩ v):=((ax.refl c w).setCell 5 u).setCell 4 v
theorem Il{w w4:qo}{c:Nat}(h:qz w.heap.size w w4)(hc:w.heap.size≤c)(u v:qp):qz w.heap.size w ((w4.setCell ⟨c,5,none⟩ u).setCell ⟨c,4,none⟩ v):=
 (h.setCell (p:=⟨c,5,none⟩) hc u).setCell (p:=⟨c,4,none⟩) hc v
theorem NN{B:Nat}{w:qo}{oa:Option qt}{n c:Nat}{l:List Pt}(h:Row B w (qh oa n c) l):(∀a,oa=some a→B≤a.block∧a.block<w.heap.size)∧n=l.length∧(oa=none→n=0∧c=0):=by
 rcases h.2 with⟨e,h0⟩|⟨g,cap',cur,e,h1,h2,h3,h4,h5,h6⟩
 ·simp only[Value.slice.injEq]at e;obtain⟨rfl,rfl,rfl⟩:=e;exact⟨fun a h=>by simp at h,h0.symm,fun _=>⟨rfl,rfl⟩⟩
 ·simp only[Value.slice.injEq]at e;obtain⟨rfl,rfl,rfl⟩:=e;refine⟨fun a h=>?_,rfl,fun h=>by simp at h⟩;injection h with h
  subst h;exact⟨h1,qK h2⟩
theorem ic.agq{B c':Nat}{w w4 w5:qo}{x x':dw}{yi yk yl yo ys s2:Int}{oa oa4:Option qt}{n c m cap:Nat}{p':List Pt}(h:ic w tb b x ⟨yi,yk,yl,yo,ys,oa,n,c⟩)(hr:Row B w4 (qh oa4 m cap) p')(hB:tb<B∧b<B)(hc:c'<B)(ho:ax c' w4 w5)
 (hx:x'={x with p:=p',s:=x'.s}) (hs:s2=x'.s):ic w5 tb b x' ⟨yi,yk,yl,yo,s2,oa4,m,cap⟩:=by
 obtain⟨r1,r2,r3⟩:=NN hr;have hp:x'.p=p':=by rw[hx]
 refine{i:=by rw[hx];exact h.i,k:=by rw[hx];exact h.k,l:=by rw[hx];exact h.l,o:=by rw[hx];exact h.o,s:=hs,n:=by rw[hp];exact r2,sU:=?_,fO:=fun a ha=>?_,nil:=r3,ty:=fun a ha=>?_}
 ·rw[hp];exact(Df hr.sU ho (Nat.le_refl _) fun a ha=>by have:=r1 a ha;omega).mono ho.size
 ·have:=r1 a ha;omega
 ·exact(lj.row hr a ha).only ho (by have:=r1 a ha;omega)
theorem iw(i off n a:Int)(hi:kI i)(w:qo)(h:jf w tb b L next):
 qw qx 415 #[qi (some ⟨tb,0,none⟩),U Z i,U Z off,U Z n,U Z a] w fun e J=>e=qm (U Z (eR L i off n a))∧jf J tb b (gM L i off n a) next∧ax b w J:=by
 have H:=Hd h;by_cases he:mw L i=0
 ·obtain⟨x,yi,yk,yl,yo,ys,oa,m,c,hf,hk,hg,hr,Im⟩:=Td i he w h;have HC:=Hd Im;have HR:=Hd hr;by_cases hm:Kl off n=true
  ·have hq:=xr hm;obtain rfl:m=x.p.length:=hr.n;have hlen:=hg.p.1;have Cz:=hg.s;have hys:ys=x.s:=hr.s;have hw1:IntKind.i64.wrap (8192-n)=8192-n:=qO _ Y;have hw2:IntKind.i64.wrap (off+n)=off+n:=qO _ Y;have hd1:decide (off<0)=false:=qD Y;have hd2:decide (n<1)=false:=qD Y;have hd3:decide (1024<n)=false:=qD Y;have hd4:decide (8192-n<off)=false:=qD Y;have HP:qy (∀J,qz w.heap.size w J→et J.heap.size oa x.p J):=Hd fun J k=>hr.sU.grow k;have akv:=Hd hlen;by_cases XZ:jr x.p ⟨off,n,a,0⟩=0
   ·have HE:qy (eR L i off n a=0∧gM L i off n a=oX L (kH x off n a)):=Hd (by
     have e:eR L i off n a=0:=by rw[oB,qH he,qH hm,hf];exact CW.2 XZ
     exact⟨e,by unfold gM;rw[hf];exact qH e⟩)
    have NO:=Hd (od oa c x.p ⟨off,n,a,0⟩ Y);have HPE:=Hd XZ;have HX:qy (kX (kH x off n a)∧find L (kH x off n a).i=some x):=Hd ⟨Da hg hk hm XZ,by rw[←hf];exact qX (find L) (gJ hf).2⟩;obtain⟨s2,hs2⟩: ∃s2,max ys (off+n)=s2:=⟨_,rfl⟩;have cX:qy (s2=(kH x off n a).s):=Hd (by rw[←hs2,hys];rfl);have hmx:(if ys<off+n then off+n else ys)=s2:=by rw[←hs2];split<;>omega
    have dO:=Hd h.lt;clear h hf hk hg hr Im hm he hi XZ hlen Cz hys hs2;go_enter func415,ntmps415
    go_wp2_with(first
     |(go_at_call 458;refine HC.o.mono ?_;rintro e w2 ⟨rfl,hb2⟩;have az:=Hd hb2;clear hb2)
     |(go_at_call 459;go_loud (refine(NO.o _ (HP.o _ (ai az.o (aa w2 _)))).mono ?_;rintro e w4 ⟨v4,rfl,hr4,hb4⟩;have dp:=Hd (ai (ai az.o (aa w2 _)) hb4);have pj:=Hd hr4;obtain⟨oa4,Kr,rfl,_⟩:=hr4.form;have rB:Kn w4 w2.heap.size ⟨yi,yk,yl,yo,ys,oa,x.p.length,c⟩:=bV hb4;obtain⟨c0,c1,c2,c3,c4,c5⟩:=rB.cells;have f4:=xx rB 4;have f5:=xx rB 5;have fu:=Hd rB;clear hb4 hr4 rB;rw[HPE.o]))
     |(go_at_call 457;go_loud (refine(rV (kH x off n a) x false yi yk yl yo s2 oa4 _ Kr HX.o.2 HX.o.1 _ (H.o.grow (Il dp.o (az.o.size) _ _)) (HR.o.agq pj.o (by have:=az.o.size;have:=dO.o;simp;omega) qc (NM _ _ _ _) rfl cX.o)).mono ?_;rintro e w5 ⟨rfl,h5,ho5⟩;have H5:=Hd h5;have eV:=Hd ho5;clear h5 ho5)))
    go_ret;exact⟨aO HE.o.1.symm,by rw[HE.o.2];exact H5.o,(ax.af (Il dp.o (az.o.size) _ _)).trans eV.o⟩
   ·have HE:qy (eR L i off n a=ng (jr x.p ⟨off,n,a,0⟩)∧gM L i off n a=L):=Hd (by
     have e:eR L i off n a=ng (jr x.p ⟨off,n,a,0⟩):=by rw[oB,qH he,qH hm,hf];rfl
     exact⟨e,wv (by rw[e,Ne,CW];exact XZ)⟩)
    have NO:=Hd (od oa c x.p ⟨off,n,a,0⟩ Y);have akx:(jr x.p ⟨off,n,a,0⟩==0)=false:=by rw[qP];exact XZ
    generalize jr x.p ⟨off,n,a,0⟩=pe at*;clear h hf hk hg hr Im hm he hi XZ hlen Cz hys;go_enter func415,ntmps415
    go_wp2_with(first
     |(go_at_call 458;refine HC.o.mono ?_;rintro e w2 ⟨rfl,hb2⟩;have az:=Hd hb2;clear hb2)
     |(go_at_call 459;go_loud (refine(NO.o _ (HP.o _ (ai az.o (aa w2 _)))).mono ?_;rintro e w4 ⟨v4,rfl,hr4,hb4⟩;have dp:=Hd (ai (ai az.o (aa w2 _)) hb4);clear hb4 hr4))
     |(go_at_call 460;refine(Kq _ _).mono ?_;rintro e w5 ⟨rfl,rfl⟩))
    go_ret;exact⟨aO HE.o.1.symm,by rw[HE.o.2];exact H.o.grow dp.o,ax.af dp.o⟩
  ·have HE:qy (eR L i off n a=67∧gM L i off n a=L):=Hd (by
    have e:eR L i off n a=67:=by rw[oB,qH he,qB hm]
    exact⟨e,wv (by rw[e];decide)⟩)
   have ff:off<0∨(0≤off∧n<1)∨(0≤off∧1≤n∧1024<n)∨(0≤off∧1≤n∧n≤1024∧8192-n<off):=by
    have: ¬(0≤off∧1≤n∧n≤1024∧off≤8192-n):=fun q=>hm (qR q);omega
   clear h hf hk hg hr Im hm he hi;rcases ff with q1|⟨q1,q2⟩|⟨q1,q2,q3⟩|⟨q1,q2,q3,q4⟩
   all_goals
    go_enter func415,ntmps415;go_wp2_with(go_at_call 458;refine HC.o.mono ?_;rintro e w2 ⟨rfl,hb2⟩;have az:=Hd hb2;clear hb2)
    go_ret;exact⟨aO HE.o.1.symm,by rw[HE.o.2];exact H.o.grow (ai az.o (aa _ _)),ax.af (ai az.o (aa _ _))⟩
 ·have HC:=Hd (NK i _ hi rfl he w h)
  have HE:qy (eR L i off n a=mw L i∧gM L i off n a=L):=Hd (by
   have e:eR L i off n a=mw L i:=by rw[oB,qB he]
   exact⟨e,wv (by rw[e];exact he)⟩)
  have he2:(mw L i==0)=false:=by rw[qP];exact he
  generalize mw L i=fe at*;clear h hi he;go_enter func415,ntmps415;go_wp2_with(go_at_call 458;refine HC.o.mono ?_;rintro e w2 ⟨rfl,hb2⟩;have az:=Hd hb2;clear hb2)
  go_ret;exact⟨aO HE.o.1.symm,by rw[HE.o.2];exact H.o.grow (ai az.o (aa _ _)),ax.af (ai az.o (aa _ _))⟩
theorem Af(oa:Option qt)(cap n:Nat)(l:List Pt)(hn0:n=l.length)(hl:l.length≤1000000)(hn:oa=none→n=0∧cap=0)(w:qo)(h:et w.heap.size oa l w):
 qw qx 262 #[qh oa n cap] w fun e J=> ∃oa' cap',e=qm (qh oa' l.length cap')∧Row w.heap.size J (qh oa' l.length cap') l∧qz w.heap.size w J:=by
 subst hn0;obtain⟨i0,hi,hz0,hz1,hz2⟩:=info_parts lg;have q37: ∀(w:qo) (a:Option qt) (n c n' c':Nat),(binOp .eql 93 (qh a n c) (qh none n' c')).run qx w= .ok (qk a.isNone) w:=fun w a n c n' c'=>Lib.run_eql_slice_nil w _ _ a n c n' c' underlying93;have HP:=Hd h;have HNI:=Hd hn
 cases oa with
 |none=>
  have hl0:l.length=0:=(hn rfl).1;have HL0:=Hd hl0;clear h hn hl hl0;go_enter func262,ntmps262;go_wp2_with fail
  go_ret;have hle:l=[]:=xe HL0.o
  exact⟨none,0,by rw[HL0.o];rfl,by rw[hle];exact Row.nil _ _,Below.refl _ _⟩
 |some a=>
  clear h hn;go_enter func262,ntmps262;go_wp2_with(at_builtin;go_loud (refine jH rfl _ _ 93 rfl 384 i0 (ql #[U Z 0,U Z 0,U Z 0,U Z 0]) 4 32 underlying93 hi hz0 hz1 hz2 rfl qa (by rfl) (some a) l.length cap (cellsOf l) (by rfl) HNI.o (gw l) (CR HP.o) (bW l) (by unfold maxLen;omega) Y ?_;intro oa2 dd w2 rW hb2;have eB:=Hd rW;have az:=Hd hb2;clear rW hb2))
  go_ret;exact⟨oa2,dd,rfl,eB.o,az.o⟩
def cY(L:List dw)(i:Int):List Pt:=((find L i).map (·.p)).getD []
theorem Ag(i:Int)(hi:kI i)(w:qo)(h:jf w tb b L next):
 qw qx 189 #[qi (some ⟨tb,0,none⟩),U Z i] w fun e J=> ∃oa' cap',e=qm (qh oa' (cY L i).length cap')∧Row w.heap.size J (qh oa' (cY L i).length cap') (cY L i)∧qz w.heap.size w J:=by
 rcases h.all i with⟨hf,eC⟩|⟨x,yi,yk,yl,yo,ys,oa,n,c,hf,hg,hr,eC⟩
 ·have HC:=Hd (eC _ (Below.refl _ _) hi);have HE:qy (cY L i=[]):=Hd (by unfold cY;rw[hf];rfl);clear h hi hf eC;go_enter func189,ntmps189
  go_wp2_with(first
   |(go_at_call 258;refine HC.o.mono ?_;rintro e w2 ⟨rfl,hb2⟩;have az:=Hd hb2;clear hb2)
   |(go_at_call 262;go_loud (refine(Af none 0 0 [] rfl qc (fun _=>⟨rfl,rfl⟩) _ (fun i x hx=>by simp at hx)).mono ?_;rintro e w3 ⟨oa3,FN,rfl,hr3,hb3⟩;have eE:=Hd hr3;have cu:=Hd (ai (ai az.o (aa w2 _)) hb3);have cX:qy (w.heap.size≤(w2.alloc (qn #[U Z 0,U Z 0,U Z 0,U Z 0,U Z 0,qh none 0 0] 95)).heap.size):=Hd (ai az.o (aa w2 _)).size;clear hr3 hb3)))
  go_ret;exact⟨oa3,FN,by rw[HE.o];rfl,by rw[HE.o];exact eE.o.mono cX.o,cu.o⟩
 ·have HC:=Hd (eC _ (Below.refl _ _));have HE:qy (cY L i=x.p):=Hd (by unfold cY;rw[hf];rfl);obtain rfl:n=x.p.length:=hr.n;have HL:qy (x.p.length≤64):=Hd hg.p.1;have HP:qy (∀J,qz w.heap.size w J→et J.heap.size oa x.p J):=Hd fun J k=>hr.sU.grow k;have HNI:qy (oa=none→x.p.length=0∧c=0):=Hd hr.nil;clear h hi hf eC hg hr;go_enter func189,ntmps189
  go_wp2_with(first
   |(go_at_call 258;refine HC.o.mono ?_;rintro e w2 ⟨rfl,hb2⟩;have az:=Hd hb2;clear hb2)
   |(go_at_call 262;go_loud (refine(Af oa c _ x.p rfl (by have:=HL.o;omega) HNI.o _ (HP.o _ (ai az.o (aa w2 _)))).mono ?_;rintro e w3 ⟨oa3,FN,rfl,hr3,hb3⟩;have eE:=Hd hr3;have cu:=Hd (ai (ai az.o (aa w2 _)) hb3);have cX:=Hd (ai az.o (aa w2 (qn #[U Z yi,U Z yk,U Z yl,U Z yo,U Z ys,qh oa x.p.length c] 95)));clear hr3 hb3)))
  go_ret;exact⟨oa3,FN,by rw[HE.o];rfl,by rw[HE.o];exact eE.o.mono cX.o.size,cu.o⟩
theorem tw(i d:Int)(hi:kI i)(w:qo)(h:jf w tb b L next):
 qw qx 413 #[qi (some ⟨tb,0,none⟩),U Z i,U Z d] w fun e J=>e=qm (U Z (cU L i d))∧jf J tb b (di L i d) next∧ax b w J:=by
 have H:=Hd h;rcases h.all i with⟨hf,eC⟩|⟨x,yi,yk,yl,yo,ys,oa,n,c,hf,hg,hr,eC⟩
 ·have HE:qy (cU L i d=60∧di L i d=L):=Hd (by unfold cU di;rw[hf];exact⟨rfl,rfl⟩);have HC:=Hd (eC w (Below.refl _ _) hi);clear h hi hf eC;go_enter func413,ntmps413;go_wp2_with(go_at_call 258;refine HC.o.mono ?_;rintro e w2 ⟨rfl,hb2⟩;have az:=Hd hb2;clear hb2)
  go_ret;have hb:=ai az.o (aa w2 (qn #[U Z 0,U Z 0,U Z 0,U Z 0,U Z 0,qh none 0 0] 95));exact⟨aO HE.o.1.symm,by rw[HE.o.2];exact H.o.grow hb,ax.af hb⟩
 ·have HC:=Hd (eC w (Below.refl _ _));have HF:=Hd hf;have HG:=Hd hg;have HR:=Hd hr;have hl:=hg.o;have Ko:=hr.o;have NL:=hr.k;simp only at Ko NL;have HL:=Hd hl;have NG:=Hd Ko;have HYK:=Hd NL;clear h hi hf hg hr eC hl Ko NL;by_cases bI:d=1∨d= -1
  ·by_cases hk1:x.k=1
   ·have HE:qy (cU L i d=63∧di L i d=L):=Hd (by
     have e:cU L i d=63:=by unfold cU;rw[HF.o];exact(qH bI).trans (qH hk1)
     exact⟨e,by unfold di;rw[HF.o];exact qB (by rw[e];decide)⟩)
    have q1:(yk==1)=true:=beq_iff_eq.2 (by rw[HYK.o];exact hk1);clear hk1;rcases bI with rfl|rfl
    all_goals
     go_enter func413,ntmps413;go_wp2_with(go_at_call 258;refine HC.o.mono ?_;rintro e w2 ⟨rfl,hb2⟩;have az:=Hd hb2;clear hb2)
     go_ret;have hb:=ai az.o (aa w2 (qn #[U Z yi,U Z yk,U Z yl,U Z yo,U Z ys,qh oa n c] 95));exact⟨aO HE.o.1.symm,by rw[HE.o.2];exact H.o.grow hb,ax.af hb⟩
   have q1:(yk==1)=false:=qP.2 (by rw[HYK.o];exact hk1);have HK1:=Hd hk1;by_cases NH:x.o+d<0∨128<x.o+d
   ·have HE:qy (cU L i d=3∧di L i d=L):=Hd (by
     have e:cU L i d=3:=by unfold cU;rw[HF.o];exact(qH bI).trans ((qB hk1).trans (qH NH))
     exact⟨e,by unfold di;rw[HF.o];exact qB (by rw[e];decide)⟩)
    have hw:IntKind.i64.wrap (yo+d)=yo+d:=qO _ (by have:=HL.o;have:=NG.o;omega)
    have ff:(d=1∧decide (yo+1<0)=false∧128<yo+1)∨(d= -1∧yo+ -1<0):=by
     have:=HL.o;have:=NG.o;rcases bI with e|e
     ·left;subst e;exact⟨rfl,qD Y,Y⟩
     ·right;subst e;exact⟨rfl,Y⟩
    clear bI NH hk1;rcases ff with⟨rfl,h2,h3⟩|⟨rfl,h2⟩
    all_goals
     go_enter func413,ntmps413;go_wp2_with(go_at_call 258;refine HC.o.mono ?_;rintro e w2 ⟨rfl,hb2⟩;have az:=Hd hb2;clear hb2)
     go_ret;have hb:=ai az.o (aa w2 (qn #[U Z yi,U Z yk,U Z yl,U Z yo,U Z ys,qh oa n c] 95));exact⟨aO HE.o.1.symm,by rw[HE.o.2];exact H.o.grow hb,ax.af hb⟩
   ·have HX:qy (kX {x with o:=x.o+d}∧x.i=i):=Hd ⟨{HG.o with o:=by show 0≤x.o+d∧x.o+d≤128;omega,dir:=fun e=>qZ e HK1.o},(gJ HF.o).2⟩
    have HE:qy (cU L i d=0∧di L i d=gL L {x with o:=x.o+d} (decide (d<0))):=Hd (by
     have e:cU L i d=0:=by unfold cU;rw[HF.o];exact(qH bI).trans ((qB hk1).trans (qB NH))
     exact⟨e,by unfold di;rw[HF.o];exact qH e⟩)
    have hw:IntKind.i64.wrap (yo+d)=yo+d:=qO _ (by have:=HL.o;have:=NG.o;omega)
    have ff:(d=1∧decide (yo+1<0)=false∧decide (128<yo+1)=false)∨(d= -1∧decide (yo+ -1<0)=false∧decide (128<yo+ -1)=false):=by
     have:=HL.o;have:=NG.o;rcases bI with e|e
     ·left;subst e;exact⟨rfl,qD Y,qD Y⟩
     ·right;subst e;exact⟨rfl,qD Y,qD Y⟩
    clear bI NH hk1;rcases ff with⟨rfl,h2,h3⟩|⟨rfl,h2,h3⟩
    ·go_enter func413,ntmps413
     go_wp2_with(first
      |(go_at_call 258;refine HC.o.mono ?_;rintro e w2 ⟨rfl,hb2⟩;have az:=Hd hb2;clear hb2)
      |(go_at_call 457;go_loud (refine(rV {x with o:=x.o+1} x false yi yk yl (yo+1) ys oa n c (by rw[←HF.o,←HX.o.2]) HX.o.1 _ (H.o.grow (ai az.o (aa w2 _))) ((HR.o.abY _).grow (ai az.o (aa w2 _)))).mono ?_;rintro e w3 ⟨rfl,h3,ho3⟩;have H3:=Hd h3;have mx:=Hd ho3;clear h3 ho3)))
     go_ret;exact⟨aO HE.o.1.symm,by rw[HE.o.2];exact H3.o,(ax.af (ai az.o (aa w2 _))).trans mx.o⟩
    ·go_enter func413,ntmps413
     go_wp2_with(first
      |(go_at_call 258;refine HC.o.mono ?_;rintro e w2 ⟨rfl,hb2⟩;have az:=Hd hb2;clear hb2)
      |(go_at_call 457;go_loud (refine(rV {x with o:=x.o+ -1} x true yi yk yl (yo+ -1) ys oa n c (by rw[←HF.o,←HX.o.2]) HX.o.1 _ (H.o.grow (ai az.o (aa w2 _))) ((HR.o.abY _).grow (ai az.o (aa w2 _)))).mono ?_;rintro e w3 ⟨rfl,h3,ho3⟩;have H3:=Hd h3;have mx:=Hd ho3;clear h3 ho3)))
     go_ret;exact⟨aO HE.o.1.symm,by rw[HE.o.2];exact H3.o,(ax.af (ai az.o (aa w2 _))).trans mx.o⟩
  ·have HE:qy (cU L i d=1∧di L i d=L):=Hd (by
    have e:cU L i d=1:=by unfold cU;rw[HF.o];exact qB bI
    exact⟨e,by unfold di;rw[HF.o];exact qB (by rw[e];decide)⟩)
   have h1:(d !=1)=true:=bne_iff_ne.2 (fun e=>bI (.inl e));have h2:(d != -1)=true:=bne_iff_ne.2 (fun e=>bI (.inr e));clear bI;go_enter func413,ntmps413;go_wp2_with(go_at_call 258;refine HC.o.mono ?_;rintro e w2 ⟨rfl,hb2⟩;have az:=Hd hb2;clear hb2)
   go_ret;have hb:=ai az.o (aa w2 (qn #[U Z yi,U Z yk,U Z yl,U Z yo,U Z ys,qh oa n c] 95));exact⟨aO HE.o.1.symm,by rw[HE.o.2];exact H.o.grow hb,ax.af hb⟩
