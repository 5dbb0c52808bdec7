/- Part 16 of the texts that the law's walk needs. -/
import Derived.Test.YtimabpfjjpjfjaaGreatDoorM02
import Derived.Test.YtimabpfjjpjfjaaGreatDoorM14
import Derived.Test.YtimabpfjjpjfjaaGreatDoorM15
import Derived.Laws.ResultCell
import Derived.Laws.Rows
set_option maxHeartbeats 3200000
set_option maxRecDepth 100000
set_option linter.all false
open Go renaming World→qo,Value→qp,Addr→qt,TypeId→qu,Calls→qw
open Go.Obj renaming cells→qn
open Go.Value renaming int→U,string→qg,agg→ql,pointer→qi,slice→qh,bool→qk
open Go.IntKind renaming i64→Z
open Go.RowKit renaming Below→qz
open Go.Ending renaming returned→qm
namespace Go.Proofs.YtimabpfjjpjfjaaGreatDoor
open Tryz
open Tryz renaming prog→qx
namespace OpW
open Go.RowKit OpP
def nu(w:qo)(b:Nat)(r:Rec)(v:qp):Prop:=w.heap[b]? =some (qn #[U Z r.cl,U Z r.sq,U Z r.k,qg r.p,qg r.t,U Z r.sz,U Z r.h,U Z r.o,qg r.d,U Z r.tk,U Z r.i,v] 61 (0,0))
theorem nu.cells{w:qo}{b:Nat}{r:Rec}{v:qp}(h:nu w b r v):w.cell? ⟨b,0,none⟩=some (U Z r.cl)∧w.cell? ⟨b,1,none⟩=some (U Z r.sq)∧w.cell? ⟨b,2,none⟩=some (U Z r.k)∧w.cell? ⟨b,3,none⟩=some (qg r.p)∧
 w.cell? ⟨b,4,none⟩=some (qg r.t)∧w.cell? ⟨b,5,none⟩=some (U Z r.sz)∧w.cell? ⟨b,6,none⟩=some (U Z r.h)∧w.cell? ⟨b,7,none⟩=some (U Z r.o)∧w.cell? ⟨b,8,none⟩=some (qg r.d)∧
 w.cell? ⟨b,9,none⟩=some (U Z r.tk)∧w.cell? ⟨b,10,none⟩=some (U Z r.i)∧w.cell? ⟨b,11,none⟩=some v:=
 ⟨(aJ h 0),(aJ h 1),(aJ h 2),(aJ h 3),(aJ h 4),(aJ h 5),(aJ h 6),(aJ h 7),(aJ h 8),(aJ h 9),(aJ h 10),(aJ h 11)⟩
theorem nu.ag{w J:qo}{b:Nat}{r:Rec}{v:qp}(h:nu w b r v)(k:qz w.heap.size w J):nu J b r v:=(k.block b (qK h)).trans h
theorem nu.free{w:qo}{b:Nat}{r:Rec}{v:qp}(h:nu w b r v)(i:Nat):w.frozen? ⟨b,i,none⟩=false:=xx h i
theorem gd:(prog.info? 61).map (·.size)=some 12:=qd
theorem Ym:(prog.info? 405).map (fun i=>(i.zero,i.size,i.bytes))=some (some (ql #[U Z 0,U Z 0,U Z 0,U Z 0]),4,32):=qd
def eW(w:qo)(oa:Option qt)(l:List Mv):Prop:=uX zz 4 w.heap.size oa l w
theorem eW.grow{w J:qo}{oa:Option qt}{l:List Mv}(h:eW w oa l)(k:qz w.heap.size w J):eW J oa l:=uX.grow h k
theorem eW.nil(w:qo)(oa:Option qt):eW w oa []:=uX.nil _ _ _
theorem xN{w:qo}{oa:Option qt}{l:List Mv}(h:eW w oa l){i:Nat}{x:Mv}(hx:l[i]? =some x):
 ∃a,oa=some a∧a.block<w.heap.size∧w.cell? (a.add (i*4))=some (U Z x.a)∧w.cell? ⟨(a.add (i*4)).block,(a.add (i*4)).off+1,none⟩=some (U Z x.f)∧
  w.cell? ⟨(a.add (i*4)).block,(a.add (i*4)).off+2,none⟩=some (U Z x.n)∧w.cell? ⟨(a.add (i*4)).block,(a.add (i*4)).off+3,none⟩=some (U Z x.t):=by
 obtain⟨a,h1,h2,h3⟩:=h i x hx;exact⟨a,h1,h2,h3 0 _ rfl,h3 1 _ rfl,h3 2 _ rfl,h3 3 _ rfl⟩
theorem aR{P:Program}{fn:Func}{R:Ending→qo→Prop}{a:Act}{w:qo}{p:Tmp}{ty:qu}{g:Nat}{cs:Array qp}{d:TypeDesc}{t:qu}{fr:Nat×Nat}(Bz:fn.results=#[.cell p ty])
 (hp:a.tmps.getD p undef=qi (some ⟨g,0,none⟩)) (hd0:a.defers=[]) (hg:w.heap[g]? =some (qn cs t fr)) (hu:P.underlying ty=some d) (hd:(match d with| .struct _| .array _ _=>true|_=>false)=true)
 (hi:(P.info? ty).map (·.size)=some cs.size) (hR:R (qm (ql cs)) w):bodyPost P fn R .ret a w:=
 xB (results_cell_row Bz a.tmps w g t cs fr d hp hg hu hd hi) hd0 hR
theorem aY{P:Program}{fn:Func}{R:Ending→qo→Prop}{a:Act}{w:qo}{p u:Tmp}{ty:qu}{g:Nat}{cs:Array qp}{d:TypeDesc}{t:qu}{fr:Nat×Nat}(Bz:fn.results=#[.cell p ty,.tmp u])
 (hp:a.tmps.getD p undef=qi (some ⟨g,0,none⟩)) (hd0:a.defers=[]) (hg:w.heap[g]? =some (qn cs t fr)) (hu:P.underlying ty=some d) (hd:(match d with| .struct _| .array _ _=>true|_=>false)=true)
 (hi:(P.info? ty).map (·.size)=some cs.size) (hR:R (qm (.tuple #[ql cs,a.tmps.getD u undef])) w):bodyPost P fn R .ret a w:=
 xB (by rw[results_cell_tmp Bz,hp];simp[asAddr,Result.andThen,run_loadVar_row w g t ty cs fr d hg hu hd hi]) hd0 hR
theorem bn(w:qo)(o:Obj):(w.alloc o).heap.size=w.heap.size+1:=qc
theorem sh(w:qo)(o p:Obj):qz w.heap.size w ((w.alloc o).alloc p):=ai (aa w o) (aa _ p)
theorem aj{B g:Nat}{w J:qo}(h:qz B w J)(hg:B≤g)(cs:Array qp):qz B w (J.setRow g cs):=
 ⟨h.os,h.tape,h.output,by unfold World.setRow;simpa using h.size,fun k hk=>by rw[←h.block k hk];exact xl _ _ _ _ Y⟩
theorem uC(w:qo)(g:Nat)(cs:Array qp):ax g w (w.setRow g cs):=⟨rfl,rfl,rfl,by rw[setRow_size];exact Nat.le_refl _,fun k _ bd=>xl w g k cs (fun e=>bd (by rw[e]))⟩
theorem DB{w:qo}{base size n c:Nat}{e:qu}{oa:Option qt}{xs:List qp}(h:w.ownsRow base e size (qh oa n c) n xs):(∀a,oa=some a→base≤a.block∧a.block<w.heap.size)∧(oa=none→n=0∧c=0):=by
 rcases h.2 with⟨e,h0⟩|⟨g,cap,cur,e,h1,h2,_⟩
 ·simp only[Value.slice.injEq]at e;obtain⟨rfl,_,rfl⟩:=e;exact⟨fun a ha=>(by cases ha),fun _=>⟨h0,rfl⟩⟩
 ·simp only[Value.slice.injEq]at e;obtain⟨rfl,_,rfl⟩:=e;refine⟨fun a ha=>?_,fun ha=>(by cases ha)⟩;injection ha with ha
  subst ha;exact⟨h1,qK h2⟩
theorem eW.only{w J:qo}{c:Nat}{oa:Option qt}{l:List Mv}(h:eW w oa l)(k:ax c w J)(bd: ∀a,oa=some a→a.block≠c):eW J oa l:=(uX.only h k (Nat.le_refl _) bd).mono k.size
theorem fo(n lo hi:Int)(w:qo):qw qx 237 #[U Z n,U Z lo,U Z hi] w fun e J=>e=qm (qk (decide (lo≤n∧n≤hi)))∧w=J:=by
 by_cases h1:lo≤n
 ·by_cases h2:n≤hi
  all_goals
   go_enter func237,ntmps237;go_wp2_with fail
   go_ret
   first
    |exact⟨aH (qR Y).symm,rfl⟩
    |exact⟨aH (qD Y).symm,rfl⟩
 ·go_enter func237,ntmps237;go_wp2_with fail
  go_ret;exact⟨aH (by rw[qD (show¬lo≤n by omega)];rfl),rfl⟩
theorem tF(k:Int)(w:qo):qw qx 236 #[U Z k] w fun e J=>e=qm (qk (decide (1≤k)&&decide (k≤14)))∧w=J:=by
 by_cases h1:0<k
 ·by_cases h2:k<15
  all_goals
   go_enter func236,ntmps236;go_wp2_with fail
   go_ret;refine⟨aH ?_,rfl⟩
   first
    |rw[qR (show 1≤k by omega),qR (show k≤14 by omega)];rfl
    |rw[qD (show¬k≤14 by omega),Bool.and_false]
 ·go_enter func236,ntmps236;go_wp2_with fail
  go_ret;exact⟨aH (by rw[qD (show¬1≤k by omega)];rfl),rfl⟩
theorem DC(k:Int)(b:Bool)(hb:(decide (1≤k)&&decide (k≤14))=b)(w:qo):qw qx 236 #[U Z k] w fun e J=>e=qm (qk b)∧w=J:=by
 rw[←hb];exact tF k w
theorem kinds(k:Int)(h:1≤k∧k≤14):k=1∨k=2∨k=3∨k=4∨k=5∨k=6∨k=7∨k=8∨k=9∨k=10∨k=11∨k=12∨k=13∨k=14:=Y
theorem gz(w:qo)(o p q:Obj):qz w.heap.size w (((w.alloc o).alloc p).alloc q):=ai (sh w o p) (aa _ q)
def pw(r:Rec)(oa:Option qt):Option qt:=if kK r.k then oa else none
def iS(r:Rec)(n:Nat):Nat:=if kK r.k then n else 0
theorem si(r:Rec)(n:Nat)(hn:n=r.m.length):iS r n=(only r).m.length:=by
 unfold iS only
 cases kK r.k with
 |true=>exact hn
 |false=>rfl
theorem vl(r:Rec)(oa:Option qt)(w:qo)(h:eW w oa r.m):eW w (pw r oa) (only r).m:=by
 unfold pw only
 cases kK r.k with
 |true=>exact h
 |false=>exact eW.nil _ _
def OD(r:Rec)(oa:Option qt)(n c:Nat)(w:qo)(e:Ending)(J:qo):Prop:=e=qm (ql #[U Z (only r).cl,U Z (only r).sq,U Z (only r).k,qg (only r).p,qg (only r).t,U Z (only r).sz,U Z (only r).h,U Z (only r).o,qg (only r).d,U Z (only r).tk,U Z (only r).i,qh (pw r oa) (iS r n) (iS r c)])∧qz w.heap.size w J
theorem xO(r:Rec)(hk:r.k=1):only r=⟨r.cl,r.sq,r.k,r.p,⟨#[]⟩,0,0,0,⟨#[]⟩,0,0,[]⟩:=by
 have hP:lU r.k=true:=by rw[hk];rfl
 have hT:pQ r.k=false:=by rw[hk];rfl
 have hS:pT r.k=false:=by rw[hk];rfl
 have hH:pU r.k=false:=by rw[hk];rfl
 have hO:pW r.k=false:=by rw[hk];rfl
 have hD:pX r.k=false:=by rw[hk];rfl
 have hK:pY r.k=false:=by rw[hk];rfl
 have hM:kK r.k=false:=by rw[hk];rfl
 unfold only;rw[hP,hT,hS,hH,hO,hD,hK,hM];rfl
theorem xP(r:Rec)(hk:r.k=2):only r=⟨r.cl,r.sq,r.k,r.p,⟨#[]⟩,0,0,0,⟨#[]⟩,0,0,[]⟩:=by
 have hP:lU r.k=true:=by rw[hk];rfl
 have hT:pQ r.k=false:=by rw[hk];rfl
 have hS:pT r.k=false:=by rw[hk];rfl
 have hH:pU r.k=false:=by rw[hk];rfl
 have hO:pW r.k=false:=by rw[hk];rfl
 have hD:pX r.k=false:=by rw[hk];rfl
 have hK:pY r.k=false:=by rw[hk];rfl
 have hM:kK r.k=false:=by rw[hk];rfl
 unfold only;rw[hP,hT,hS,hH,hO,hD,hK,hM];rfl
theorem xQ(r:Rec)(hk:r.k=3):only r=⟨r.cl,r.sq,r.k,r.p,⟨#[]⟩,0,0,0,⟨#[]⟩,0,0,[]⟩:=by
 have hP:lU r.k=true:=by rw[hk];rfl
 have hT:pQ r.k=false:=by rw[hk];rfl
 have hS:pT r.k=false:=by rw[hk];rfl
 have hH:pU r.k=false:=by rw[hk];rfl
 have hO:pW r.k=false:=by rw[hk];rfl
 have hD:pX r.k=false:=by rw[hk];rfl
 have hK:pY r.k=false:=by rw[hk];rfl
 have hM:kK r.k=false:=by rw[hk];rfl
 unfold only;rw[hP,hT,hS,hH,hO,hD,hK,hM];rfl
theorem xR(r:Rec)(hk:r.k=4):only r=⟨r.cl,r.sq,r.k,r.p,r.t,0,0,0,⟨#[]⟩,0,0,[]⟩:=by
 have hP:lU r.k=true:=by rw[hk];rfl
 have hT:pQ r.k=true:=by rw[hk];rfl
 have hS:pT r.k=false:=by rw[hk];rfl
 have hH:pU r.k=false:=by rw[hk];rfl
 have hO:pW r.k=false:=by rw[hk];rfl
 have hD:pX r.k=false:=by rw[hk];rfl
 have hK:pY r.k=false:=by rw[hk];rfl
 have hM:kK r.k=false:=by rw[hk];rfl
 unfold only;rw[hP,hT,hS,hH,hO,hD,hK,hM];rfl
theorem xS(r:Rec)(hk:r.k=5):only r=⟨r.cl,r.sq,r.k,r.p,⟨#[]⟩,0,0,0,⟨#[]⟩,0,0,[]⟩:=by
 have hP:lU r.k=true:=by rw[hk];rfl
 have hT:pQ r.k=false:=by rw[hk];rfl
 have hS:pT r.k=false:=by rw[hk];rfl
 have hH:pU r.k=false:=by rw[hk];rfl
 have hO:pW r.k=false:=by rw[hk];rfl
 have hD:pX r.k=false:=by rw[hk];rfl
 have hK:pY r.k=false:=by rw[hk];rfl
 have hM:kK r.k=false:=by rw[hk];rfl
 unfold only;rw[hP,hT,hS,hH,hO,hD,hK,hM];rfl
theorem xT(r:Rec)(hk:r.k=6):only r=⟨r.cl,r.sq,r.k,r.p,r.t,0,0,0,⟨#[]⟩,0,0,[]⟩:=by
 have hP:lU r.k=true:=by rw[hk];rfl
 have hT:pQ r.k=true:=by rw[hk];rfl
 have hS:pT r.k=false:=by rw[hk];rfl
 have hH:pU r.k=false:=by rw[hk];rfl
 have hO:pW r.k=false:=by rw[hk];rfl
 have hD:pX r.k=false:=by rw[hk];rfl
 have hK:pY r.k=false:=by rw[hk];rfl
 have hM:kK r.k=false:=by rw[hk];rfl
 unfold only;rw[hP,hT,hS,hH,hO,hD,hK,hM];rfl
theorem xU(r:Rec)(hk:r.k=7):only r=⟨r.cl,r.sq,r.k,r.p,⟨#[]⟩,r.sz,0,0,⟨#[]⟩,0,0,[]⟩:=by
 have hP:lU r.k=true:=by rw[hk];rfl
 have hT:pQ r.k=false:=by rw[hk];rfl
 have hS:pT r.k=true:=by rw[hk];rfl
 have hH:pU r.k=false:=by rw[hk];rfl
 have hO:pW r.k=false:=by rw[hk];rfl
 have hD:pX r.k=false:=by rw[hk];rfl
 have hK:pY r.k=false:=by rw[hk];rfl
 have hM:kK r.k=false:=by rw[hk];rfl
 unfold only;rw[hP,hT,hS,hH,hO,hD,hK,hM];rfl
theorem xV(r:Rec)(hk:r.k=8):only r=⟨r.cl,r.sq,r.k,r.p,⟨#[]⟩,0,0,0,⟨#[]⟩,0,0,[]⟩:=by
 have hP:lU r.k=true:=by rw[hk];rfl
 have hT:pQ r.k=false:=by rw[hk];rfl
 have hS:pT r.k=false:=by rw[hk];rfl
 have hH:pU r.k=false:=by rw[hk];rfl
 have hO:pW r.k=false:=by rw[hk];rfl
 have hD:pX r.k=false:=by rw[hk];rfl
 have hK:pY r.k=false:=by rw[hk];rfl
 have hM:kK r.k=false:=by rw[hk];rfl
 unfold only;rw[hP,hT,hS,hH,hO,hD,hK,hM];rfl
theorem xW(r:Rec)(hk:r.k=9):only r=⟨r.cl,r.sq,r.k,⟨#[]⟩,⟨#[]⟩,0,r.h,0,⟨#[]⟩,0,0,[]⟩:=by
 have hP:lU r.k=false:=by rw[hk];rfl
 have hT:pQ r.k=false:=by rw[hk];rfl
 have hS:pT r.k=false:=by rw[hk];rfl
 have hH:pU r.k=true:=by rw[hk];rfl
 have hO:pW r.k=false:=by rw[hk];rfl
 have hD:pX r.k=false:=by rw[hk];rfl
 have hK:pY r.k=false:=by rw[hk];rfl
 have hM:kK r.k=false:=by rw[hk];rfl
 unfold only;rw[hP,hT,hS,hH,hO,hD,hK,hM];rfl
theorem tH(r:Rec)(hk:r.k=10):only r=⟨r.cl,r.sq,r.k,⟨#[]⟩,⟨#[]⟩,0,r.h,r.o,r.d,0,0,[]⟩:=by
 have hP:lU r.k=false:=by rw[hk];rfl
 have hT:pQ r.k=false:=by rw[hk];rfl
 have hS:pT r.k=false:=by rw[hk];rfl
 have hH:pU r.k=true:=by rw[hk];rfl
 have hO:pW r.k=true:=by rw[hk];rfl
 have hD:pX r.k=true:=by rw[hk];rfl
 have hK:pY r.k=false:=by rw[hk];rfl
 have hM:kK r.k=false:=by rw[hk];rfl
 unfold only;rw[hP,hT,hS,hH,hO,hD,hK,hM];rfl
theorem tI(r:Rec)(hk:r.k=11):only r=⟨r.cl,r.sq,r.k,⟨#[]⟩,⟨#[]⟩,0,0,0,⟨#[]⟩,r.tk,0,[]⟩:=by
 have hP:lU r.k=false:=by rw[hk];rfl
 have hT:pQ r.k=false:=by rw[hk];rfl
 have hS:pT r.k=false:=by rw[hk];rfl
 have hH:pU r.k=false:=by rw[hk];rfl
 have hO:pW r.k=false:=by rw[hk];rfl
 have hD:pX r.k=false:=by rw[hk];rfl
 have hK:pY r.k=true:=by rw[hk];rfl
 have hM:kK r.k=false:=by rw[hk];rfl
 unfold only;rw[hP,hT,hS,hH,hO,hD,hK,hM];rfl
theorem tJ(r:Rec)(hk:r.k=12):only r=⟨r.cl,r.sq,r.k,⟨#[]⟩,⟨#[]⟩,0,0,0,⟨#[]⟩,r.tk,0,[]⟩:=by
 have hP:lU r.k=false:=by rw[hk];rfl
 have hT:pQ r.k=false:=by rw[hk];rfl
 have hS:pT r.k=false:=by rw[hk];rfl
 have hH:pU r.k=false:=by rw[hk];rfl
 have hO:pW r.k=false:=by rw[hk];rfl
 have hD:pX r.k=false:=by rw[hk];rfl
 have hK:pY r.k=true:=by rw[hk];rfl
 have hM:kK r.k=false:=by rw[hk];rfl
 unfold only;rw[hP,hT,hS,hH,hO,hD,hK,hM];rfl
theorem tK(r:Rec)(hk:r.k=13):only r=⟨r.cl,r.sq,r.k,⟨#[]⟩,⟨#[]⟩,0,0,0,r.d,0,r.i,r.m⟩:=by
 have hP:lU r.k=false:=by rw[hk];rfl
 have hT:pQ r.k=false:=by rw[hk];rfl
 have hS:pT r.k=false:=by rw[hk];rfl
 have hH:pU r.k=false:=by rw[hk];rfl
 have hO:pW r.k=false:=by rw[hk];rfl
 have hD:pX r.k=true:=by rw[hk];rfl
 have hK:pY r.k=false:=by rw[hk];rfl
 have hM:kK r.k=true:=by rw[hk];rfl
 unfold only;rw[hP,hT,hS,hH,hO,hD,hK,hM];rfl
theorem tM(r:Rec)(hk:r.k=14):only r=⟨r.cl,r.sq,r.k,⟨#[]⟩,⟨#[]⟩,r.sz,0,r.o,r.d,0,0,[]⟩:=by
 have hP:lU r.k=false:=by rw[hk];rfl
 have hT:pQ r.k=false:=by rw[hk];rfl
 have hS:pT r.k=true:=by rw[hk];rfl
 have hH:pU r.k=false:=by rw[hk];rfl
 have hO:pW r.k=true:=by rw[hk];rfl
 have hD:pX r.k=true:=by rw[hk];rfl
 have hK:pY r.k=false:=by rw[hk];rfl
 have hM:kK r.k=false:=by rw[hk];rfl
 unfold only;rw[hP,hT,hS,hH,hO,hD,hK,hM];rfl
def fieldsOf(k:Int):ByteArray:=
 if k==4||k==6 then⟨#[112,116]⟩else if k==7 then⟨#[112,115]⟩else if lU k then⟨#[112]⟩else if k==9 then⟨#[104]⟩else if k==10 then⟨#[104,111,100]⟩
 else if k==11||k==12 then⟨#[107]⟩else if k==13 then⟨#[105,109,100]⟩else if k==14 then⟨#[100,115,111]⟩else⟨#[]⟩
def Fl(w:qo):Prop:= ∀k:Nat,1≤k→k≤14→w.cell? ⟨7,k,none⟩=some (qg (fieldsOf k))
theorem Fl.ag{w J:qo}(h:Fl w)(k:qz w.heap.size w J):Fl J:=fun j h1 h2=>by
 rw[←h j h1 h2];exact k.cell (xv _ _ (h j h1 h2))
def cB(c:UInt8)(r o:Rec):Rec:=
 if c=112 then{o with p:=r.p}else if c=116 then{o with t:=r.t}else if c=115 then{o with sz:=r.sz}else if c=104 then{o with h:=r.h}else if c=111 then{o with o:=r.o}
 else if c=100 then{o with d:=r.d}else if c=107 then{o with tk:=r.tk}else if c=105 then{o with i:=r.i}else if c=109 then{o with m:=r.m}else o
def cQ(l:List UInt8)(r:Rec):Rec:=l.foldl (fun o c=>cB c r o) ⟨r.cl,r.sq,r.k,⟨#[]⟩,⟨#[]⟩,0,0,0,⟨#[]⟩,0,0,[]⟩
theorem eG(l:List UInt8)(c:UInt8)(r:Rec):cQ (l++[c]) r=cB c r (cQ l r):=by unfold cQ;rw[List.foldl_append];rfl
theorem Aw(r:Rec)(h:1≤r.k∧r.k≤14):cQ (fieldsOf r.k).data.toList r=only r:=by
 rcases kinds r.k h with e|e|e|e|e|e|e|e|e|e|e|e|e|e
 ·rw[xO r e,e,show(fieldsOf 1).data.toList=[112]from by decide];simp[cQ,cB,e]
 ·rw[xP r e,e,show(fieldsOf 2).data.toList=[112]from by decide];simp[cQ,cB,e]
 ·rw[xQ r e,e,show(fieldsOf 3).data.toList=[112]from by decide];simp[cQ,cB,e]
 ·rw[xR r e,e,show(fieldsOf 4).data.toList=[112,116]from by decide];simp[cQ,cB,e]
 ·rw[xS r e,e,show(fieldsOf 5).data.toList=[112]from by decide];simp[cQ,cB,e]
 ·rw[xT r e,e,show(fieldsOf 6).data.toList=[112,116]from by decide];simp[cQ,cB,e]
 ·rw[xU r e,e,show(fieldsOf 7).data.toList=[112,115]from by decide];simp[cQ,cB,e]
 ·rw[xV r e,e,show(fieldsOf 8).data.toList=[112]from by decide];simp[cQ,cB,e]
 ·rw[xW r e,e,show(fieldsOf 9).data.toList=[104]from by decide];simp[cQ,cB,e]
 ·rw[tH r e,e,show(fieldsOf 10).data.toList=[104,111,100]from by decide];simp[cQ,cB,e]
 ·rw[tI r e,e,show(fieldsOf 11).data.toList=[107]from by decide];simp[cQ,cB,e]
 ·rw[tJ r e,e,show(fieldsOf 12).data.toList=[107]from by decide];simp[cQ,cB,e]
 ·rw[tK r e,e,show(fieldsOf 13).data.toList=[105,109,100]from by decide];simp[cQ,cB,e]
 ·rw[tM r e,e,show(fieldsOf 14).data.toList=[100,115,111]from by decide];simp[cQ,cB,e]
def DD(c:UInt8):Prop:=c=112∨c=116∨c=115∨c=104∨c=111∨c=100∨c=107∨c=105∨c=109
theorem OE(l:List UInt8)(h:(l.all fun c=>c==112||c==116||c==115||c==104||c==111||c==100||c==107||c==105||c==109)=true): ∀c∈l,DD c:=by
 intro c hc;have:=List.all_eq_true.1 h c hc;simpa [DD,or_assoc]using this
theorem iy(k:Int)(h:1≤k∧k≤14): ∀c∈(fieldsOf k).data.toList,DD c:=by
 apply OE;rcases kinds k h with e|e|e|e|e|e|e|e|e|e|e|e|e|e<;>(rw[e];decide)
theorem kA(k:Int)(h:1≤k∧k≤14):(fieldsOf k).size≤3:=by
 rcases kinds k h with e|e|e|e|e|e|e|e|e|e|e|e|e|e<;>(rw[e];decide)
theorem Ax(r o:Rec):cB 112 r o={o with p:=r.p}:=by unfold cB;rw[qH rfl]
theorem Ay(r o:Rec):cB 116 r o={o with t:=r.t}:=by unfold cB;rw[qB qa,qH rfl]
theorem Az(r o:Rec):cB 115 r o={o with sz:=r.sz}:=by unfold cB;rw[qB qa,qB qa,qH rfl]
theorem AA(r o:Rec):cB 104 r o={o with h:=r.h}:=by unfold cB;rw[qB qa,qB qa,qB qa,qH rfl]
theorem AB(r o:Rec):cB 111 r o={o with o:=r.o}:=by unfold cB;rw[qB qa,qB qa,qB qa,qB qa,qH rfl]
theorem AD(r o:Rec):cB 100 r o={o with d:=r.d}:=by unfold cB;rw[qB qa,qB qa,qB qa,qB qa,qB qa,qH rfl]
theorem AE(r o:Rec):cB 107 r o={o with tk:=r.tk}:=by unfold cB;rw[qB qa,qB qa,qB qa,qB qa,qB qa,qB qa,qH rfl]
theorem AF(r o:Rec):cB 105 r o={o with i:=r.i}:=by unfold cB;rw[qB qa,qB qa,qB qa,qB qa,qB qa,qB qa,qB qa,qH rfl]
theorem AG(r o:Rec):cB 109 r o={o with m:=r.m}:=by unfold cB;rw[qB qa,qB qa,qB qa,qB qa,qB qa,qB qa,qB qa,qB qa,qH rfl]
def uD(l:List UInt8)(v:qp):qp:=if(109:UInt8)∈l then v else qh none 0 0
theorem iT{l:List UInt8}{c:UInt8}{v:qp}(h:c≠109):uD (l++[c]) v=uD l v:=by
 unfold uD;by_cases hl:(109:UInt8)∈l
 ·rw[qH hl,qH (List.mem_append_left _ hl)]
 ·rw[qB hl,qB];intro hm;rcases xa.1 hm with hm|hm
  ·exact hl hm
  ·exact h (qS.1 hm).symm
theorem KM{l:List UInt8}{v:qp}:uD (l++[109]) v=v:=by unfold uD;rw[qH qc]
theorem Gc(r:Rec)(h:1≤r.k∧r.k≤14)(oa:Option qt)(n c:Nat):uD (fieldsOf r.k).data.toList (qh oa n c)=qh (pw r oa) (iS r n) (iS r c):=by
 unfold uD pw iS;rcases kinds r.k h with e|e|e|e|e|e|e|e|e|e|e|e|e|e<;>(rw[e];rfl)
structure KeptAt(r:Rec)(v:qp)(s:ByteArray)(w:qo)(k:Nat)(wr:qo):Prop where
 box:nu wr w.heap.size r v
 res:wr.heap[w.heap.size+1]? =some (qn #[U Z 0,U Z 0,U Z 0,qg ⟨#[]⟩,qg ⟨#[]⟩,U Z 0,U Z 0,U Z 0,qg ⟨#[]⟩,U Z 0,U Z 0,qh none 0 0] 61 (0,0))
 o: ∃u,nu wr (w.heap.size+2) (cQ (s.data.toList.take k) r) u∧u=uD (s.data.toList.take k) v
 low:qz w.heap.size w wr
theorem gO{w:qo}{b i:Nat}{cs ds:Array qp}{t:qu}{u:qp}(h:w.heap[b]? =some (qn cs t (0,0)))(e:cs.setIfInBounds i u=ds):(w.setCell ⟨b,i,none⟩ u).heap[b]? =some (qn ds t (0,0)):=by
 rw[heap_setCell_same w b i _ _ u h,←e]
theorem KeptAt.Yn{r:Rec}{oa:Option qt}{n c:Nat}{s:ByteArray}{w wr:qo}{k:Nat}(h:KeptAt r (qh oa n c) s w k wr)(hk:k<s.size)(hb:s[k]=112):KeptAt r (qh oa n c) s w (k+1) (wr.setCell ⟨w.heap.size+2,3,none⟩ (qg r.p)):=by
 obtain⟨h1,h2,⟨u,h3,h4⟩,h5⟩:=h
 have e:cQ (s.data.toList.take (k+1)) r={cQ (s.data.toList.take k) r with p:=r.p}:=by
  rw[qL (by simpa using hk),eG,←Ax,←hb];rfl
 refine⟨(xj _ _ _ _ qc).trans h1,(xj _ _ _ _ qc).trans h2,⟨u,?_,?_⟩,h5.setCell (p:=⟨w.heap.size+2,3,none⟩) qc _⟩
 ·rw[e];exact gO h3 (by rfl)
 ·rw[qL (by simpa using hk),show s.data.toList[k]=112 from hb,iT qa];exact h4
theorem KeptAt.Yo{r:Rec}{oa:Option qt}{n c:Nat}{s:ByteArray}{w wr:qo}{k:Nat}(h:KeptAt r (qh oa n c) s w k wr)(hk:k<s.size)(hb:s[k]=116):KeptAt r (qh oa n c) s w (k+1) (wr.setCell ⟨w.heap.size+2,4,none⟩ (qg r.t)):=by
 obtain⟨h1,h2,⟨u,h3,h4⟩,h5⟩:=h
 have e:cQ (s.data.toList.take (k+1)) r={cQ (s.data.toList.take k) r with t:=r.t}:=by
  rw[qL (by simpa using hk),eG,←Ay,←hb];rfl
 refine⟨(xj _ _ _ _ qc).trans h1,(xj _ _ _ _ qc).trans h2,⟨u,?_,?_⟩,h5.setCell (p:=⟨w.heap.size+2,4,none⟩) qc _⟩
 ·rw[e];exact gO h3 (by rfl)
 ·rw[qL (by simpa using hk),show s.data.toList[k]=116 from hb,iT qa];exact h4
theorem KeptAt.Yp{r:Rec}{oa:Option qt}{n c:Nat}{s:ByteArray}{w wr:qo}{k:Nat}(h:KeptAt r (qh oa n c) s w k wr)(hk:k<s.size)(hb:s[k]=115):KeptAt r (qh oa n c) s w (k+1) (wr.setCell ⟨w.heap.size+2,5,none⟩ (U Z r.sz)):=by
 obtain⟨h1,h2,⟨u,h3,h4⟩,h5⟩:=h
 have e:cQ (s.data.toList.take (k+1)) r={cQ (s.data.toList.take k) r with sz:=r.sz}:=by
  rw[qL (by simpa using hk),eG,←Az,←hb];rfl
 refine⟨(xj _ _ _ _ qc).trans h1,(xj _ _ _ _ qc).trans h2,⟨u,?_,?_⟩,h5.setCell (p:=⟨w.heap.size+2,5,none⟩) qc _⟩
 ·rw[e];exact gO h3 (by rfl)
 ·rw[qL (by simpa using hk),show s.data.toList[k]=115 from hb,iT qa];exact h4
theorem KeptAt.Yr{r:Rec}{oa:Option qt}{n c:Nat}{s:ByteArray}{w wr:qo}{k:Nat}(h:KeptAt r (qh oa n c) s w k wr)(hk:k<s.size)(hb:s[k]=104):KeptAt r (qh oa n c) s w (k+1) (wr.setCell ⟨w.heap.size+2,6,none⟩ (U Z r.h)):=by
 obtain⟨h1,h2,⟨u,h3,h4⟩,h5⟩:=h
 have e:cQ (s.data.toList.take (k+1)) r={cQ (s.data.toList.take k) r with h:=r.h}:=by
  rw[qL (by simpa using hk),eG,←AA,←hb];rfl
 refine⟨(xj _ _ _ _ qc).trans h1,(xj _ _ _ _ qc).trans h2,⟨u,?_,?_⟩,h5.setCell (p:=⟨w.heap.size+2,6,none⟩) qc _⟩
 ·rw[e];exact gO h3 (by rfl)
 ·rw[qL (by simpa using hk),show s.data.toList[k]=104 from hb,iT qa];exact h4
theorem KeptAt.Ys{r:Rec}{oa:Option qt}{n c:Nat}{s:ByteArray}{w wr:qo}{k:Nat}(h:KeptAt r (qh oa n c) s w k wr)(hk:k<s.size)(hb:s[k]=111):KeptAt r (qh oa n c) s w (k+1) (wr.setCell ⟨w.heap.size+2,7,none⟩ (U Z r.o)):=by
 obtain⟨h1,h2,⟨u,h3,h4⟩,h5⟩:=h
 have e:cQ (s.data.toList.take (k+1)) r={cQ (s.data.toList.take k) r with o:=r.o}:=by
  rw[qL (by simpa using hk),eG,←AB,←hb];rfl
 refine⟨(xj _ _ _ _ qc).trans h1,(xj _ _ _ _ qc).trans h2,⟨u,?_,?_⟩,h5.setCell (p:=⟨w.heap.size+2,7,none⟩) qc _⟩
 ·rw[e];exact gO h3 (by rfl)
 ·rw[qL (by simpa using hk),show s.data.toList[k]=111 from hb,iT qa];exact h4
theorem KeptAt.Yt{r:Rec}{oa:Option qt}{n c:Nat}{s:ByteArray}{w wr:qo}{k:Nat}(h:KeptAt r (qh oa n c) s w k wr)(hk:k<s.size)(hb:s[k]=100):KeptAt r (qh oa n c) s w (k+1) (wr.setCell ⟨w.heap.size+2,8,none⟩ (qg r.d)):=by
 obtain⟨h1,h2,⟨u,h3,h4⟩,h5⟩:=h
 have e:cQ (s.data.toList.take (k+1)) r={cQ (s.data.toList.take k) r with d:=r.d}:=by
  rw[qL (by simpa using hk),eG,←AD,←hb];rfl
 refine⟨(xj _ _ _ _ qc).trans h1,(xj _ _ _ _ qc).trans h2,⟨u,?_,?_⟩,h5.setCell (p:=⟨w.heap.size+2,8,none⟩) qc _⟩
 ·rw[e];exact gO h3 (by rfl)
 ·rw[qL (by simpa using hk),show s.data.toList[k]=100 from hb,iT qa];exact h4
theorem KeptAt.Yu{r:Rec}{oa:Option qt}{n c:Nat}{s:ByteArray}{w wr:qo}{k:Nat}(h:KeptAt r (qh oa n c) s w k wr)(hk:k<s.size)(hb:s[k]=107):KeptAt r (qh oa n c) s w (k+1) (wr.setCell ⟨w.heap.size+2,9,none⟩ (U Z r.tk)):=by
 obtain⟨h1,h2,⟨u,h3,h4⟩,h5⟩:=h
 have e:cQ (s.data.toList.take (k+1)) r={cQ (s.data.toList.take k) r with tk:=r.tk}:=by
  rw[qL (by simpa using hk),eG,←AE,←hb];rfl
 refine⟨(xj _ _ _ _ qc).trans h1,(xj _ _ _ _ qc).trans h2,⟨u,?_,?_⟩,h5.setCell (p:=⟨w.heap.size+2,9,none⟩) qc _⟩
 ·rw[e];exact gO h3 (by rfl)
 ·rw[qL (by simpa using hk),show s.data.toList[k]=107 from hb,iT qa];exact h4
theorem KeptAt.Yv{r:Rec}{oa:Option qt}{n c:Nat}{s:ByteArray}{w wr:qo}{k:Nat}(h:KeptAt r (qh oa n c) s w k wr)(hk:k<s.size)(hb:s[k]=105):KeptAt r (qh oa n c) s w (k+1) (wr.setCell ⟨w.heap.size+2,10,none⟩ (U Z r.i)):=by
 obtain⟨h1,h2,⟨u,h3,h4⟩,h5⟩:=h
 have e:cQ (s.data.toList.take (k+1)) r={cQ (s.data.toList.take k) r with i:=r.i}:=by
  rw[qL (by simpa using hk),eG,←AF,←hb];rfl
 refine⟨(xj _ _ _ _ qc).trans h1,(xj _ _ _ _ qc).trans h2,⟨u,?_,?_⟩,h5.setCell (p:=⟨w.heap.size+2,10,none⟩) qc _⟩
 ·rw[e];exact gO h3 (by rfl)
 ·rw[qL (by simpa using hk),show s.data.toList[k]=105 from hb,iT qa];exact h4
theorem KeptAt.Yw{r:Rec}{oa:Option qt}{n c:Nat}{s:ByteArray}{w wr:qo}{k:Nat}(h:KeptAt r (qh oa n c) s w k wr)(hk:k<s.size)(hb:s[k]=109):KeptAt r (qh oa n c) s w (k+1) (wr.setCell ⟨w.heap.size+2,11,none⟩ (qh oa n c)):=by
 obtain⟨h1,h2,⟨u,h3,h4⟩,h5⟩:=h
 have e:cQ (s.data.toList.take (k+1)) r={cQ (s.data.toList.take k) r with m:=r.m}:=by
  rw[qL (by simpa using hk),eG,←AG,←hb];rfl
 refine⟨(xj _ _ _ _ qc).trans h1,(xj _ _ _ _ qc).trans h2,⟨qh oa n c,?_,?_⟩,h5.setCell (p:=⟨w.heap.size+2,11,none⟩) qc _⟩
 ·rw[e];exact gO h3 (by rfl)
 ·rw[qL (by simpa using hk),show s.data.toList[k]=109 from hb,KM]
theorem sj(r:Rec)(hk:1≤r.k∧r.k≤14)(oa:Option qt)(n c:Nat)(w:qo)(hf:Fl w):qw qx 240 #[ql #[U Z r.cl,U Z r.sq,U Z r.k,qg r.p,qg r.t,U Z r.sz,U Z r.h,U Z r.o,qg r.d,U Z r.tk,U Z r.i,qh oa n c]] w (OD r oa n c w):=by
 have HK:=Hd (Aw r hk);have HI:=Hd (iy r.k hk);have HS:Hid ((fieldsOf r.k).size≤3):=Hd (kA r.k hk);obtain⟨kn,FE⟩: ∃kn:Nat,r.k=(kn:Int):=⟨r.k.toNat,Y⟩;have H1:1≤kn:=Y;have H2:kn≤14:=Y;have HV:=Hd (Gc r hk oa n c);have zA:=hf kn H1 H2;rw[←FE]at zA;have hz:=xv _ _ zA;have Sr:(fieldsOf r.k).size≤3:=HS.o;have agB:((kn:Int)).toNat=kn:=Y;generalize fieldsOf r.k=s at zA HK HI HS Sr HV;have agC: ∀A B C:Obj,(((w.alloc A).alloc B).alloc C).cell? ⟨7,kn,none⟩=some (qg s):=fun A B C=>aA (aA (aA zA))
 have H0:Hid (∀a b:qp,KeptAt r (qh oa n c) s w 0 (((w.alloc (qn #[U Z r.cl,U Z r.sq,U Z r.k,qg r.p,qg r.t,U Z r.sz,U Z r.h,U Z r.o,qg r.d,U Z r.tk,U Z r.i,qh oa n c] 61)).alloc (qn #[U Z 0,U Z 0,U Z 0,qg ⟨#[]⟩,qg ⟨#[]⟩,U Z 0,U Z 0,U Z 0,qg ⟨#[]⟩,U Z 0,U Z 0,qh none 0 0] 61)).alloc (qn #[U Z r.cl,U Z r.sq,U Z r.k,qg ⟨#[]⟩,qg ⟨#[]⟩,U Z 0,U Z 0,U Z 0,qg ⟨#[]⟩,U Z 0,U Z 0,qh none 0 0] 61))):=Hd fun _ _=>
  ⟨(xm _ _ (by simp;omega)).trans ((xm _ _ qc).trans (qA w _)),(xm _ _ qc).trans (heap_alloc2_new w _ _),
    ⟨qh none 0 0,(by have:=qA ((w.alloc (qn #[U Z r.cl,U Z r.sq,U Z r.k,qg r.p,qg r.t,U Z r.sz,U Z r.h,U Z r.o,qg r.d,U Z r.tk,U Z r.i,qh oa n c] 61)).alloc (qn #[U Z 0,U Z 0,U Z 0,qg ⟨#[]⟩,qg ⟨#[]⟩,U Z 0,U Z 0,U Z 0,qg ⟨#[]⟩,U Z 0,U Z 0,qh none 0 0] 61)) (qn #[U Z r.cl,U Z r.sq,U Z r.k,qg ⟨#[]⟩,qg ⟨#[]⟩,U Z 0,U Z 0,U Z 0,qg ⟨#[]⟩,U Z 0,U Z 0,qh none 0 0] 61);rw[bn,bn]at this;exact this),rfl⟩,gz w _ _ _⟩
 have HKN:Hid (r.k=(kn:Int)):=Hd FE;rw[FE]at H0;clear hk hf;go_enter func240,ntmps240;go_wp2_with fail
 clear FE zA agB agC
 go_loopw [19] (fun i wr=> ∃k:Nat,k≤s.size∧i=U Z (k:Int)∧KeptAt r (qh oa n c) s w k wr) (fun i _=>((s.size:Int)-intOf i).toNat)
 case atStart=>exact⟨0,Y,rfl,H0.o .nilIface .nilIface⟩
 case round=>
  obtain⟨k,hk,rfl,Wm⟩:=hrel;have HA:=Hd Wm;obtain⟨c0,c1,c2,c3,c4,c5,c6,c7,c8,c9,c10,c11⟩:=Wm.box.cells;by_cases aN:k<s.size
  ·have hk0:(0:Int)≤(k:Int):=by omega
   have vN:(k:Int)<(s.size:Int):=Y;obtain⟨u,ho,_⟩:=Wm.o;obtain⟨d0,d1,d2,d3,d4,d5,d6,d7,d8,d9,d10,d11⟩:=ho.cells;have fz:=ho.free;have hb:DD s[k]:=HI.o _ (List.getElem_mem (by simpa using aN));clear Wm ho;rcases hb with hb|hb|hb|hb|hb|hb|hb|hb|hb
   ·have HB:=Hd hb;have fj:=fz 3;have DE:((s[k].toNat:Int)==112)=true:=by rw[hb];rfl
    have DF:((s[k].toNat:Int)==116)=false:=by rw[hb];rfl
    have DG:((s[k].toNat:Int)==115)=false:=by rw[hb];rfl
    have DH:((s[k].toNat:Int)==104)=false:=by rw[hb];rfl
    have DI:((s[k].toNat:Int)==111)=false:=by rw[hb];rfl
    have DJ:((s[k].toNat:Int)==100)=false:=by rw[hb];rfl
    have DK:((s[k].toNat:Int)==107)=false:=by rw[hb];rfl
    have DL:((s[k].toNat:Int)==105)=false:=by rw[hb];rfl
    have DM:((s[k].toNat:Int)==109)=false:=by rw[hb];rfl
    clear hb fz c0 c1 c2 c4 c5 c6 c7 c8 c9 c10 c11 d0 d1 d2 d4 d5 d6 d7 d8 d9 d10 d11;go_wp2_with fail
    exact⟨⟨k+1,Y,qc,KeptAt.Yn HA.o aN HB.o⟩,by simp[intOf];omega⟩
   ·have HB:=Hd hb;have fj:=fz 4;have DE:((s[k].toNat:Int)==112)=false:=by rw[hb];rfl
    have DF:((s[k].toNat:Int)==116)=true:=by rw[hb];rfl
    have DG:((s[k].toNat:Int)==115)=false:=by rw[hb];rfl
    have DH:((s[k].toNat:Int)==104)=false:=by rw[hb];rfl
    have DI:((s[k].toNat:Int)==111)=false:=by rw[hb];rfl
    have DJ:((s[k].toNat:Int)==100)=false:=by rw[hb];rfl
    have DK:((s[k].toNat:Int)==107)=false:=by rw[hb];rfl
    have DL:((s[k].toNat:Int)==105)=false:=by rw[hb];rfl
    have DM:((s[k].toNat:Int)==109)=false:=by rw[hb];rfl
    clear hb fz c0 c1 c2 c3 c5 c6 c7 c8 c9 c10 c11 d0 d1 d2 d3 d5 d6 d7 d8 d9 d10 d11;go_wp2_with fail
    exact⟨⟨k+1,Y,qc,KeptAt.Yo HA.o aN HB.o⟩,by simp[intOf];omega⟩
   ·have HB:=Hd hb;have fj:=fz 5;have DE:((s[k].toNat:Int)==112)=false:=by rw[hb];rfl
    have DF:((s[k].toNat:Int)==116)=false:=by rw[hb];rfl
    have DG:((s[k].toNat:Int)==115)=true:=by rw[hb];rfl
    have DH:((s[k].toNat:Int)==104)=false:=by rw[hb];rfl
    have DI:((s[k].toNat:Int)==111)=false:=by rw[hb];rfl
    have DJ:((s[k].toNat:Int)==100)=false:=by rw[hb];rfl
    have DK:((s[k].toNat:Int)==107)=false:=by rw[hb];rfl
    have DL:((s[k].toNat:Int)==105)=false:=by rw[hb];rfl
    have DM:((s[k].toNat:Int)==109)=false:=by rw[hb];rfl
    clear hb fz c0 c1 c2 c3 c4 c6 c7 c8 c9 c10 c11 d0 d1 d2 d3 d4 d6 d7 d8 d9 d10 d11;go_wp2_with fail
    exact⟨⟨k+1,Y,qc,KeptAt.Yp HA.o aN HB.o⟩,by simp[intOf];omega⟩
   ·have HB:=Hd hb;have fj:=fz 6;have DE:((s[k].toNat:Int)==112)=false:=by rw[hb];rfl
    have DF:((s[k].toNat:Int)==116)=false:=by rw[hb];rfl
    have DG:((s[k].toNat:Int)==115)=false:=by rw[hb];rfl
    have DH:((s[k].toNat:Int)==104)=true:=by rw[hb];rfl
    have DI:((s[k].toNat:Int)==111)=false:=by rw[hb];rfl
    have DJ:((s[k].toNat:Int)==100)=false:=by rw[hb];rfl
    have DK:((s[k].toNat:Int)==107)=false:=by rw[hb];rfl
    have DL:((s[k].toNat:Int)==105)=false:=by rw[hb];rfl
    have DM:((s[k].toNat:Int)==109)=false:=by rw[hb];rfl
    clear hb fz c0 c1 c2 c3 c4 c5 c7 c8 c9 c10 c11 d0 d1 d2 d3 d4 d5 d7 d8 d9 d10 d11;go_wp2_with fail
    exact⟨⟨k+1,Y,qc,KeptAt.Yr HA.o aN HB.o⟩,by simp[intOf];omega⟩
   ·have HB:=Hd hb;have fj:=fz 7;have DE:((s[k].toNat:Int)==112)=false:=by rw[hb];rfl
    have DF:((s[k].toNat:Int)==116)=false:=by rw[hb];rfl
    have DG:((s[k].toNat:Int)==115)=false:=by rw[hb];rfl
    have DH:((s[k].toNat:Int)==104)=false:=by rw[hb];rfl
    have DI:((s[k].toNat:Int)==111)=true:=by rw[hb];rfl
    have DJ:((s[k].toNat:Int)==100)=false:=by rw[hb];rfl
    have DK:((s[k].toNat:Int)==107)=false:=by rw[hb];rfl
    have DL:((s[k].toNat:Int)==105)=false:=by rw[hb];rfl
    have DM:((s[k].toNat:Int)==109)=false:=by rw[hb];rfl
    clear hb fz c0 c1 c2 c3 c4 c5 c6 c8 c9 c10 c11 d0 d1 d2 d3 d4 d5 d6 d8 d9 d10 d11;go_wp2_with fail
    exact⟨⟨k+1,Y,qc,KeptAt.Ys HA.o aN HB.o⟩,by simp[intOf];omega⟩
   ·have HB:=Hd hb;have fj:=fz 8;have DE:((s[k].toNat:Int)==112)=false:=by rw[hb];rfl
    have DF:((s[k].toNat:Int)==116)=false:=by rw[hb];rfl
    have DG:((s[k].toNat:Int)==115)=false:=by rw[hb];rfl
    have DH:((s[k].toNat:Int)==104)=false:=by rw[hb];rfl
    have DI:((s[k].toNat:Int)==111)=false:=by rw[hb];rfl
    have DJ:((s[k].toNat:Int)==100)=true:=by rw[hb];rfl
    have DK:((s[k].toNat:Int)==107)=false:=by rw[hb];rfl
    have DL:((s[k].toNat:Int)==105)=false:=by rw[hb];rfl
    have DM:((s[k].toNat:Int)==109)=false:=by rw[hb];rfl
    clear hb fz c0 c1 c2 c3 c4 c5 c6 c7 c9 c10 c11 d0 d1 d2 d3 d4 d5 d6 d7 d9 d10 d11;go_wp2_with fail
    exact⟨⟨k+1,Y,qc,KeptAt.Yt HA.o aN HB.o⟩,by simp[intOf];omega⟩
   ·have HB:=Hd hb;have fj:=fz 9;have DE:((s[k].toNat:Int)==112)=false:=by rw[hb];rfl
    have DF:((s[k].toNat:Int)==116)=false:=by rw[hb];rfl
    have DG:((s[k].toNat:Int)==115)=false:=by rw[hb];rfl
    have DH:((s[k].toNat:Int)==104)=false:=by rw[hb];rfl
    have DI:((s[k].toNat:Int)==111)=false:=by rw[hb];rfl
    have DJ:((s[k].toNat:Int)==100)=false:=by rw[hb];rfl
    have DK:((s[k].toNat:Int)==107)=true:=by rw[hb];rfl
    have DL:((s[k].toNat:Int)==105)=false:=by rw[hb];rfl
    have DM:((s[k].toNat:Int)==109)=false:=by rw[hb];rfl
    clear hb fz c0 c1 c2 c3 c4 c5 c6 c7 c8 c10 c11 d0 d1 d2 d3 d4 d5 d6 d7 d8 d10 d11;go_wp2_with fail
    exact⟨⟨k+1,Y,qc,KeptAt.Yu HA.o aN HB.o⟩,by simp[intOf];omega⟩
   ·have HB:=Hd hb;have fj:=fz 10;have DE:((s[k].toNat:Int)==112)=false:=by rw[hb];rfl
    have DF:((s[k].toNat:Int)==116)=false:=by rw[hb];rfl
    have DG:((s[k].toNat:Int)==115)=false:=by rw[hb];rfl
    have DH:((s[k].toNat:Int)==104)=false:=by rw[hb];rfl
    have DI:((s[k].toNat:Int)==111)=false:=by rw[hb];rfl
    have DJ:((s[k].toNat:Int)==100)=false:=by rw[hb];rfl
    have DK:((s[k].toNat:Int)==107)=false:=by rw[hb];rfl
    have DL:((s[k].toNat:Int)==105)=true:=by rw[hb];rfl
    have DM:((s[k].toNat:Int)==109)=false:=by rw[hb];rfl
    clear hb fz c0 c1 c2 c3 c4 c5 c6 c7 c8 c9 c11 d0 d1 d2 d3 d4 d5 d6 d7 d8 d9 d11;go_wp2_with fail
    exact⟨⟨k+1,Y,qc,KeptAt.Yv HA.o aN HB.o⟩,by simp[intOf];omega⟩
   ·have HB:=Hd hb;have fj:=fz 11;have DE:((s[k].toNat:Int)==112)=false:=by rw[hb];rfl
    have DF:((s[k].toNat:Int)==116)=false:=by rw[hb];rfl
    have DG:((s[k].toNat:Int)==115)=false:=by rw[hb];rfl
    have DH:((s[k].toNat:Int)==104)=false:=by rw[hb];rfl
    have DI:((s[k].toNat:Int)==111)=false:=by rw[hb];rfl
    have DJ:((s[k].toNat:Int)==100)=false:=by rw[hb];rfl
    have DK:((s[k].toNat:Int)==107)=false:=by rw[hb];rfl
    have DL:((s[k].toNat:Int)==105)=false:=by rw[hb];rfl
    have DM:((s[k].toNat:Int)==109)=true:=by rw[hb];rfl
    clear hb fz c0 c1 c2 c3 c4 c5 c6 c7 c8 c9 c10 d0 d1 d2 d3 d4 d5 d6 d7 d8 d9 d10;go_wp2_with fail
    exact⟨⟨k+1,Y,qc,KeptAt.Yw HA.o aN HB.o⟩,by simp[intOf];omega⟩
  ·have HE:Hid (cQ (s.data.toList.take k) r=only r):=Hd (by rw[qT (by simp;omega)];exact HK.o);obtain⟨u,ho,hu⟩:=Wm.o;rw[HE.o]at ho;have HR:=Hd Wm.res;have HL:=Hd Wm.low;have hk1: ¬((k:Int)<(s.size:Int)):=Y;obtain⟨d0,d1,d2,d3,d4,d5,d6,d7,d8,d9,d10,d11⟩:=ho.cells;have hv:u=qh (pw r oa) (iS r n) (iS r c):=by rw[hu,qT (by simp;omega)];exact HV.o
   subst hv;clear Wm ho hu c0 c1 c2 c3 c4 c5 c6 c7 c8 c9 c10 c11;go_wp2_with(refine qE rfl 61 (Operand.tmp 2) _ rfl (w.heap.size+1) _ rfl rfl 61 _ HR.o gd rfl (by simp[Value.oneCell']) ?_)
   refine aR (p:=2) rfl rfl rfl (qJ _ _ _ _ _ _ HR.o) underlying61 rfl gd ?_;exact⟨rfl,aj HL.o (show w.heap.size≤w.heap.size+1 by omega) _⟩
def Fit(r:Rec):Prop:=r.p.size≤1000000∧r.t.size≤1000000∧r.d.size≤1000000∧r.m.length≤1000000
theorem vm(p:ByteArray)(b:Bool)(hb:kz p=b)(hs:p.size≤1000000)(w:qo):
 qw qx 81 #[qg p] w fun e J=>e=qm (qk b)∧qz w.heap.size w J:=by
 rw[←hb];exact PathW.cG p Y w
theorem bZ{r:Rec}(h:r.k=1∨r.k=2∨r.k=3∨r.k=5∨r.k=8):ey r=kz r.p:=by
 unfold ey;rcases h with h|h|h|h|h<;>(rw[h];rfl)
theorem fy{r:Rec}(h:r.k=4∨r.k=6):ey r=(kz r.p&&kz r.t):=by
 unfold ey;rcases h with h|h<;>(rw[h];rfl)
theorem nv{r:Rec}(h:r.k=7):ey r=(kz r.p&&decide (0≤r.sz∧r.sz≤8192)):=by unfold ey;rw[h];rfl
theorem jO{r:Rec}(h:r.k=9):ey r=decide (0≤r.h∧r.h≤16383):=by unfold ey;rw[h];rfl
theorem jP{r:Rec}(h:r.k=10):ey r=decide (0≤r.h∧r.h≤16383∧0≤r.o∧r.o≤8192∧1≤r.d.size∧r.d.size≤1024):=by unfold ey;rw[h];rfl
theorem fA{r:Rec}(h:r.k=11∨r.k=12):ey r=decide (0≤r.tk∧r.tk≤1099511627776):=by
 unfold ey;rcases h with h|h<;>(rw[h];rfl)
theorem lv{r:Rec}(h:r.k=13):ey r=(decide (1≤r.i∧r.i≤2147483647∧1≤r.m.length∧r.m.length≤16∧r.d.size≤1024)&&r.m.all (FX r.d.size)):=by unfold ey;rw[h];rfl
theorem jQ{r:Rec}(h:r.k=14):ey r=decide (1≤r.d.size∧r.d.size≤1024∧1≤r.sz∧r.sz≤65536∧0≤r.o∧r.o+r.d.size≤r.sz):=by unfold ey;rw[h];rfl
def eL(r:Rec)(w:qo)(e:Ending)(J:qo):Prop:=e=qm (qk (ey r))∧qz w.heap.size w J
theorem rH(r:Rec)(hr:Fit r)(v:qp)(w:qo):
 qw qx 297 #[ql #[U Z r.cl,U Z r.sq,U Z r.k,qg r.p,qg r.t,U Z r.sz,U Z r.h,U Z r.o,qg r.d,U Z r.tk,U Z r.i,v]] w fun e J=>e=qm (qk (kz r.p))∧qz w.heap.size w J:=by
 have h1:=hr.1;have h0:=aa w (qn #[U Z r.cl,U Z r.sq,U Z r.k,qg r.p,qg r.t,U Z r.sz,U Z r.h,U Z r.o,qg r.d,U Z r.tk,U Z r.i,v] 61);have H0:=Hd h0;clear h0;go_enter func297,ntmps297;go_wp2_with(go_at_call 81;refine(vm _ _ rfl h1 _).mono ?_;rintro e w1 ⟨rfl,hb1⟩;have cq:=Hd hb1;clear hb1)
 go_ret;exact⟨rfl,ai H0.o cq.o⟩
theorem DN(r:Rec)(h:r.k=1∨r.k=2∨r.k=3∨r.k=5∨r.k=8)(hr:Fit r)(v:qp)(w:qo):qw qx 297 #[ql #[U Z r.cl,U Z r.sq,U Z r.k,qg r.p,qg r.t,U Z r.sz,U Z r.h,U Z r.o,qg r.d,U Z r.tk,U Z r.i,v]] w (eL r w):=by
 unfold eL;rw[bZ h];exact rH r hr v w
theorem OF(r:Rec)(h:r.k=4∨r.k=6)(hr:Fit r)(v:qp)(w:qo):qw qx 298 #[ql #[U Z r.cl,U Z r.sq,U Z r.k,qg r.p,qg r.t,U Z r.sz,U Z r.h,U Z r.o,qg r.d,U Z r.tk,U Z r.i,v]] w (eL r w):=by
 have h1:=hr.1;have h2:=hr.2.1;have HF:=Hd (fy h);have H0:=Hd (aa w (qn #[U Z r.cl,U Z r.sq,U Z r.k,qg r.p,qg r.t,U Z r.sz,U Z r.h,U Z r.o,qg r.d,U Z r.tk,U Z r.i,v] 61));clear h
 cases ha:kz r.p with
 |false=>
  have HA:=Hd ha;clear ha;go_enter func298,ntmps298;go_wp2_with(go_at_call 81;refine(vm _ false HA.o h1 _).mono ?_;rintro e w1 ⟨rfl,hb1⟩;have cq:=Hd hb1;clear hb1)
  go_ret
  exact⟨aH (by rw[HF.o,HA.o];rfl),ai H0.o cq.o⟩
 |true=>
  have HA:=Hd ha;clear ha;go_enter func298,ntmps298
  go_wp2_with(first
   |(have hz:=cq.o;clear hz;go_at_call 81;refine(vm _ _ rfl h2 _).mono ?_;rintro e w2 ⟨rfl,hb2⟩;have az:=Hd hb2;clear hb2)
   |(go_at_call 81;refine(vm _ true HA.o h1 _).mono ?_;rintro e w1 ⟨rfl,hb1⟩;have cq:=Hd hb1;have rB:nu w1 w.heap.size r v:=(hb1.block _ qc).trans (qA w _);obtain⟨b0,b1,b2,b3,b4,b5,b6,b7,b8,b9,Wn,b11⟩:=rB.cells;clear hb1 rB b0 b1 b2 b3 b5 b6 b7 b8 b9 Wn b11))
  go_ret;exact⟨aH (by rw[HF.o,HA.o];rfl),ai (ai H0.o cq.o) az.o⟩
theorem OG(r:Rec)(h:r.k=11∨r.k=12)(v:qp)(w:qo):qw qx 299 #[ql #[U Z r.cl,U Z r.sq,U Z r.k,qg r.p,qg r.t,U Z r.sz,U Z r.h,U Z r.o,qg r.d,U Z r.tk,U Z r.i,v]] w (eL r w):=by
 have HF:=Hd (fA h);have H0:=Hd (aa w (qn #[U Z r.cl,U Z r.sq,U Z r.k,qg r.p,qg r.t,U Z r.sz,U Z r.h,U Z r.o,qg r.d,U Z r.tk,U Z r.i,v] 61));clear h;go_enter func299,ntmps299;go_wp2_with fail
 all_goals go_ret
 all_goals refine⟨aH ?_,H0.o⟩
 all_goals rw[HF.o,Bool.eq_iff_iff]
 all_goals simp
 all_goals omega
theorem ack(r:Rec)(h:r.k=7)(hr:Fit r)(v:qp)(b:Nat)(w:qo)(hc:w.cell? ⟨b,0,none⟩=some (.func (.func 297) #[] #[])):
 qw qx 300 #[ql #[U Z r.cl,U Z r.sq,U Z r.k,qg r.p,qg r.t,U Z r.sz,U Z r.h,U Z r.o,qg r.d,U Z r.tk,U Z r.i,v],qi (some ⟨b,0,none⟩)] w (eL r w):=by
 have HF:=Hd (nv h);have H0:=Hd (aa w (qn #[U Z r.cl,U Z r.sq,U Z r.k,qg r.p,qg r.t,U Z r.sz,U Z r.h,U Z r.o,qg r.d,U Z r.tk,U Z r.i,v] 61));have HR:=Hd hr;have aN:=xv _ _ hc;clear h hr
 cases ha:kz r.p with
 |false=>
  have HA:=Hd ha;clear ha;go_enter func300,ntmps300;go_wp2_with(go_at_call 297;refine(rH r HR.o v _).mono ?_;rintro e w1 ⟨he,hb1⟩;rw[HA.o]at he;subst he;have cq:=Hd hb1;clear hb1)
  go_ret
  exact⟨aH (by rw[HF.o,HA.o];rfl),ai H0.o cq.o⟩
 |true=>
  have HA:=Hd ha;clear ha;go_enter func300,ntmps300
  go_wp2_with(first
   |(go_at_call 237;refine(fo _ _ _ _).mono ?_;rintro e w2 ⟨rfl,rfl⟩)
   |(go_at_call 297;refine(rH r HR.o v _).mono ?_;rintro e w1 ⟨he,hb1⟩;rw[HA.o]at he;subst he;have cq:=Hd hb1;have rB:nu w1 w.heap.size r v:=(hb1.block _ qc).trans (qA w _);obtain⟨b0,b1,b2,b3,b4,b5,b6,b7,b8,b9,Wn,b11⟩:=rB.cells;clear hb1 rB b0 b1 b2 b3 b4 b6 b7 b8 b9 Wn b11))
  go_ret;exact⟨aH (by rw[HF.o,HA.o];simp),ai H0.o cq.o⟩
theorem Tp(r:Rec)(h:r.k=9)(v:qp)(w:qo):qw qx 301 #[ql #[U Z r.cl,U Z r.sq,U Z r.k,qg r.p,qg r.t,U Z r.sz,U Z r.h,U Z r.o,qg r.d,U Z r.tk,U Z r.i,v]] w (eL r w):=by
 have HF:=Hd (jO h);have H0:=Hd (aa w (qn #[U Z r.cl,U Z r.sq,U Z r.k,qg r.p,qg r.t,U Z r.sz,U Z r.h,U Z r.o,qg r.d,U Z r.tk,U Z r.i,v] 61));clear h;go_enter func301,ntmps301;go_wp2_with(go_at_call 237;refine(fo _ _ _ _).mono ?_;rintro e w2 ⟨rfl,rfl⟩)
 go_ret;exact⟨aH (by rw[HF.o];simp),H0.o⟩
theorem Tq(r:Rec)(h:r.k=10)(hr:Fit r)(v:qp)(w:qo):qw qx 302 #[ql #[U Z r.cl,U Z r.sq,U Z r.k,qg r.p,qg r.t,U Z r.sz,U Z r.h,U Z r.o,qg r.d,U Z r.tk,U Z r.i,v]] w (eL r w):=by
 have HF:=Hd (jP h);have H0:=Hd (aa w (qn #[U Z r.cl,U Z r.sq,U Z r.k,qg r.p,qg r.t,U Z r.sz,U Z r.h,U Z r.o,qg r.d,U Z r.tk,U Z r.i,v] 61));have h3:=hr.2.2.1;clear h;go_enter func302,ntmps302;go_wp2_with(go_at_call 237;refine(fo _ _ _ _).mono ?_;rintro e w2 ⟨rfl,rfl⟩)
 all_goals go_ret
 all_goals refine⟨aH ?_,H0.o⟩
 all_goals rw[HF.o,Bool.eq_iff_iff]
 all_goals simp
 all_goals omega
theorem Tr(r:Rec)(h:r.k=14)(hr:Fit r)(v:qp)(w:qo):qw qx 306 #[ql #[U Z r.cl,U Z r.sq,U Z r.k,qg r.p,qg r.t,U Z r.sz,U Z r.h,U Z r.o,qg r.d,U Z r.tk,U Z r.i,v]] w (eL r w):=by
 have HF:=Hd (jQ h);have H0:=Hd (aa w (qn #[U Z r.cl,U Z r.sq,U Z r.k,qg r.p,qg r.t,U Z r.sz,U Z r.h,U Z r.o,qg r.d,U Z r.tk,U Z r.i,v] 61));have h3:=hr.2.2.1;clear h;go_enter func306,ntmps306;go_wp2_with(go_at_call 237;refine(fo _ _ _ _).mono ?_;rintro e w2 ⟨rfl,rfl⟩)
 all_goals go_ret
 all_goals refine⟨aH ?_,H0.o⟩
 all_goals rw[HF.o,Bool.eq_iff_iff]
 all_goals simp
 all_goals omega
open PackW
def fX:List UInt8→List PackW.Fd→List UInt8
 |l,[]=>l
 |l,x::r=>fX (if x.size=0 then pa l x.s.data.toList else rM l x.v x.size) r
def jl:Bool→List PackW.Fd→Bool
 |b,[]=>b
 |b,x::r=>jl (if x.size=0 then vU b x.s.data.toList else zq b x.v x.size) r
theorem sk(xs ys:List PackW.Fd): ∀l,fX l (xs++ys)=fX (fX l xs) ys:=by
 induction xs with
 |nil=>intro l;rfl
 |cons x xs ih=>intro l;rw[xd,fX,ih,fX]
theorem BJ(xs ys:List PackW.Fd): ∀b,jl b (xs++ys)=jl (jl b xs) ys:=by
 induction xs with
 |nil=>intro l;rfl
 |cons x xs ih=>intro l;rw[xd,jl,ih,jl]
def dB(v n:Int):PackW.Fd:=⟨n,v,⟨#[]⟩⟩
def lY(s:ByteArray):PackW.Fd:=⟨0,0,s⟩
theorem kB(l:List UInt8)(v n:Int)(hn:n≠0):fX l [dB v n]=rM l v n:=by rw[fX,fX,dB];exact qB hn
theorem xX(l:List UInt8)(s:ByteArray):fX l [lY s]=pa l s.data.toList:=by rw[fX,fX,lY];exact qH rfl
theorem lZ(b:Bool)(v n:Int)(hn:n≠0):jl b [dB v n]=zq b v n:=by rw[jl,jl,dB];exact qB hn
theorem xY(b:Bool)(s:ByteArray):jl b [lY s]=vU b s.data.toList:=by rw[jl,jl,lY];exact qH rfl
def jR(xs:List PackW.Fd):Nat:=(xs.map fun x=>x.s.size+8).sum
theorem aX(xs ys:List PackW.Fd):jR (xs++ys)=jR xs+jR ys:=by simp[jR]
theorem xZ(l:List UInt8)(v n:Int):(rM l v n).length≤l.length+8:=by
 unfold rM;split
 ·rename_i h;have:n.toNat≤8:=by have:=h.1;unfold dC at this;omega
  simp only[qY,ShiftP.cO];omega
 ·omega
theorem KN(l:List UInt8)(s:ByteArray):(pa l s.data.toList).length≤l.length+(s.size+8):=by
 have dY:s.data.toList.length=s.size:=qc;unfold pa;split
 ·simp only[qY,ShiftP.cO,dY];omega
 ·simp only[qY,dY];omega
theorem BK(xs:List PackW.Fd): ∀l:List UInt8,(fX l xs).length≤l.length+jR xs:=by
 induction xs with
 |nil=>intro l;simp[fX,jR]
 |cons x xs ih=>
  intro l;rw[fX];have h1:=ih (if x.size=0 then pa l x.s.data.toList else rM l x.v x.size);have h2:jR (x::xs)=x.s.size+8+jR xs:=by simp[jR]
  rw[h2];split at h1
  ·rename_i hz;rw[qH hz];have:=KN l x.s;omega
  ·rename_i hz;rw[qB hz];have:=xZ l x.v x.size;omega
def jm(x:Mv):List PackW.Fd:=[dB x.a 2,dB x.f 2,dB x.n 2,dB x.t 2]
def cJ(c:UInt8)(r:Rec):List PackW.Fd:=
 if c=112 then [lY r.p]else if c=116 then [lY r.t]else if c=115 then [dB r.sz 4]else if c=104 then [dB r.h 4]else if c=111 then [dB r.o 4]
 else if c=100 then [lY r.d]else if c=107 then [dB r.tk 8]else if c=105 then [dB r.i 4]else if c=109 then dB r.m.length 1::r.m.flatMap jm else []
def cR(r:Rec):List PackW.Fd:=[dB r.k 1,dB r.cl 1,dB r.sq 4]
def fds(r:Rec):List PackW.Fd:=cR r++(fieldsOf r.k).data.toList.flatMap fun c=>cJ c r
structure Wf(r:Rec):Prop where
 k:r.k<9223372036854775808
 cl:r.cl<9223372036854775808
 sq:r.sq<9223372036854775808
 sz:r.sz<9223372036854775808
 h:r.h<9223372036854775808
 o:r.o<9223372036854775808
 tk:r.tk<9223372036854775808
 i:r.i<9223372036854775808
 m: ∀x∈r.m,x.a<9223372036854775808∧x.f<9223372036854775808∧x.n<9223372036854775808∧x.t<9223372036854775808
theorem fp{r:Rec}(h:ck r=true):se r=true∧ey r=true∧r=only r:=by
 unfold ck at h;simp only[qF]at h;exact⟨h.1.1,h.1.2,(jy _ _).1 h.2⟩
theorem BL{r:Rec}(h:ck r=true):Wf r:=by
 obtain⟨h1,h2,h3⟩:=fp h;have hk:=fk h2;have hh:0≤r.cl∧r.cl≤7∧1≤r.sq∧r.sq≤2147483647:=by simpa [se]using h1
 have zsz:=qX Rec.sz h3;have zh:=qX Rec.h h3;have zo:=qX Rec.o h3;have ztk:=qX Rec.tk h3;have zi:=qX Rec.i h3;have zm:=qX Rec.m h3;clear h1 h3 h;rcases kinds r.k hk with e|e|e|e|e|e|e|e|e|e|e|e|e|e
 ·rw[bZ (r:=r) (by simp[e])]at h2;rw[xO r e]at zsz zh zo ztk zi zm;(try simp only[qF,qC]at h2)
  dsimp only at zsz zh zo ztk zi zm;exact⟨Y,Y,Y,Y,Y,Y,Y,Y,fun x hx=>by rw[zm]at hx;simp at hx⟩
 ·rw[bZ (r:=r) (by simp[e])]at h2;rw[xP r e]at zsz zh zo ztk zi zm;(try simp only[qF,qC]at h2)
  dsimp only at zsz zh zo ztk zi zm;exact⟨Y,Y,Y,Y,Y,Y,Y,Y,fun x hx=>by rw[zm]at hx;simp at hx⟩
 ·rw[bZ (r:=r) (by simp[e])]at h2;rw[xQ r e]at zsz zh zo ztk zi zm;(try simp only[qF,qC]at h2)
  dsimp only at zsz zh zo ztk zi zm;exact⟨Y,Y,Y,Y,Y,Y,Y,Y,fun x hx=>by rw[zm]at hx;simp at hx⟩
 ·rw[fy (r:=r) (by simp[e])]at h2;rw[xR r e]at zsz zh zo ztk zi zm;(try simp only[qF,qC]at h2)
  dsimp only at zsz zh zo ztk zi zm;exact⟨Y,Y,Y,Y,Y,Y,Y,Y,fun x hx=>by rw[zm]at hx;simp at hx⟩
 ·rw[bZ (r:=r) (by simp[e])]at h2;rw[xS r e]at zsz zh zo ztk zi zm;(try simp only[qF,qC]at h2)
  dsimp only at zsz zh zo ztk zi zm;exact⟨Y,Y,Y,Y,Y,Y,Y,Y,fun x hx=>by rw[zm]at hx;simp at hx⟩
 ·rw[fy (r:=r) (by simp[e])]at h2;rw[xT r e]at zsz zh zo ztk zi zm;(try simp only[qF,qC]at h2)
  dsimp only at zsz zh zo ztk zi zm;exact⟨Y,Y,Y,Y,Y,Y,Y,Y,fun x hx=>by rw[zm]at hx;simp at hx⟩
 ·rw[nv e]at h2;rw[xU r e]at zsz zh zo ztk zi zm;(try simp only[qF,qC]at h2)
  dsimp only at zsz zh zo ztk zi zm;exact⟨Y,Y,Y,Y,Y,Y,Y,Y,fun x hx=>by rw[zm]at hx;simp at hx⟩
 ·rw[bZ (r:=r) (by simp[e])]at h2;rw[xV r e]at zsz zh zo ztk zi zm;(try simp only[qF,qC]at h2)
  dsimp only at zsz zh zo ztk zi zm;exact⟨Y,Y,Y,Y,Y,Y,Y,Y,fun x hx=>by rw[zm]at hx;simp at hx⟩
 ·rw[jO e]at h2;rw[xW r e]at zsz zh zo ztk zi zm;(try simp only[qF,qC]at h2)
  dsimp only at zsz zh zo ztk zi zm;exact⟨Y,Y,Y,Y,Y,Y,Y,Y,fun x hx=>by rw[zm]at hx;simp at hx⟩
 ·rw[jP e]at h2;rw[tH r e]at zsz zh zo ztk zi zm;(try simp only[qF,qC]at h2)
  dsimp only at zsz zh zo ztk zi zm;exact⟨Y,Y,Y,Y,Y,Y,Y,Y,fun x hx=>by rw[zm]at hx;simp at hx⟩
 ·rw[fA (r:=r) (by simp[e])]at h2;rw[tI r e]at zsz zh zo ztk zi zm;(try simp only[qF,qC]at h2)
  dsimp only at zsz zh zo ztk zi zm;exact⟨Y,Y,Y,Y,Y,Y,Y,Y,fun x hx=>by rw[zm]at hx;simp at hx⟩
 ·rw[fA (r:=r) (by simp[e])]at h2;rw[tJ r e]at zsz zh zo ztk zi zm;(try simp only[qF,qC]at h2)
  dsimp only at zsz zh zo ztk zi zm;exact⟨Y,Y,Y,Y,Y,Y,Y,Y,fun x hx=>by rw[zm]at hx;simp at hx⟩
 ·rw[lv e]at h2;rw[tK r e]at zsz zh zo ztk zi zm;(try simp only[qF,qC]at h2)
  dsimp only at zsz zh zo ztk zi zm;refine⟨Y,Y,Y,Y,Y,Y,Y,Y,fun x hx=>?_⟩;have hb:=List.all_eq_true.1 h2.2 x hx;have hm:0≤x.a∧x.a≤16383∧0≤x.f∧x.f≤1024∧1≤x.n∧x.n≤1024∧0≤x.t∧x.t≤(r.d.size:Int)-x.n:=by simpa [FX]using hb
  omega
 ·rw[jQ e]at h2;rw[tM r e]at zsz zh zo ztk zi zm;(try simp only[qF,qC]at h2)
  dsimp only at zsz zh zo ztk zi zm;exact⟨Y,Y,Y,Y,Y,Y,Y,Y,fun x hx=>by rw[zm]at hx;simp at hx⟩
def iF(B b:Nat)(l:List UInt8)(sp:Bool)(w:qo)(e:Ending)(J:qo):Prop:=e=qm (.tuple #[])∧cH B b l sp J∧Fr B b w J
theorem ez(r:Rec):cJ 112 r=[lY r.p]:=by unfold cJ;rw[qH rfl]
theorem jS(r:Rec):cJ 116 r=[lY r.t]:=by unfold cJ;rw[qB qa,qH rfl]
theorem jT(r:Rec):cJ 115 r=[dB r.sz 4]:=by unfold cJ;rw[qB qa,qB qa,qH rfl]
theorem jU(r:Rec):cJ 104 r=[dB r.h 4]:=by unfold cJ;rw[qB qa,qB qa,qB qa,qH rfl]
theorem jV(r:Rec):cJ 111 r=[dB r.o 4]:=by unfold cJ;rw[qB qa,qB qa,qB qa,qB qa,qH rfl]
theorem iU(r:Rec):cJ 100 r=[lY r.d]:=by unfold cJ;rw[qB qa,qB qa,qB qa,qB qa,qB qa,qH rfl]
theorem jW(r:Rec):cJ 107 r=[dB r.tk 8]:=by unfold cJ;rw[qB qa,qB qa,qB qa,qB qa,qB qa,qB qa,qH rfl]
theorem lx(r:Rec):cJ 105 r=[dB r.i 4]:=by unfold cJ;rw[qB qa,qB qa,qB qa,qB qa,qB qa,qB qa,qB qa,qH rfl]
theorem nw(r:Rec):cJ 109 r=dB r.m.length 1::r.m.flatMap jm:=by unfold cJ;rw[qB qa,qB qa,qB qa,qB qa,qB qa,qB qa,qB qa,qB qa,qH rfl]
theorem Ts(B b:Nat)(l:List UInt8)(sp:Bool)(r:Rec)(hr:Fit r)(hw:Wf r)(oa:Option qt)(n c:Nat)(w:qo)(hp:cH B b l sp w)(hl:l.length≤100000000)(hBw:B≤w.heap.size):
 qw qx 356 #[qi (some ⟨b,0,none⟩),.int .u8 112,ql #[U Z r.cl,U Z r.sq,U Z r.k,qg r.p,qg r.t,U Z r.sz,U Z r.h,U Z r.o,qg r.d,U Z r.tk,U Z r.i,qh oa n c]] w (iF B b (fX l (cJ 112 r)) (jl sp (cJ 112 r)) w):=by
 rw[ez,xX,xY];have HR:=Hd hr;have HW:=Hd hw;have HP:=Hd (hp.ag (aa w (qn #[U Z r.cl,U Z r.sq,U Z r.k,qg r.p,qg r.t,U Z r.sz,U Z r.h,U Z r.o,qg r.d,U Z r.tk,U Z r.i,qh oa n c] 61)));have HF:=Hd ((Fr.refl B b w).alloc hBw (qn #[U Z r.cl,U Z r.sq,U Z r.k,qg r.p,qg r.t,U Z r.sz,U Z r.h,U Z r.o,qg r.d,U Z r.tk,U Z r.i,qh oa n c] 61));have hB2:B≤(w.alloc (qn #[U Z r.cl,U Z r.sq,U Z r.k,qg r.p,qg r.t,U Z r.sz,U Z r.h,U Z r.o,qg r.d,U Z r.tk,U Z r.i,qh oa n c] 61)).heap.size:=by rw[bn];omega
 have az:=Hd hB2;clear hp hr hw hB2;go_enter func356,ntmps356;go_wp2_with(go_at_call 277;refine(kY B b l sp r.p _ HP.o (by have:=HR.o.1;omega) az.o).mono ?_;rintro e w2 ⟨rfl,hp2,hf2⟩;have iC:=Hd hp2;have nz:=Hd (HF.o.trans hf2);clear hp2 hf2)
 go_end0
 exact⟨rfl,iC.o,nz.o⟩
theorem Tt(B b:Nat)(l:List UInt8)(sp:Bool)(r:Rec)(hr:Fit r)(hw:Wf r)(oa:Option qt)(n c:Nat)(w:qo)(hp:cH B b l sp w)(hl:l.length≤100000000)(hBw:B≤w.heap.size):
 qw qx 356 #[qi (some ⟨b,0,none⟩),.int .u8 116,ql #[U Z r.cl,U Z r.sq,U Z r.k,qg r.p,qg r.t,U Z r.sz,U Z r.h,U Z r.o,qg r.d,U Z r.tk,U Z r.i,qh oa n c]] w (iF B b (fX l (cJ 116 r)) (jl sp (cJ 116 r)) w):=by
 rw[jS,xX,xY];have HR:=Hd hr;have HW:=Hd hw;have HP:=Hd (hp.ag (aa w (qn #[U Z r.cl,U Z r.sq,U Z r.k,qg r.p,qg r.t,U Z r.sz,U Z r.h,U Z r.o,qg r.d,U Z r.tk,U Z r.i,qh oa n c] 61)));have HF:=Hd ((Fr.refl B b w).alloc hBw (qn #[U Z r.cl,U Z r.sq,U Z r.k,qg r.p,qg r.t,U Z r.sz,U Z r.h,U Z r.o,qg r.d,U Z r.tk,U Z r.i,qh oa n c] 61));have hB2:B≤(w.alloc (qn #[U Z r.cl,U Z r.sq,U Z r.k,qg r.p,qg r.t,U Z r.sz,U Z r.h,U Z r.o,qg r.d,U Z r.tk,U Z r.i,qh oa n c] 61)).heap.size:=by rw[bn];omega
 have az:=Hd hB2;clear hp hr hw hB2;go_enter func356,ntmps356;go_wp2_with(go_at_call 277;refine(kY B b l sp r.t _ HP.o (by have:=HR.o.2.1;omega) az.o).mono ?_;rintro e w2 ⟨rfl,hp2,hf2⟩;have iC:=Hd hp2;have nz:=Hd (HF.o.trans hf2);clear hp2 hf2)
 go_end0
 exact⟨rfl,iC.o,nz.o⟩
theorem Tu(B b:Nat)(l:List UInt8)(sp:Bool)(r:Rec)(hr:Fit r)(hw:Wf r)(oa:Option qt)(n c:Nat)(w:qo)(hp:cH B b l sp w)(hl:l.length≤100000000)(hBw:B≤w.heap.size):
 qw qx 356 #[qi (some ⟨b,0,none⟩),.int .u8 100,ql #[U Z r.cl,U Z r.sq,U Z r.k,qg r.p,qg r.t,U Z r.sz,U Z r.h,U Z r.o,qg r.d,U Z r.tk,U Z r.i,qh oa n c]] w (iF B b (fX l (cJ 100 r)) (jl sp (cJ 100 r)) w):=by
 rw[iU,xX,xY];have HR:=Hd hr;have HW:=Hd hw;have HP:=Hd (hp.ag (aa w (qn #[U Z r.cl,U Z r.sq,U Z r.k,qg r.p,qg r.t,U Z r.sz,U Z r.h,U Z r.o,qg r.d,U Z r.tk,U Z r.i,qh oa n c] 61)));have HF:=Hd ((Fr.refl B b w).alloc hBw (qn #[U Z r.cl,U Z r.sq,U Z r.k,qg r.p,qg r.t,U Z r.sz,U Z r.h,U Z r.o,qg r.d,U Z r.tk,U Z r.i,qh oa n c] 61));have hB2:B≤(w.alloc (qn #[U Z r.cl,U Z r.sq,U Z r.k,qg r.p,qg r.t,U Z r.sz,U Z r.h,U Z r.o,qg r.d,U Z r.tk,U Z r.i,qh oa n c] 61)).heap.size:=by rw[bn];omega
 have az:=Hd hB2;clear hp hr hw hB2;go_enter func356,ntmps356;go_wp2_with(go_at_call 277;refine(kY B b l sp r.d _ HP.o (by have:=HR.o.2.2.1;omega) az.o).mono ?_;rintro e w2 ⟨rfl,hp2,hf2⟩;have iC:=Hd hp2;have nz:=Hd (HF.o.trans hf2);clear hp2 hf2)
 go_end0
 exact⟨rfl,iC.o,nz.o⟩
theorem Tv(B b:Nat)(l:List UInt8)(sp:Bool)(r:Rec)(hr:Fit r)(hw:Wf r)(oa:Option qt)(n c:Nat)(w:qo)(hp:cH B b l sp w)(hl:l.length≤100000000)(hBw:B≤w.heap.size):
 qw qx 356 #[qi (some ⟨b,0,none⟩),.int .u8 107,ql #[U Z r.cl,U Z r.sq,U Z r.k,qg r.p,qg r.t,U Z r.sz,U Z r.h,U Z r.o,qg r.d,U Z r.tk,U Z r.i,qh oa n c]] w (iF B b (fX l (cJ 107 r)) (jl sp (cJ 107 r)) w):=by
 rw[jW,kB _ _ _ qa,lZ _ _ _ qa];have HR:=Hd hr;have HW:=Hd hw;have HP:=Hd (hp.ag (aa w (qn #[U Z r.cl,U Z r.sq,U Z r.k,qg r.p,qg r.t,U Z r.sz,U Z r.h,U Z r.o,qg r.d,U Z r.tk,U Z r.i,qh oa n c] 61)));have HF:=Hd ((Fr.refl B b w).alloc hBw (qn #[U Z r.cl,U Z r.sq,U Z r.k,qg r.p,qg r.t,U Z r.sz,U Z r.h,U Z r.o,qg r.d,U Z r.tk,U Z r.i,qh oa n c] 61));have hB2:B≤(w.alloc (qn #[U Z r.cl,U Z r.sq,U Z r.k,qg r.p,qg r.t,U Z r.sz,U Z r.h,U Z r.o,qg r.d,U Z r.tk,U Z r.i,qh oa n c] 61)).heap.size:=by rw[bn];omega
 have az:=Hd hB2;clear hp hr hw hB2;go_enter func356,ntmps356;go_wp2_with(go_at_call 342;refine(gK B b l sp r.tk 8 HW.o.tk _ HP.o Y az.o).mono ?_;rintro e w2 ⟨rfl,hp2,hf2⟩;have iC:=Hd hp2;have nz:=Hd (HF.o.trans hf2);clear hp2 hf2)
 go_end0
 exact⟨rfl,iC.o,nz.o⟩
theorem Tw(B b:Nat)(l:List UInt8)(sp:Bool)(r:Rec)(hr:Fit r)(hw:Wf r)(oa:Option qt)(n c:Nat)(w:qo)(hp:cH B b l sp w)(hl:l.length≤100000000)(hBw:B≤w.heap.size):
 qw qx 356 #[qi (some ⟨b,0,none⟩),.int .u8 115,ql #[U Z r.cl,U Z r.sq,U Z r.k,qg r.p,qg r.t,U Z r.sz,U Z r.h,U Z r.o,qg r.d,U Z r.tk,U Z r.i,qh oa n c]] w (iF B b (fX l (cJ 115 r)) (jl sp (cJ 115 r)) w):=by
 rw[jT,kB _ _ _ qa,lZ _ _ _ qa];have HR:=Hd hr;have HW:=Hd hw;have HP:=Hd (hp.ag (aa w (qn #[U Z r.cl,U Z r.sq,U Z r.k,qg r.p,qg r.t,U Z r.sz,U Z r.h,U Z r.o,qg r.d,U Z r.tk,U Z r.i,qh oa n c] 61)));have HF:=Hd ((Fr.refl B b w).alloc hBw (qn #[U Z r.cl,U Z r.sq,U Z r.k,qg r.p,qg r.t,U Z r.sz,U Z r.h,U Z r.o,qg r.d,U Z r.tk,U Z r.i,qh oa n c] 61));have hB2:B≤(w.alloc (qn #[U Z r.cl,U Z r.sq,U Z r.k,qg r.p,qg r.t,U Z r.sz,U Z r.h,U Z r.o,qg r.d,U Z r.tk,U Z r.i,qh oa n c] 61)).heap.size:=by rw[bn];omega
 have az:=Hd hB2;clear hp hr hw hB2;go_enter func356,ntmps356;go_wp2_with(go_at_call 342;refine(gK B b l sp r.sz 4 HW.o.sz _ HP.o Y az.o).mono ?_;rintro e w2 ⟨rfl,hp2,hf2⟩;have iC:=Hd hp2;have nz:=Hd (HF.o.trans hf2);clear hp2 hf2)
 go_end0
 exact⟨rfl,iC.o,nz.o⟩
theorem Tx(B b:Nat)(l:List UInt8)(sp:Bool)(r:Rec)(hr:Fit r)(hw:Wf r)(oa:Option qt)(n c:Nat)(w:qo)(hp:cH B b l sp w)(hl:l.length≤100000000)(hBw:B≤w.heap.size):
 qw qx 356 #[qi (some ⟨b,0,none⟩),.int .u8 104,ql #[U Z r.cl,U Z r.sq,U Z r.k,qg r.p,qg r.t,U Z r.sz,U Z r.h,U Z r.o,qg r.d,U Z r.tk,U Z r.i,qh oa n c]] w (iF B b (fX l (cJ 104 r)) (jl sp (cJ 104 r)) w):=by
 rw[jU,kB _ _ _ qa,lZ _ _ _ qa];have HR:=Hd hr;have HW:=Hd hw;have HP:=Hd (hp.ag (aa w (qn #[U Z r.cl,U Z r.sq,U Z r.k,qg r.p,qg r.t,U Z r.sz,U Z r.h,U Z r.o,qg r.d,U Z r.tk,U Z r.i,qh oa n c] 61)));have HF:=Hd ((Fr.refl B b w).alloc hBw (qn #[U Z r.cl,U Z r.sq,U Z r.k,qg r.p,qg r.t,U Z r.sz,U Z r.h,U Z r.o,qg r.d,U Z r.tk,U Z r.i,qh oa n c] 61));have hB2:B≤(w.alloc (qn #[U Z r.cl,U Z r.sq,U Z r.k,qg r.p,qg r.t,U Z r.sz,U Z r.h,U Z r.o,qg r.d,U Z r.tk,U Z r.i,qh oa n c] 61)).heap.size:=by rw[bn];omega
 have az:=Hd hB2;clear hp hr hw hB2;go_enter func356,ntmps356;go_wp2_with(go_at_call 342;refine(gK B b l sp r.h 4 HW.o.h _ HP.o Y az.o).mono ?_;rintro e w2 ⟨rfl,hp2,hf2⟩;have iC:=Hd hp2;have nz:=Hd (HF.o.trans hf2);clear hp2 hf2)
 go_end0
 exact⟨rfl,iC.o,nz.o⟩
theorem Ty(B b:Nat)(l:List UInt8)(sp:Bool)(r:Rec)(hr:Fit r)(hw:Wf r)(oa:Option qt)(n c:Nat)(w:qo)(hp:cH B b l sp w)(hl:l.length≤100000000)(hBw:B≤w.heap.size):
 qw qx 356 #[qi (some ⟨b,0,none⟩),.int .u8 111,ql #[U Z r.cl,U Z r.sq,U Z r.k,qg r.p,qg r.t,U Z r.sz,U Z r.h,U Z r.o,qg r.d,U Z r.tk,U Z r.i,qh oa n c]] w (iF B b (fX l (cJ 111 r)) (jl sp (cJ 111 r)) w):=by
 rw[jV,kB _ _ _ qa,lZ _ _ _ qa];have HR:=Hd hr;have HW:=Hd hw;have HP:=Hd (hp.ag (aa w (qn #[U Z r.cl,U Z r.sq,U Z r.k,qg r.p,qg r.t,U Z r.sz,U Z r.h,U Z r.o,qg r.d,U Z r.tk,U Z r.i,qh oa n c] 61)));have HF:=Hd ((Fr.refl B b w).alloc hBw (qn #[U Z r.cl,U Z r.sq,U Z r.k,qg r.p,qg r.t,U Z r.sz,U Z r.h,U Z r.o,qg r.d,U Z r.tk,U Z r.i,qh oa n c] 61));have hB2:B≤(w.alloc (qn #[U Z r.cl,U Z r.sq,U Z r.k,qg r.p,qg r.t,U Z r.sz,U Z r.h,U Z r.o,qg r.d,U Z r.tk,U Z r.i,qh oa n c] 61)).heap.size:=by rw[bn];omega
 have az:=Hd hB2;clear hp hr hw hB2;go_enter func356,ntmps356;go_wp2_with(go_at_call 342;refine(gK B b l sp r.o 4 HW.o.o _ HP.o Y az.o).mono ?_;rintro e w2 ⟨rfl,hp2,hf2⟩;have iC:=Hd hp2;have nz:=Hd (HF.o.trans hf2);clear hp2 hf2)
 go_end0
 exact⟨rfl,iC.o,nz.o⟩
theorem Tz(B b:Nat)(l:List UInt8)(sp:Bool)(r:Rec)(hr:Fit r)(hw:Wf r)(oa:Option qt)(n c:Nat)(w:qo)(hp:cH B b l sp w)(hl:l.length≤100000000)(hBw:B≤w.heap.size):
 qw qx 356 #[qi (some ⟨b,0,none⟩),.int .u8 105,ql #[U Z r.cl,U Z r.sq,U Z r.k,qg r.p,qg r.t,U Z r.sz,U Z r.h,U Z r.o,qg r.d,U Z r.tk,U Z r.i,qh oa n c]] w (iF B b (fX l (cJ 105 r)) (jl sp (cJ 105 r)) w):=by
 rw[lx,kB _ _ _ qa,lZ _ _ _ qa];have HR:=Hd hr;have HW:=Hd hw;have HP:=Hd (hp.ag (aa w (qn #[U Z r.cl,U Z r.sq,U Z r.k,qg r.p,qg r.t,U Z r.sz,U Z r.h,U Z r.o,qg r.d,U Z r.tk,U Z r.i,qh oa n c] 61)));have HF:=Hd ((Fr.refl B b w).alloc hBw (qn #[U Z r.cl,U Z r.sq,U Z r.k,qg r.p,qg r.t,U Z r.sz,U Z r.h,U Z r.o,qg r.d,U Z r.tk,U Z r.i,qh oa n c] 61));have hB2:B≤(w.alloc (qn #[U Z r.cl,U Z r.sq,U Z r.k,qg r.p,qg r.t,U Z r.sz,U Z r.h,U Z r.o,qg r.d,U Z r.tk,U Z r.i,qh oa n c] 61)).heap.size:=by rw[bn];omega
 have az:=Hd hB2;clear hp hr hw hB2;go_enter func356,ntmps356;go_wp2_with(go_at_call 342;refine(gK B b l sp r.i 4 HW.o.i _ HP.o Y az.o).mono ?_;rintro e w2 ⟨rfl,hp2,hf2⟩;have iC:=Hd hp2;have nz:=Hd (HF.o.trans hf2);clear hp2 hf2)
 go_end0
 exact⟨rfl,iC.o,nz.o⟩
theorem AH{l:List Mv}{k:Nat}{x:Mv}(h:l[k]? =some x):(l.take (k+1)).flatMap jm=(l.take k).flatMap jm++jm x:=by
 rw[xA,h,xy];simp
theorem OH(l:List UInt8)(v n:Int)(hn:n≠0)(xs:List PackW.Fd):fX l (dB v n::xs)=fX (rM l v n) xs:=by
 rw[fX,dB];exact qX (fun z=>fX z xs) (qB hn)
theorem OI(b:Bool)(v n:Int)(hn:n≠0)(xs:List PackW.Fd):jl b (dB v n::xs)=jl (zq b v n) xs:=by
 rw[jl,dB];exact qX (fun z=>jl z xs) (qB hn)
structure MvL(B b:Nat)(l:List UInt8)(sp:Bool)(m:List Mv)(w:qo)(k:Nat)(wr:qo):Prop where
 pk:cH B b (fX l ((m.take k).flatMap jm)) (jl sp ((m.take k).flatMap jm)) wr
 fr:Fr B b w wr
 len:(fX l ((m.take k).flatMap jm)).length≤100000100+40*k
structure Wo(B b:Nat)(l:List UInt8)(sp:Bool)(x:Mv)(w:qo)(j:Nat)(wr:qo):Prop where
 pk:cH B b (fX l ((jm x).take j)) (jl sp ((jm x).take j)) wr
 fr:Fr B b w wr
 len:(fX l ((jm x).take j)).length≤l.length+8*j
theorem Wo.step{B b:Nat}{l:List UInt8}{sp:Bool}{x:Mv}{w wr J:qo}{j:Nat}{v:Int}(h:Wo B b l sp x w j wr)(hx:(jm x).take (j+1)=(jm x).take j++[dB v 2])(hp:cH B b (rM (fX l ((jm x).take j)) v 2) (zq (jl sp ((jm x).take j)) v 2) J)(hf:Fr B b wr J):Wo B b l sp x w (j+1) J:=by
 refine⟨?_,h.fr.trans hf,?_⟩
 ·rw[hx,sk,BJ,kB _ _ _ qa,lZ _ _ _ qa];exact hp
 ·rw[hx,sk,kB _ _ _ qa];have h1:=xZ (fX l ((jm x).take j)) v 2;have h2:=h.len;omega
theorem TA(B b:Nat)(l:List UInt8)(sp:Bool)(r:Rec)(hr:Fit r)(hw:Wf r)(oa:Option qt)(n c:Nat)(hn:n=r.m.length)(w:qo)(hp:cH B b l sp w)(hl:l.length≤100000000)(hBw:B≤w.heap.size)(hm:uX zz 4 B oa r.m w):
 qw qx 356 #[qi (some ⟨b,0,none⟩),.int .u8 109,ql #[U Z r.cl,U Z r.sq,U Z r.k,qg r.p,qg r.t,U Z r.sz,U Z r.h,U Z r.o,qg r.d,U Z r.tk,U Z r.i,qh oa n c]] w (iF B b (fX l (cJ 109 r)) (jl sp (cJ 109 r)) w):=by
 rw[nw,OH _ _ _ qa,OI _ _ _ qa,←hn];have HN:=Hd hn;have Iq:n≤1000000:=by have:=hr.2.2.2;omega
 have HW:=Hd hw.m;have HP:=Hd (hp.ag (aa w (qn #[U Z r.cl,U Z r.sq,U Z r.k,qg r.p,qg r.t,U Z r.sz,U Z r.h,U Z r.o,qg r.d,U Z r.tk,U Z r.i,qh oa n c] 61)));have HF:=Hd ((Fr.refl B b w).alloc hBw (qn #[U Z r.cl,U Z r.sq,U Z r.k,qg r.p,qg r.t,U Z r.sz,U Z r.h,U Z r.o,qg r.d,U Z r.tk,U Z r.i,qh oa n c] 61));have HM:=Hd (hm.below HF.o.below);have hB2:B≤(w.alloc (qn #[U Z r.cl,U Z r.sq,U Z r.k,qg r.p,qg r.t,U Z r.sz,U Z r.h,U Z r.o,qg r.d,U Z r.tk,U Z r.i,qh oa n c] 61)).heap.size:=by rw[bn];omega
 have az:=Hd hB2;have fu:Hid (nu (w.alloc (qn #[U Z r.cl,U Z r.sq,U Z r.k,qg r.p,qg r.t,U Z r.sz,U Z r.h,U Z r.o,qg r.d,U Z r.tk,U Z r.i,qh oa n c] 61)) w.heap.size r (qh oa n c)):=Hd (qA w _);have lS:Hid (w.heap.size≠b):=Hd (by have:=hp.lt;omega);have hl1:(rM l (n:Int) 1).length≤100000100:=by have:=xZ l (n:Int) 1;omega
 clear hp hr hw hB2 hm hn;go_enter func356,ntmps356;go_wp2_with(go_at_call 342;refine(gK B b l sp n 1 Y _ HP.o Y az.o).mono ?_;rintro e w2 ⟨rfl,hp2,hf2⟩;have iC:=Hd hp2;have nz:=Hd (HF.o.trans hf2);have hx2:nu w2 w.heap.size r (qh oa n c):=hf2.fO _ _ _ _ lS.o qa fu.o;have HMM:=Hd (HM.o.below hf2.below);obtain⟨d0,d1,d2,d3,d4,d5,d6,d7,d8,d9,d10,d11⟩:=hx2.cells;clear hp2 hf2 hx2 d0 d1 d2 d3 d4 d5 d6 d7 d8 d9 d10)
 clear d11;generalize hgl:rM l (n:Int) 1=l1 at*;generalize hgs:zq sp (n:Int) 1=s1 at*;clear hgl hgs
 go_loopw [45] (fun i wr=> ∃k:Nat,k≤n∧i=U Z (k:Int)∧MvL B b l1 s1 r.m w2 k wr) (fun i _=>((n:Int)-intOf i).toNat)
 case atStart=>exact⟨0,Y,rfl,⟨iC.o,Fr.refl _ _ _,hl1⟩⟩
 case round=>
  obtain⟨k,hk,rfl,oQ⟩:=hrel;have HL:=Hd oQ;have hlen:=oQ.len;clear oQ;by_cases aN:k<n
  ·obtain⟨x,hx⟩: ∃x,r.m[k]? =some x:=⟨_,qN (by have:=HN.o;omega)⟩;obtain⟨a,rfl,oW,hc⟩:=(HMM.o.below HL.o.fr.below) k x hx;have c0:=hc 0 _ rfl;have c1:=hc 1 _ rfl;have c2:=hc 2 _ rfl;have c3:=hc 3 _ rfl;simp only[rX]at c0 c1 c2 c3;have hk0:(0:Int)≤(k:Int):=Y;have vN:(k:Int)<(n:Int):=Y;have hbB:B≤wr.heap.size:=by have h1:=HL.o.pk.lt;have h2:=HL.o.pk.base;omega
   have z0:(a.add (k*4)).block<wr.heap.size:=by rw[bA];omega
   have HXM:=Hd hx;have HWX:=Hd (HW.o x (xp hx));clear hx hc;go_wp2_with fail
   generalize hgl:fX l1 ((r.m.take k).flatMap jm)=l2 at*;generalize hgs:jl s1 ((r.m.take k).flatMap jm)=s2 at*;have HGL:=Hd hgl;have HGS:=Hd hgs;have uW:Hid (cH B b l2 s2 (wr.alloc (qn #[U Z x.a,U Z x.f,U Z x.n,U Z x.t] 405))):=Hd (by rw[←hgl,←hgs];exact HL.o.pk.ag (aa wr _));have It:Hid (Fr B b w2 (wr.alloc (qn #[U Z x.a,U Z x.f,U Z x.n,U Z x.t] 405))):=Hd (HL.o.fr.alloc hbB _);clear hgl hgs c0 c1 c2 c3
   go_loopw [58] (fun i wq=> ∃j:Nat,j≤4∧i=U Z (j:Int)∧Wo B b l2 s2 x w2 j wq) (fun i _=>((4:Int)-intOf i).toNat)
   case atStart=>exact⟨0,Y,rfl,⟨uW.o,It.o,by simp[fX]⟩⟩
   case round=>
    obtain⟨j,hj,rfl,hmj⟩:=hrel;have HJ:=Hd hmj;have VX:=hmj.len;clear hmj;by_cases hj4:j<4
    ·have HJB:Hid (B≤wr.heap.size):=Hd (by have h1:=HJ.o.pk.lt;have h2:=HJ.o.pk.base;omega);rcases(show j=0∨j=1∨j=2∨j=3 by omega)with rfl|rfl|rfl|rfl
     ·have i0: ∀w:qo,(Instr.index 513 (ql #[U Z x.a,U Z x.f,U Z x.n,U Z x.t]) (U Z 0)).run qx w= .ok (U Z x.a) w:=fun _=>by kernel_rfl
      go_wp2_with(go_at_call 342;refine(gK B b (fX l2 ((jm x).take 0)) (jl s2 ((jm x).take 0)) x.a 2 HWX.o.1 _ HJ.o.pk Y HJB.o).mono ?_;rintro e w5 ⟨rfl,hp5,hf5⟩;have Iu:=Hd hp5;have TB:=Hd hf5;clear hp5 hf5)
      go_round
      case rel=>exact⟨1,Y,qc,Wo.step HJ.o rfl Iu.o TB.o⟩
      case measure=>simp[intOf]
     ·have i0: ∀w:qo,(Instr.index 513 (ql #[U Z x.a,U Z x.f,U Z x.n,U Z x.t]) (U Z 1)).run qx w= .ok (U Z x.f) w:=fun _=>by kernel_rfl
      go_wp2_with(go_at_call 342;refine(gK B b (fX l2 ((jm x).take 1)) (jl s2 ((jm x).take 1)) x.f 2 HWX.o.2.1 _ HJ.o.pk Y HJB.o).mono ?_;rintro e w5 ⟨rfl,hp5,hf5⟩;have Iu:=Hd hp5;have TB:=Hd hf5;clear hp5 hf5)
      go_round
      case rel=>exact⟨2,Y,qc,Wo.step HJ.o rfl Iu.o TB.o⟩
      case measure=>simp[intOf]
     ·have i0: ∀w:qo,(Instr.index 513 (ql #[U Z x.a,U Z x.f,U Z x.n,U Z x.t]) (U Z 2)).run qx w= .ok (U Z x.n) w:=fun _=>by kernel_rfl
      go_wp2_with(go_at_call 342;refine(gK B b (fX l2 ((jm x).take 2)) (jl s2 ((jm x).take 2)) x.n 2 HWX.o.2.2.1 _ HJ.o.pk Y HJB.o).mono ?_;rintro e w5 ⟨rfl,hp5,hf5⟩;have Iu:=Hd hp5;have TB:=Hd hf5;clear hp5 hf5)
      go_round
      case rel=>exact⟨3,Y,qc,Wo.step HJ.o rfl Iu.o TB.o⟩
      case measure=>simp[intOf]
     ·have i0: ∀w:qo,(Instr.index 513 (ql #[U Z x.a,U Z x.f,U Z x.n,U Z x.t]) (U Z 3)).run qx w= .ok (U Z x.t) w:=fun _=>by kernel_rfl
      go_wp2_with(go_at_call 342;refine(gK B b (fX l2 ((jm x).take 3)) (jl s2 ((jm x).take 3)) x.t 2 HWX.o.2.2.2 _ HJ.o.pk Y HJB.o).mono ?_;rintro e w5 ⟨rfl,hp5,hf5⟩;have Iu:=Hd hp5;have TB:=Hd hf5;clear hp5 hf5)
      go_round
      case rel=>exact⟨4,Y,qc,Wo.step HJ.o rfl Iu.o TB.o⟩
      case measure=>simp[intOf]
    ·obtain rfl:j=4:=by omega
     have Yx:Hid (MvL B b l1 s1 r.m w2 (k+1) wr):=Hd (by
      have h4:(jm x).take 4=jm x:=rfl;have hj:=HJ.o;refine⟨?_,hj.fr,?_⟩
      ·rw[AH HXM.o,sk,BJ,HGL.o,HGS.o];have:=hj.pk
       rwa [h4]at this
      ·rw[AH HXM.o,sk,HGL.o];have:=hj.len;rw[h4]at this;omega)
     go_wp2_with fail
     exact⟨⟨k+1,Y,qc,Yx.o⟩,by simp[intOf];omega⟩
  ·have hk1: ¬((k:Int)<(n:Int)):=by omega
   have HE:Hid (r.m.take k=r.m):=Hd (qT (by have:=HN.o;omega));have HPK:=Hd HL.o.pk;rw[HE.o]at HPK;go_wp2_with fail
   go_end0
   exact⟨rfl,HPK.o,nz.o.trans HL.o.fr⟩
def mH(x:PackW.Fd):Prop:=(x.size=0∧x.s.size<65536)∨(x.size≠0∧MF x.v x.size)
def gh(x:PackW.Fd):List UInt8:=if x.size=0 then ShiftP.eK x.s.size 2++x.s.data.toList else ShiftP.eK x.v.toNat x.size.toNat
theorem acq(xs:List PackW.Fd)(h: ∀x∈xs,mH x): ∀(l:List UInt8),fX l xs=l++xs.flatMap gh∧jl false xs=false:=by
 induction xs with
 |nil=>intro l;simp[fX,jl]
 |cons x xs ih=>
  intro l;have h1:=ih (fun y hy=>h y (qV _ hy));have dY:x.s.data.toList.length=x.s.size:=qc;rcases h x (xh ..)with⟨h0,h2⟩|⟨h0,h2⟩
  ·rw[fX,jl,qH h0,qH h0,pa,vU,dY,qH h2,qH h2,(h1 _).1,(h1 []).2];refine⟨?_,rfl⟩;rw[qU,gh,qH h0];simp only[qW]
  ·rw[fX,jl,qB h0,qB h0,rM,zq,qH h2,qH h2,(h1 _).1,(h1 []).2];refine⟨?_,rfl⟩;rw[qU,gh,qB h0];simp only[qW]
theorem BM{v:Int}{n:Int}(hn:dC n)(h0:0≤v)(h:v<2^(8*n.toNat)):mH (dB v n):= .inr ⟨by unfold dB;unfold dC at hn;show n≠0;omega,hn,h0,h⟩
theorem iz{s:ByteArray}(h:s.size<65536):mH (lY s):= .inl ⟨rfl,h⟩
theorem OJ{v:Int}(h0:0≤v)(h:v<256):mH (dB v 1):=BM (by simp[dC]) h0 (by simpa using h)
theorem acr{v:Int}(h0:0≤v)(h:v<65536):mH (dB v 2):=BM (by simp[dC]) h0 (by simpa using h)
theorem uE{v:Int}(h0:0≤v)(h:v<4294967296):mH (dB v 4):=BM (by simp[dC]) h0 (by simpa using h)
theorem Wp{v:Int}(h0:0≤v)(h:v<18446744073709551616):mH (dB v 8):=BM (by simp[dC]) h0 (by simpa using h)
theorem aL{s:ByteArray}(h:kz s=true):s.size≤73:=by
 unfold kz at h;obtain⟨l,hl⟩:=Option.isSome_iff_exists.1 h;obtain⟨h1,h2,h3⟩:=PathW.pN _ _ hl;have h4:s.size=(PathW.jL l).length:=by rw[h1];simp
 rw[h4];unfold PathW.jL;split
 ·simp
 ·have:=PathW.KE l h3;omega
theorem OK{r:Rec}(e:r.k=1):fds r=cR r++([lY r.p]):=by
 unfold fds;rw[e,show(fieldsOf 1).data.toList=[112]from by decide];simp only[qU,List.flatMap_nil,ez,xg,qW]
theorem OL{r:Rec}(e:r.k=2):fds r=cR r++([lY r.p]):=by
 unfold fds;rw[e,show(fieldsOf 2).data.toList=[112]from by decide];simp only[qU,List.flatMap_nil,ez,xg,qW]
theorem OM{r:Rec}(e:r.k=3):fds r=cR r++([lY r.p]):=by
 unfold fds;rw[e,show(fieldsOf 3).data.toList=[112]from by decide];simp only[qU,List.flatMap_nil,ez,xg,qW]
theorem ON{r:Rec}(e:r.k=4):fds r=cR r++([lY r.p]++[lY r.t]):=by
 unfold fds;rw[e,show(fieldsOf 4).data.toList=[112,116]from by decide];simp only[qU,List.flatMap_nil,ez,jS,xg,qW]
theorem OO{r:Rec}(e:r.k=5):fds r=cR r++([lY r.p]):=by
 unfold fds;rw[e,show(fieldsOf 5).data.toList=[112]from by decide];simp only[qU,List.flatMap_nil,ez,xg,qW]
theorem OQ{r:Rec}(e:r.k=6):fds r=cR r++([lY r.p]++[lY r.t]):=by
 unfold fds;rw[e,show(fieldsOf 6).data.toList=[112,116]from by decide];simp only[qU,List.flatMap_nil,ez,jS,xg,qW]
theorem OR{r:Rec}(e:r.k=7):fds r=cR r++([lY r.p]++[dB r.sz 4]):=by
 unfold fds;rw[e,show(fieldsOf 7).data.toList=[112,115]from by decide];simp only[qU,List.flatMap_nil,ez,jT,xg,qW]
theorem OS{r:Rec}(e:r.k=8):fds r=cR r++([lY r.p]):=by
 unfold fds;rw[e,show(fieldsOf 8).data.toList=[112]from by decide];simp only[qU,List.flatMap_nil,ez,xg,qW]
theorem OT{r:Rec}(e:r.k=9):fds r=cR r++([dB r.h 4]):=by
 unfold fds;rw[e,show(fieldsOf 9).data.toList=[104]from by decide];simp only[qU,List.flatMap_nil,jU,xg,qW]
theorem Iv{r:Rec}(e:r.k=10):fds r=cR r++([dB r.h 4]++[dB r.o 4]++[lY r.d]):=by
 unfold fds;rw[e,show(fieldsOf 10).data.toList=[104,111,100]from by decide];simp only[qU,List.flatMap_nil,jU,jV,iU,xg,qW]
theorem Iw{r:Rec}(e:r.k=11):fds r=cR r++([dB r.tk 8]):=by
 unfold fds;rw[e,show(fieldsOf 11).data.toList=[107]from by decide];simp only[qU,List.flatMap_nil,jW,xg,qW]
theorem Ix{r:Rec}(e:r.k=12):fds r=cR r++([dB r.tk 8]):=by
 unfold fds;rw[e,show(fieldsOf 12).data.toList=[107]from by decide];simp only[qU,List.flatMap_nil,jW,xg,qW]
theorem Iy{r:Rec}(e:r.k=13):fds r=cR r++([dB r.i 4]++(dB r.m.length 1::r.m.flatMap jm)++[lY r.d]):=by
 unfold fds;rw[e,show(fieldsOf 13).data.toList=[105,109,100]from by decide];simp only[qU,List.flatMap_nil,lx,nw,iU,xg,qW]
theorem Iz{r:Rec}(e:r.k=14):fds r=cR r++([lY r.d]++[dB r.sz 4]++[dB r.o 4]):=by
 unfold fds;rw[e,show(fieldsOf 14).data.toList=[100,115,111]from by decide];simp only[qU,List.flatMap_nil,iU,jT,jV,xg,qW]
theorem uF{r:Rec}(h:ck r=true): ∀x∈fds r,mH x:=by
 obtain⟨h1,h2,h3⟩:=fp h;have hk:=fk h2;have hh:0≤r.cl∧r.cl≤7∧1≤r.sq∧r.sq≤2147483647:=by simpa [se]using h1
 have hds: ∀x∈cR r,mH x:=by
  intro x hx;simp only[cR,qG,qQ,xt]at hx;rcases hx with rfl|rfl|rfl
  ·exact OJ Y Y
  ·exact OJ Y Y
  ·exact uE Y Y
 clear h1 h3 h
 have app: ∀(ys:List PackW.Fd),(∀x∈ys,mH x)→ ∀x∈cR r++ys,mH x:=by
  intro ys hy x hx;rcases xa.1 hx with hx|hx
  ·exact hds x hx
  ·exact hy x hx
 rcases kinds r.k hk with e|e|e|e|e|e|e|e|e|e|e|e|e|e
 ·rw[bZ (r:=r) (by simp[e])]at h2;(try simp only[qF,qC]at h2)
  rw[OK e];refine app _ fun x hx=>?_;simp only[xa,qG,qQ,xt,xd,xk]at hx;subst hx;exact iz (by have:=aL h2;omega)
 ·rw[bZ (r:=r) (by simp[e])]at h2;(try simp only[qF,qC]at h2)
  rw[OL e];refine app _ fun x hx=>?_;simp only[xa,qG,qQ,xt,xd,xk]at hx;subst hx;exact iz (by have:=aL h2;omega)
 ·rw[bZ (r:=r) (by simp[e])]at h2;(try simp only[qF,qC]at h2)
  rw[OM e];refine app _ fun x hx=>?_;simp only[xa,qG,qQ,xt,xd,xk]at hx;subst hx;exact iz (by have:=aL h2;omega)
 ·rw[fy (r:=r) (by simp[e])]at h2;(try simp only[qF,qC]at h2)
  rw[ON e];refine app _ fun x hx=>?_;simp only[xa,qG,qQ,xt,xd,xk]at hx;rcases hx with rfl|rfl
  ·exact iz (by have:=aL h2.1;omega)
  ·exact iz (by have:=aL h2.2;omega)
 ·rw[bZ (r:=r) (by simp[e])]at h2;(try simp only[qF,qC]at h2)
  rw[OO e];refine app _ fun x hx=>?_;simp only[xa,qG,qQ,xt,xd,xk]at hx;subst hx;exact iz (by have:=aL h2;omega)
 ·rw[fy (r:=r) (by simp[e])]at h2;(try simp only[qF,qC]at h2)
  rw[OQ e];refine app _ fun x hx=>?_;simp only[xa,qG,qQ,xt,xd,xk]at hx;rcases hx with rfl|rfl
  ·exact iz (by have:=aL h2.1;omega)
  ·exact iz (by have:=aL h2.2;omega)
 ·rw[nv e]at h2;(try simp only[qF,qC]at h2)
  rw[OR e];refine app _ fun x hx=>?_;simp only[xa,qG,qQ,xt,xd,xk]at hx;rcases hx with rfl|rfl
  ·exact iz (by have:=aL h2.1;omega)
  ·exact uE Y Y
 ·rw[bZ (r:=r) (by simp[e])]at h2;(try simp only[qF,qC]at h2)
  rw[OS e];refine app _ fun x hx=>?_;simp only[xa,qG,qQ,xt,xd,xk]at hx;subst hx;exact iz (by have:=aL h2;omega)
 ·rw[jO e]at h2;(try simp only[qF,qC]at h2)
  rw[OT e];refine app _ fun x hx=>?_;simp only[xa,qG,qQ,xt,xd,xk]at hx;subst hx;exact uE Y Y
 ·rw[jP e]at h2;(try simp only[qF,qC]at h2)
  rw[Iv e];refine app _ fun x hx=>?_;simp only[xa,qG,qQ,xt,xd,xk]at hx;rcases hx with rfl|rfl|rfl
  ·exact uE Y Y
  ·exact uE Y Y
  ·exact iz Y
 ·rw[fA (r:=r) (by simp[e])]at h2;(try simp only[qF,qC]at h2)
  rw[Iw e];refine app _ fun x hx=>?_;simp only[xa,qG,qQ,xt,xd,xk]at hx;subst hx;exact Wp Y Y
 ·rw[fA (r:=r) (by simp[e])]at h2;(try simp only[qF,qC]at h2)
  rw[Ix e];refine app _ fun x hx=>?_;simp only[xa,qG,qQ,xt,xd,xk]at hx;subst hx;exact Wp Y Y
 ·rw[lv e]at h2;(try simp only[qF,qC]at h2)
  rw[Iy e];refine app _ fun x hx=>?_;simp only[xa,qG,qQ,xt,xd,xk]at hx;rcases hx with rfl|rfl|hx|rfl
  ·exact uE Y Y
  ·exact OJ Y Y
  ·obtain⟨y,hy,hx⟩:=List.mem_flatMap.1 hx;have hb:=List.all_eq_true.1 h2.2 y hy;have hm:0≤y.a∧y.a≤16383∧0≤y.f∧y.f≤1024∧1≤y.n∧y.n≤1024∧0≤y.t∧y.t≤(r.d.size:Int)-y.n:=by simpa [FX]using hb
   simp only[jm,qG,qQ,xt]at hx;rcases hx with rfl|rfl|rfl|rfl
   all_goals exact acr Y Y
  ·exact iz Y
 ·rw[jQ e]at h2;(try simp only[qF,qC]at h2)
  rw[Iz e];refine app _ fun x hx=>?_;simp only[xa,qG,qQ,xt,xd,xk]at hx;rcases hx with rfl|rfl|rfl
  ·exact iz Y
  ·exact uE Y Y
  ·exact uE Y Y
theorem AI(l:List Mv):jR (l.flatMap jm)=32*l.length:=by
 induction l with
 |nil=>rfl
 |cons x l ih=>rw[qU,aX,ih,xf];show 32+_=_;omega
theorem Gd{r:Rec}(h:ck r=true):jR (fds r)≤3000:=by
 obtain⟨h1,h2,h3⟩:=fp h;have hk:=fk h2;have vn:jR (cR r)=24:=rfl;have hN: ∀v n:Int,jR [dB v n]=8:=fun v n=>rfl;have hT: ∀s:ByteArray,jR [lY s]=s.size+8:=fun s=>by simp[jR,lY]
 clear h1 h3 h;rcases kinds r.k hk with e|e|e|e|e|e|e|e|e|e|e|e|e|e
 ·rw[bZ (r:=r) (by simp[e])]at h2;(try simp only[qF,qC]at h2)
  rw[OK e,aX,vn];simp only[aX,hN,hT];have:=aL h2;omega
 ·rw[bZ (r:=r) (by simp[e])]at h2;(try simp only[qF,qC]at h2)
  rw[OL e,aX,vn];simp only[aX,hN,hT];have:=aL h2;omega
 ·rw[bZ (r:=r) (by simp[e])]at h2;(try simp only[qF,qC]at h2)
  rw[OM e,aX,vn];simp only[aX,hN,hT];have:=aL h2;omega
 ·rw[fy (r:=r) (by simp[e])]at h2;(try simp only[qF,qC]at h2)
  rw[ON e,aX,vn];simp only[aX,hN,hT];have:=aL h2.1;have:=aL h2.2;omega
 ·rw[bZ (r:=r) (by simp[e])]at h2;(try simp only[qF,qC]at h2)
  rw[OO e,aX,vn];simp only[aX,hN,hT];have:=aL h2;omega
 ·rw[fy (r:=r) (by simp[e])]at h2;(try simp only[qF,qC]at h2)
  rw[OQ e,aX,vn];simp only[aX,hN,hT];have:=aL h2.1;have:=aL h2.2;omega
 ·rw[nv e]at h2;(try simp only[qF,qC]at h2)
  rw[OR e,aX,vn];simp only[aX,hN,hT];have:=aL h2.1;omega
 ·rw[bZ (r:=r) (by simp[e])]at h2;(try simp only[qF,qC]at h2)
  rw[OS e,aX,vn];simp only[aX,hN,hT];have:=aL h2;omega
 ·rw[jO e]at h2;(try simp only[qF,qC]at h2)
  rw[OT e,aX,vn];simp only[aX,hN,hT];omega
 ·rw[jP e]at h2;(try simp only[qF,qC]at h2)
  rw[Iv e,aX,vn];simp only[aX,hN,hT];omega
 ·rw[fA (r:=r) (by simp[e])]at h2;(try simp only[qF,qC]at h2)
  rw[Iw e,aX,vn];simp only[aX,hN,hT];omega
 ·rw[fA (r:=r) (by simp[e])]at h2;(try simp only[qF,qC]at h2)
  rw[Ix e,aX,vn];simp only[aX,hN,hT];omega
 ·rw[lv e]at h2;(try simp only[qF,qC]at h2)
  rw[Iy e,aX,vn];have e1:jR (dB r.m.length 1::r.m.flatMap jm)=8+32*r.m.length:=by rw[←AI];show 8+_=_;rfl
  simp only[aX,hN,hT,e1];omega
 ·rw[jQ e]at h2;(try simp only[qF,qC]at h2)
  rw[Iz e,aX,vn];simp only[aX,hN,hT];omega
def encS(r:Rec):ByteArray:=if ck r then⟨((fds r).flatMap gh).toArray⟩else⟨#[]⟩
def OU(r:Rec):Int:=if ck r then 0 else 11
theorem DO{r:Rec}(h:ck r=true):rN (fX [] (fds r)) (jl false (fds r))=encS r∧rO (fX [] (fds r)) (jl false (fds r))=OU r∧fX [] (fds r)=(fds r).flatMap gh∧jl false (fds r)=false∧(fX [] (fds r)).length≤3000:=by
 have h1:=acq (fds r) (uF h) [];have h2:=BK (fds r) [];have h3:=Gd h;have h4:(fX [] (fds r)).length≤3000:=by simp only[List.length_nil]at h2;omega
 refine⟨?_,?_,by simpa using h1.1,h1.2,h4⟩
 ·rw[rN,qH ⟨h1.2,Y⟩,encS,qH h];rw[h1.1];rfl
 ·rw[rO,h1.2,qB qa,qH Y,OU,qH h]
structure Dn where
 l:List UInt8
 sp:Bool
 r:Rec
structure ra where
 pm:Int
 dm:Int
 cm:Int→Nat
structure ra.Ok(x:ra):Prop where
 p:100≤x.pm
 d:1024≤x.dm
 c: ∀n:Int,0≤n→x.cm n≤16→(x.cm n:Int)=n
 e: ∀n:Int,0≤n→n≤16→(x.cm n:Int)=n
def bj(n:Int)(d:Dn)(f:Int→Rec→Rec):Dn:=⟨d.l.drop n.toNat,kZ d.l d.sp n,f (de d.l d.sp n) d.r⟩
def px(m:Int)(d:Dn)(f:ByteArray→Rec→Rec):Dn:=⟨ur d.l,iM d.l d.sp m,f (gv d.l d.sp m) d.r⟩
def Fp(d:Dn):Dn:=
 let d1:=bj 2 d fun _ r=>r
 let d2:=bj 2 d1 fun _ r=>r
 let d3:=bj 2 d2 fun _ r=>r
 ⟨d3.l.drop 2,kZ d3.l d3.sp 2,{d.r with m:=d.r.m++[⟨de d.l d.sp 2,de d1.l d1.sp 2,de d2.l d2.sp 2,de d3.l d3.sp 2⟩]}⟩
def js:Nat→Dn→Dn
 |0,d=>d
 |k+1,d=>Fp (js k d)
def getD(x:ra)(c:UInt8)(d:Dn):Dn:=
 if c=112 then px x.pm d fun s r=>{r with p:=s}else if c=116 then px x.pm d fun s r=>{r with t:=s}else if c=115 then bj 4 d fun v r=>{r with sz:=v}
 else if c=104 then bj 4 d fun v r=>{r with h:=v}else if c=111 then bj 4 d fun v r=>{r with o:=v}else if c=100 then px x.dm d fun s r=>{r with d:=s}
 else if c=107 then bj 8 d fun v r=>{r with tk:=v}else if c=105 then bj 4 d fun v r=>{r with i:=v}
 else if c=109 then js (x.cm (de d.l d.sp 1)) (bj 1 d fun _ r=>r)else d
def zr:Rec:=⟨0,0,0,⟨#[]⟩,⟨#[]⟩,0,0,0,⟨#[]⟩,0,0,[]⟩
def headD(s:List UInt8):Dn:=bj 4 (bj 1 (bj 1 ⟨s,false,zr⟩ fun v r=>{r with k:=v}) fun v r=>{r with cl:=v}) fun v r=>{r with sq:=v}
def gG(x:ra)(s:List UInt8):Dn:=(fieldsOf (headD s).r.k).data.toList.foldl (fun d c=>getD x c d) (headD s)
def mI(d:Dn):Option Rec:=if oM d.l d.sp=0∧ck d.r=true then some d.r else none
theorem nB(x:ra)(d:Dn):getD x 112 d=px x.pm d fun s r=>{r with p:=s}:=by unfold getD;rw[qH rfl]
theorem nC(x:ra)(d:Dn):getD x 116 d=px x.pm d fun s r=>{r with t:=s}:=by unfold getD;rw[qB qa,qH rfl]
theorem nD(x:ra)(d:Dn):getD x 115 d=bj 4 d fun v r=>{r with sz:=v}:=by unfold getD;rw[qB qa,qB qa,qH rfl]
theorem nE(x:ra)(d:Dn):getD x 104 d=bj 4 d fun v r=>{r with h:=v}:=by unfold getD;rw[qB qa,qB qa,qB qa,qH rfl]
theorem nF(x:ra)(d:Dn):getD x 111 d=bj 4 d fun v r=>{r with o:=v}:=by unfold getD;rw[qB qa,qB qa,qB qa,qB qa,qH rfl]
theorem nG(x:ra)(d:Dn):getD x 100 d=px x.dm d fun s r=>{r with d:=s}:=by unfold getD;rw[qB qa,qB qa,qB qa,qB qa,qB qa,qH rfl]
theorem nH(x:ra)(d:Dn):getD x 107 d=bj 8 d fun v r=>{r with tk:=v}:=by unfold getD;rw[qB qa,qB qa,qB qa,qB qa,qB qa,qB qa,qH rfl]
theorem nI(x:ra)(d:Dn):getD x 105 d=bj 4 d fun v r=>{r with i:=v}:=by unfold getD;rw[qB qa,qB qa,qB qa,qB qa,qB qa,qB qa,qB qa,qH rfl]
theorem nJ(x:ra)(d:Dn):getD x 109 d=js (x.cm (de d.l d.sp 1)) (bj 1 d fun _ r=>r):=by unfold getD;rw[qB qa,qB qa,qB qa,qB qa,qB qa,qB qa,qB qa,qB qa,qH rfl]
theorem AJ(x:ra)(s:List UInt8)(h: ¬(1≤(headD s).r.k∧(headD s).r.k≤14)):gG x s=headD s:=by
 unfold gG fieldsOf lU;have q: ∀j:Int,1≤j→j≤14→((headD s).r.k==j)=false:=fun j h1 h2=>qP.2 Y
 rw[q 1 qa qa,q 2 qa qa,q 3 qa qa,q 4 qa qa,q 5 qa qa,q 6 qa qa,q 7 qa qa,q 8 qa qa,
  q 9 qa qa,q 10 qa qa,q 11 qa qa,q 12 qa qa,q 13 qa qa,q 14 qa qa]
 rfl
theorem tO: ∀(n:Nat) (l:List UInt8),l.length=n→ShiftP.eK (ShiftP.ef l) n=l
 |0,l,h=>by rw[xe h];rfl
 |n+1,l,h=>by
  obtain⟨l',c,rfl⟩: ∃l' c,l=l'++[c]:=⟨l.dropLast,l.getLast (by intro e;rw[e]at h;cases h),(List.dropLast_concat_getLast _).symm⟩;have hl:l'.length=n:=by simpa using h
  rw[ShiftP.tp,ShiftP.zZ];have hc:c.toNat<256:=UInt8.toNat_lt c;rw[show(ShiftP.ef l'*256+c.toNat)/ 256=ShiftP.ef l' by omega,tO n l' hl]
  congr 2
  rw[UInt8.ofNat_eq_iff_mod_eq_toNat];omega
theorem IA(v n:Int)(hn:n≠0):gh (dB v n)=ShiftP.eK v.toNat n.toNat:=by rw[gh,dB];exact qB hn
theorem DP(s:ByteArray):gh (lY s)=ShiftP.eK s.size 2++s.data.toList:=by rw[gh,lY];exact qH rfl
theorem eA{l:List UInt8}{sp:Bool}{n:Int}(h:kZ l sp n=false):sp=false∧0≤de l sp n∧l=gh (dB (de l sp n) n)++l.drop n.toNat:=by
 unfold kZ at h
 cases hv:gu l sp n with
 |none=>rw[hv]at h;cases h
 |some v=>
  unfold de;rw[hv];unfold gu at hv;split at hv
  ·rename_i hc;obtain⟨c1,c2,c3,c4⟩:=hc;injection hv with hv
   refine⟨c1,Int.natCast_nonneg _,?_⟩;have hn:n≠0:=by unfold dC at c2;omega
   show l=gh (dB (v:Int) n)++l.drop n.toNat;rw[IA _ _ hn,Int.toNat_natCast,←hv,tO _ _ (by rw[xF];omega),List.take_append_drop]
  ·cases hv
theorem tP{l:List UInt8}{sp:Bool}{m:Int}(h:iM l sp m=false):sp=false∧l=gh (lY (gv l sp m))++ur l:=by
 unfold iM at h
 cases hv:fK l sp m with
 |none=>rw[hv]at h;cases h
 |some v=>
  unfold gv;rw[hv];unfold fK at hv;split at hv
  ·rename_i hc;obtain⟨c1,c2,c3,c4⟩:=hc;injection hv with hv
   refine⟨c1,?_⟩
   have dY:(⟨v.toArray⟩:ByteArray).size=ShiftP.ef (l.take 2):=by
    rw[←hv];simp only[ByteArray.size,List.size_toArray,xF,List.length_drop];omega
   show l=gh (lY ⟨v.toArray⟩)++ur l;rw[DP,dY,tO _ _ (by rw[xF];omega)];unfold ur;show l=l.take 2++v++_;rw[←hv,qW,List.take_append_drop,List.take_append_drop]
  ·cases hv
theorem fB{v n:Int}(h:mH (dB v n))(hn:n≠0)(hv:v<9223372036854775808)(rest:List UInt8):
 de (gh (dB v n)++rest) false n=v∧kZ (gh (dB v n)++rest) false n=false∧(gh (dB v n)++rest).drop n.toNat=rest:=by
 have hm:MF v n:=by
  rcases h with⟨h0,_⟩|⟨_,h0⟩
  ·exact qZ h0 hn
  ·exact h0
 obtain⟨hs,h0,h1⟩:=hm;rw[IA _ _ hn];have hl:(ShiftP.eK v.toNat n.toNat).length=n.toNat:=ShiftP.cO _ _;have ht:(ShiftP.eK v.toNat n.toNat++rest).take n.toNat=ShiftP.eK v.toNat n.toNat:=List.take_left' hl;have hd:(ShiftP.eK v.toNat n.toNat++rest).drop n.toNat=rest:=List.drop_left' hl;obtain⟨x,rfl⟩:=xo h0
 have hx:x<256^n.toNat:=by
  have e:((2:Int)^(8*n.toNat))=((2^(8*n.toNat):Nat):Int):=by rw[Int.natCast_pow];rfl
  rw[e]at h1;rw[show(256:Nat)=2^8 from rfl,←Nat.pow_mul];omega
 have hg:ShiftP.ef (ShiftP.eK (x:Int).toNat n.toNat)=x:=by rw[ShiftP.Aa,Int.toNat_natCast,Nat.mod_eq_of_lt hx]
 have hu:gu (ShiftP.eK (x:Int).toNat n.toNat++rest) false n=some x:=by
  unfold gu;rw[ht,hg,qH ⟨rfl,hs,by rw[qY,hl];omega,Y⟩]
 exact⟨by unfold de;rw[hu],by unfold kZ;rw[hu];rfl,hd⟩
theorem ya{s:ByteArray}(h:mH (lY s)){m:Int}(hm:(s.size:Int)≤m)(rest:List UInt8):
 gv (gh (lY s)++rest) false m=s∧iM (gh (lY s)++rest) false m=false∧ur (gh (lY s)++rest)=rest:=by
 have h2:s.size<65536:=by
  rcases h with⟨_,h0⟩|⟨h0,_⟩
  ·exact h0
  ·exact qZ rfl h0
 rw[DP];have dY:s.data.toList.length=s.size:=qc;have hl:(ShiftP.eK s.size 2).length=2:=ShiftP.cO _ _;rw[qW];have ht:(ShiftP.eK s.size 2++(s.data.toList++rest)).take 2=ShiftP.eK s.size 2:=List.take_left' hl;have hd:(ShiftP.eK s.size 2++(s.data.toList++rest)).drop 2=s.data.toList++rest:=List.drop_left' hl;have hg:ShiftP.ef (ShiftP.eK s.size 2)=s.size:=by rw[ShiftP.Aa,Nat.mod_eq_of_lt (by simpa using h2)]
 have hu:fK (ShiftP.eK s.size 2++(s.data.toList++rest)) false m=some s.data.toList:=by
  unfold fK;rw[ht,hg,hd,qH ⟨rfl,by rw[qY,hl];omega,hm,by rw[qY,qY,hl,dY];omega⟩,List.take_left' dY]
 refine⟨?_,?_,?_⟩
 ·unfold gv;rw[hu]
 ·unfold iM;rw[hu];rfl
 ·unfold ur;rw[ht,hg,hd];exact List.drop_left' dY
theorem TC{d:Dn}(h:(Fp d).sp=false):d.sp=false∧ ∃x:Mv,(Fp d).r={d.r with m:=d.r.m++[x]}∧d.l=(jm x).flatMap gh++(Fp d).l:=by
 unfold Fp at h⊢;simp only at h⊢;obtain⟨a4,_,b4⟩:=eA h;obtain⟨a3,_,b3⟩:=eA a4;obtain⟨a2,_,b2⟩:=eA a3;obtain⟨a1,_,b1⟩:=eA a2;refine⟨a1,_,rfl,?_⟩;simp only[jm,qU,List.flatMap_nil,xg,qW]
 conv=>lhs;rw[b1]
 congr 1
 conv=>lhs;rw[show List.drop (Int.toNat 2) d.l=(bj 2 d fun _ r=>r).l from rfl,b2]
 congr 1
 conv=>lhs;rw[show List.drop (Int.toNat 2) (bj 2 d fun _ r=>r).l=(bj 2 (bj 2 d fun _ r=>r) fun _ r=>r).l from rfl,b3]
 congr 1
theorem DQ: ∀(k:Nat) {d:Dn},(js k d).sp=false→d.sp=false∧ ∃xs:List Mv,xs.length=k∧(js k d).r={d.r with m:=d.r.m++xs}∧d.l=(xs.flatMap jm).flatMap gh++(js k d).l
 |0,d,h=>⟨h,[],rfl,by simp[js],by simp[js]⟩
 |k+1,d,h=>by
  obtain⟨h1,x,h2,h3⟩:=TC (d:=js k d) h;obtain⟨h4,xs,h5,h6,h7⟩:=DQ k h1;refine⟨h4,xs++[x],by simp[h5],?_,?_⟩
  ·show(Fp (js k d)).r=_;rw[h2,h6];simp
  ·rw[h7,h3,xy,xy];simp[js]
theorem Yy(x:Mv)(hx: ∀f∈jm x,mH f)(hb:x.a<9223372036854775808∧x.f<9223372036854775808∧x.n<9223372036854775808∧x.t<9223372036854775808)(r:Rec)(rest:List UInt8):
 Fp ⟨(jm x).flatMap gh++rest,false,r⟩=⟨rest,false,{r with m:=r.m++[x]}⟩:=by
 have e:(jm x).flatMap gh++rest=gh (dB x.a 2)++(gh (dB x.f 2)++(gh (dB x.n 2)++(gh (dB x.t 2)++rest))):=by simp[jm]
 rw[e];obtain⟨a1,b1,c1⟩:=fB (hx (dB x.a 2) (by simp[jm])) qa hb.1 (gh (dB x.f 2)++(gh (dB x.n 2)++(gh (dB x.t 2)++rest)));obtain⟨a2,b2,c2⟩:=fB (hx (dB x.f 2) (by simp[jm])) qa hb.2.1 (gh (dB x.n 2)++(gh (dB x.t 2)++rest));obtain⟨a3,b3,c3⟩:=fB (hx (dB x.n 2) (by simp[jm])) qa hb.2.2.1 (gh (dB x.t 2)++rest);obtain⟨a4,b4,c4⟩:=fB (hx (dB x.t 2) (by simp[jm])) qa hb.2.2.2 rest;unfold Fp;simp only[bj,a1,b1,c1,a2,b2,c2,a3,b3,c3,a4,b4];rw[show List.drop 2 (gh (dB x.t 2)++rest)=rest from c4]
theorem IB(xs:List Mv)(hx: ∀x∈xs,(∀f∈jm x,mH f)∧x.a<9223372036854775808∧x.f<9223372036854775808∧x.n<9223372036854775808∧x.t<9223372036854775808)(r:Rec)(rest:List UInt8):
 ∀k,k≤xs.length→js k ⟨(xs.flatMap jm).flatMap gh++rest,false,r⟩=⟨((xs.drop k).flatMap jm).flatMap gh++rest,false,{r with m:=r.m++xs.take k}⟩
 |0,_=>by simp[js]
 |k+1,hk=>by
  show Fp (js k _)=_;rw[IB xs hx r rest k Y,List.drop_eq_getElem_cons Y,qU,xy,qW];have h:=hx xs[k] (List.getElem_mem _);rw[Yy xs[k] h.1 h.2];simp only[qW,Dn.mk.injEq,true_and];rw[qL Y]
theorem acs(d:Dn): ∃x,(Fp d).r={d.r with m:=d.r.m++[x]}:=⟨_,rfl⟩
theorem BN(k:Nat)(d:Dn): ∃xs,(js k d).r={d.r with m:=d.r.m++xs}∧xs.length=k:=by
 induction k with
 |zero=>exact⟨[],by simp[js],rfl⟩
 |succ k ih=>
  obtain⟨xs,h,hl⟩:=ih;obtain⟨x,hx⟩:=acs (js k d);refine⟨xs++[x],?_,by simp[hl]⟩;show(Fp (js k d)).r=_;rw[hx,h];simp
theorem Ge(x:ra)(c c':UInt8)(hc:DD c)(hc':DD c')(bd:c≠c')(d:Dn):cJ c (getD x c' d).r=cJ c d.r:=by
 obtain⟨xs,Cz,_⟩:=BN (x.cm (de d.l d.sp 1)) (bj 1 d fun _ r=>r);rcases hc with rfl|rfl|rfl|rfl|rfl|rfl|rfl|rfl|rfl<;>rcases hc' with rfl|rfl|rfl|rfl|rfl|rfl|rfl|rfl|rfl
 all_goals first
  |exact qZ rfl bd
  |(simp only[ez,jS,jT,jU,jV,iU,jW,lx,nw,nB,nC,nD,nE,nF,nG,nH,nI,px,bj];done)
  |(rw[nJ,Cz];simp only[ez,jS,jT,jU,jV,iU,jW,lx,bj];done)
theorem Gf(x:ra)(c:UInt8)(d:Dn):(getD x c d).r.k=d.r.k∧(getD x c d).r.cl=d.r.cl∧(getD x c d).r.sq=d.r.sq:=by
 obtain⟨xs,Cz,_⟩:=BN (x.cm (de d.l d.sp 1)) (bj 1 d fun _ r=>r);unfold getD
 repeat' split
 all_goals first
  |exact⟨rfl,rfl,rfl⟩
  |(rw[Cz];exact⟨rfl,rfl,rfl⟩)
theorem Gg(x:ra)(c:UInt8)(hc:c≠109)(d:Dn):(getD x c d).r.m=d.r.m:=by
 unfold getD
 repeat' split
 all_goals first
  |rfl
  |(rename_i h;exact qZ h hc)
theorem ep(x:PackW.Fd):[x].flatMap gh=gh x:=qc
theorem KO(x:ra)(hx:x.Ok)(c:UInt8)(hc:DD c)(d:Dn)(h:(getD x c d).sp=false)(hm:c=109→d.r.m=[]∧(getD x c d).r.m.length≤16):
 d.sp=false∧d.l=(cJ c (getD x c d).r).flatMap gh++(getD x c d).l:=by
 rcases hc with rfl|rfl|rfl|rfl|rfl|rfl|rfl|rfl|rfl
 ·rw[nB]at h⊢;obtain⟨h1,h2⟩:=tP h;rw[ez,ep];exact⟨h1,h2⟩
 ·rw[nC]at h⊢;obtain⟨h1,h2⟩:=tP h;rw[jS,ep];exact⟨h1,h2⟩
 ·rw[nD]at h⊢;obtain⟨h1,_,h2⟩:=eA h;rw[jT,ep];exact⟨h1,h2⟩
 ·rw[nE]at h⊢;obtain⟨h1,_,h2⟩:=eA h;rw[jU,ep];exact⟨h1,h2⟩
 ·rw[nF]at h⊢;obtain⟨h1,_,h2⟩:=eA h;rw[jV,ep];exact⟨h1,h2⟩
 ·rw[nG]at h⊢;obtain⟨h1,h2⟩:=tP h;rw[iU,ep];exact⟨h1,h2⟩
 ·rw[nH]at h⊢;obtain⟨h1,_,h2⟩:=eA h;rw[jW,ep];exact⟨h1,h2⟩
 ·rw[nI]at h⊢;obtain⟨h1,_,h2⟩:=eA h;rw[lx,ep];exact⟨h1,h2⟩
 ·rw[nJ]at h hm⊢;obtain⟨h1,xs,h2,h3,h4⟩:=DQ _ h;obtain⟨h5,h6,h7⟩:=eA (l:=d.l) (sp:=d.sp) (n:=1) h1;obtain⟨m1,m2⟩:=hm rfl
  have Ij:(js (x.cm (de d.l d.sp 1)) (bj 1 d fun _ r=>r)).r.m=xs:=by
   rw[h3];show d.r.m++xs=xs;rw[m1];rfl
  rw[Ij]at m2;have hlen:(xs.length:Int)=de d.l d.sp 1:=by rw[h2];exact hx.c _ h6 Y
  refine⟨h5,?_⟩;rw[nw,Ij,qU,hlen,qW,←h4];exact h7
structure Yz(x:ra)(r:Rec):Prop where
 p:(r.p.size:Int)≤x.pm
 t:(r.t.size:Int)≤x.pm
 d:(r.d.size:Int)≤x.dm
 m:r.m.length≤16
 w:Wf r
theorem OV(x:ra)(hx:x.Ok)(c:UInt8)(hc:DD c)(r:Rec)(hr:Yz x r)(hf: ∀f∈cJ c r,mH f)(o:Rec)(ho:c=109→o.m=[])(rest:List UInt8):
 getD x c ⟨(cJ c r).flatMap gh++rest,false,o⟩=⟨rest,false,cB c r o⟩:=by
 rcases hc with rfl|rfl|rfl|rfl|rfl|rfl|rfl|rfl|rfl
 ·rw[nB,Ax];rw[ez]at hf⊢;obtain⟨a,b,e⟩:=ya (hf (lY r.p) (xh ..)) hr.p rest;rw[ep];unfold px;simp only[a,b,e]
 ·rw[nC,Ay];rw[jS]at hf⊢;obtain⟨a,b,e⟩:=ya (hf (lY r.t) (xh ..)) hr.t rest;rw[ep];unfold px;simp only[a,b,e]
 ·rw[nD,Az];rw[jT]at hf⊢;obtain⟨a,b,e⟩:=fB (hf (dB r.sz 4) (xh ..)) qa hr.w.sz rest;rw[ep];unfold bj;simp only[a,b,e]
 ·rw[nE,AA];rw[jU]at hf⊢;obtain⟨a,b,e⟩:=fB (hf (dB r.h 4) (xh ..)) qa hr.w.h rest;rw[ep];unfold bj;simp only[a,b,e]
 ·rw[nF,AB];rw[jV]at hf⊢;obtain⟨a,b,e⟩:=fB (hf (dB r.o 4) (xh ..)) qa hr.w.o rest;rw[ep];unfold bj;simp only[a,b,e]
 ·rw[nG,AD];rw[iU]at hf⊢;obtain⟨a,b,e⟩:=ya (hf (lY r.d) (xh ..)) hr.d rest;rw[ep];unfold px;simp only[a,b,e]
 ·rw[nH,AE];rw[jW]at hf⊢;obtain⟨a,b,e⟩:=fB (hf (dB r.tk 8) (xh ..)) qa hr.w.tk rest;rw[ep];unfold bj;simp only[a,b,e]
 ·rw[nI,AF];rw[lx]at hf⊢;obtain⟨a,b,e⟩:=fB (hf (dB r.i 4) (xh ..)) qa hr.w.i rest;rw[ep];unfold bj;simp only[a,b,e]
 ·rw[nJ,AG];rw[nw]at hf⊢;rw[qU,qW];obtain⟨a,b,e⟩:=fB (hf (dB r.m.length 1) (xh ..)) qa (by have:=hr.m;omega) ((r.m.flatMap jm).flatMap gh++rest)
  have hn:bj 1 ⟨gh (dB r.m.length 1)++((r.m.flatMap jm).flatMap gh++rest),false,o⟩ (fun _ r=>r)=⟨(r.m.flatMap jm).flatMap gh++rest,false,o⟩:=by
   unfold bj;simp only[b,e]
  rw[hn,a];have Bq:x.cm (r.m.length:Int)=r.m.length:=by have:=hx.e r.m.length Y (by have:=hr.m;omega);omega
  rw[Bq,IB r.m (fun y hy=>⟨fun f hf'=>hf f (qV _ (List.mem_flatMap.2 ⟨y,hy,hf'⟩)),hr.w.m y hy⟩) o rest _ (Nat.le_refl _)];rw[List.drop_length,List.take_length,ho rfl];simp
theorem AK(x:ra)(hx:x.Ok): ∀(cs:List UInt8) (d:Dn),(∀c∈cs,DD c)→cs.Nodup→(cs.foldl (fun d c=>getD x c d) d).sp=false→
 (109∈cs→d.r.m=[]∧(cs.foldl (fun d c=>getD x c d) d).r.m.length≤16)→
 d.sp=false∧d.l=(cs.flatMap fun c=>cJ c (cs.foldl (fun d c=>getD x c d) d).r).flatMap gh++(cs.foldl (fun d c=>getD x c d) d).l∧
  (∀c',DD c'→c'∉cs→cJ c' (cs.foldl (fun d c=>getD x c d) d).r=cJ c' d.r)∧(109∉cs→(cs.foldl (fun d c=>getD x c d) d).r.m=d.r.m)
 |[],d,_,_,h,_=>⟨h,qc,fun _ _ _=>rfl,fun _=>rfl⟩
 |c::cs,d,hF,hN,h,hm=>by
  rw[xC]at hN;have hFc:=hF c (xh ..);rw[List.foldl_cons]at h hm⊢
  have hm':109∈cs→(getD x c d).r.m=[]∧(cs.foldl (fun d c=>getD x c d) (getD x c d)).r.m.length≤16:=fun h9=>by
   obtain⟨m1,m2⟩:=hm (qV _ h9);exact⟨by rw[Gg x c (fun e=>hN.1 (by rw[e];exact h9)) d];exact m1,m2⟩
  obtain⟨i1,i2,i3,i4⟩:=AK x hx cs (getD x c d) (fun c' hc'=>hF c' (qV _ hc')) hN.2 h hm'
  obtain⟨b1,b2⟩:=KO x hx c hFc d i1 (fun e=>by
   obtain⟨m1,m2⟩:=hm (by rw[e];exact xh ..);refine⟨m1,?_⟩;rw[i4 (by rw[←e];exact hN.1)]at m2;exact m2)
  refine⟨b1,?_,fun c' hc' hn=>?_,fun hn=>?_⟩
  ·rw[b2,i2,qU,xy,qW,i3 c hFc hN.1]
  ·rw[i3 c' hc' (fun e=>hn (qV _ e))];exact Ge x c' c hc' hFc (fun e=>hn (by rw[e];exact xh ..)) d
  ·rw[i4 (fun e=>hn (qV _ e))];exact Gg x c (fun e=>hn (by rw[e];exact xh ..)) d
theorem DR(x:ra)(hx:x.Ok)(r:Rec)(hr:Yz x r): ∀(cs:List UInt8) (o:Rec) (rest:List UInt8),(∀c∈cs,DD c)→cs.Nodup→(∀f∈cs.flatMap (fun c=>cJ c r),mH f)→(109∈cs→o.m=[])→
 cs.foldl (fun d c=>getD x c d) ⟨(cs.flatMap fun c=>cJ c r).flatMap gh++rest,false,o⟩=⟨rest,false,cs.foldl (fun o c=>cB c r o) o⟩
 |[],o,rest,_,_,_,_=>by simp
 |c::cs,o,rest,hF,hN,hf,hm=>by
  rw[xC]at hN;rw[List.foldl_cons,List.foldl_cons,qU,xy,qW];rw[OV x hx c (hF c (xh ..)) r hr (fun f h=>hf f (by rw[qU];exact List.mem_append_left _ h)) o (fun e=>hm (by rw[e];exact xh ..))];refine DR x hx r hr cs (cB c r o) rest (fun c' hc'=>hF c' (qV _ hc')) hN.2 (fun f h=>hf f (by rw[qU];exact List.mem_append_right _ h)) (fun h9=>?_);have bd:c≠109:=fun e=>hN.1 (by rw[e];exact h9)
  have:(cB c r o).m=o.m:=by
   unfold cB
   repeat' split
   all_goals first
    |rfl
    |(rename_i h;exact qZ h bd)
  rw[this];exact hm (qV _ h9)
theorem mc(k:Int)(h:1≤k∧k≤14):(fieldsOf k).data.toList.Nodup:=by
 rcases kinds k h with e|e|e|e|e|e|e|e|e|e|e|e|e|e<;>(rw[e];decide)
theorem yc(x:ra): ∀(cs:List UInt8) (d:Dn),(cs.foldl (fun d c=>getD x c d) d).r.k=d.r.k∧(cs.foldl (fun d c=>getD x c d) d).r.cl=d.r.cl∧(cs.foldl (fun d c=>getD x c d) d).r.sq=d.r.sq
 |[],d=>⟨rfl,rfl,rfl⟩
 |c::cs,d=>by
  rw[List.foldl_cons];obtain⟨h1,h2,h3⟩:=yc x cs (getD x c d);obtain⟨g1,g2,g3⟩:=Gf x c d;exact⟨h1.trans g1,h2.trans g2,h3.trans g3⟩
theorem KP(s:List UInt8)(h:(headD s).sp=false):s=(cR (headD s).r).flatMap gh++(headD s).l:=by
 unfold headD at h⊢;obtain⟨a3,_,b3⟩:=eA h;obtain⟨a2,_,b2⟩:=eA a3;obtain⟨a1,_,b1⟩:=eA a2;simp only[cR,qU,List.flatMap_nil,xg,qW];refine Eq.trans b1 ?_
 congr 1
 conv=>lhs;rw[show List.drop (Int.toNat 1) s=(bj 1 ⟨s,false,zr⟩ fun v r=>{r with k:=v}).l from rfl,b2]
 congr 1
theorem OW(r:Rec)(hw:Wf r)(hf: ∀f∈cR r,mH f)(rest:List UInt8):headD ((cR r).flatMap gh++rest)=⟨rest,false,⟨r.cl,r.sq,r.k,⟨#[]⟩,⟨#[]⟩,0,0,0,⟨#[]⟩,0,0,[]⟩⟩:=by
 have e:(cR r).flatMap gh++rest=gh (dB r.k 1)++(gh (dB r.cl 1)++(gh (dB r.sq 4)++rest)):=by simp[cR]
 rw[e];obtain⟨a1,b1,c1⟩:=fB (hf (dB r.k 1) (by simp[cR])) qa hw.k (gh (dB r.cl 1)++(gh (dB r.sq 4)++rest));obtain⟨a2,b2,c2⟩:=fB (hf (dB r.cl 1) (by simp[cR])) qa hw.cl (gh (dB r.sq 4)++rest);obtain⟨a3,b3,c3⟩:=fB (hf (dB r.sq 4) (by simp[cR])) qa hw.sq rest;unfold headD bj;simp only[a1,b1,c1,a2,b2,c2,a3,b3,c3];rfl
theorem re{r:Rec}(h:ck r=true):r.p.size≤73∧r.t.size≤73∧r.d.size≤1024∧r.m.length≤16:=by
 obtain⟨h1,h2,h3⟩:=fp h;have hk:=fk h2;have zp:=qX Rec.p h3;have zt:=qX Rec.t h3;have zd:=qX Rec.d h3;have zm:=qX Rec.m h3;have z0:(⟨#[]⟩:ByteArray).size=0:=rfl;clear h1 h3 h;rcases kinds r.k hk with e|e|e|e|e|e|e|e|e|e|e|e|e|e
 ·rw[bZ (r:=r) (by simp[e])]at h2;rw[xO r e]at zp zt zd zm;(try simp only[qF,qC]at h2)
  dsimp only at zp zt zd zm;exact⟨aL h2,by rw[zt,z0];omega,by rw[zd,z0];omega,by rw[zm];simp⟩
 ·rw[bZ (r:=r) (by simp[e])]at h2;rw[xP r e]at zp zt zd zm;(try simp only[qF,qC]at h2)
  dsimp only at zp zt zd zm;exact⟨aL h2,by rw[zt,z0];omega,by rw[zd,z0];omega,by rw[zm];simp⟩
 ·rw[bZ (r:=r) (by simp[e])]at h2;rw[xQ r e]at zp zt zd zm;(try simp only[qF,qC]at h2)
  dsimp only at zp zt zd zm;exact⟨aL h2,by rw[zt,z0];omega,by rw[zd,z0];omega,by rw[zm];simp⟩
 ·rw[fy (r:=r) (by simp[e])]at h2;rw[xR r e]at zp zt zd zm;(try simp only[qF,qC]at h2)
  dsimp only at zp zt zd zm;exact⟨aL h2.1,aL h2.2,by rw[zd,z0];omega,by rw[zm];simp⟩
 ·rw[bZ (r:=r) (by simp[e])]at h2;rw[xS r e]at zp zt zd zm;(try simp only[qF,qC]at h2)
  dsimp only at zp zt zd zm;exact⟨aL h2,by rw[zt,z0];omega,by rw[zd,z0];omega,by rw[zm];simp⟩
 ·rw[fy (r:=r) (by simp[e])]at h2;rw[xT r e]at zp zt zd zm;(try simp only[qF,qC]at h2)
  dsimp only at zp zt zd zm;exact⟨aL h2.1,aL h2.2,by rw[zd,z0];omega,by rw[zm];simp⟩
 ·rw[nv e]at h2;rw[xU r e]at zp zt zd zm;(try simp only[qF,qC]at h2)
  dsimp only at zp zt zd zm;exact⟨aL h2.1,by rw[zt,z0];omega,by rw[zd,z0];omega,by rw[zm];simp⟩
 ·rw[bZ (r:=r) (by simp[e])]at h2;rw[xV r e]at zp zt zd zm;(try simp only[qF,qC]at h2)
  dsimp only at zp zt zd zm;exact⟨aL h2,by rw[zt,z0];omega,by rw[zd,z0];omega,by rw[zm];simp⟩
 ·rw[jO e]at h2;rw[xW r e]at zp zt zd zm;(try simp only[qF,qC]at h2)
  dsimp only at zp zt zd zm;exact⟨by rw[zp,z0];omega,by rw[zt,z0];omega,by rw[zd,z0];omega,by rw[zm];simp⟩
 ·rw[jP e]at h2;rw[tH r e]at zp zt zd zm;(try simp only[qF,qC]at h2)
  dsimp only at zp zt zd zm;exact⟨by rw[zp,z0];omega,by rw[zt,z0];omega,Y,by rw[zm];simp⟩
 ·rw[fA (r:=r) (by simp[e])]at h2;rw[tI r e]at zp zt zd zm;(try simp only[qF,qC]at h2)
  dsimp only at zp zt zd zm;exact⟨by rw[zp,z0];omega,by rw[zt,z0];omega,by rw[zd,z0];omega,by rw[zm];simp⟩
 ·rw[fA (r:=r) (by simp[e])]at h2;rw[tJ r e]at zp zt zd zm;(try simp only[qF,qC]at h2)
  dsimp only at zp zt zd zm;exact⟨by rw[zp,z0];omega,by rw[zt,z0];omega,by rw[zd,z0];omega,by rw[zm];simp⟩
 ·rw[lv e]at h2;rw[tK r e]at zp zt zd zm;(try simp only[qF,qC]at h2)
  dsimp only at zp zt zd zm;exact⟨by rw[zp,z0];omega,by rw[zt,z0];omega,Y,Y⟩
 ·rw[jQ e]at h2;rw[tM r e]at zp zt zd zm;(try simp only[qF,qC]at h2)
  dsimp only at zp zt zd zm;exact⟨by rw[zp,z0];omega,by rw[zt,z0];omega,Y,by rw[zm];simp⟩
theorem TD{r:Rec}(x:ra)(hx:x.Ok)(h:ck r=true):Yz x r:=by
 obtain⟨h1,h2,h3,h4⟩:=re h;have:=hx.p;have:=hx.d;exact⟨Y,Y,Y,h4,BL h⟩
theorem TE(x:ra)(hx:x.Ok)(s:List UInt8)(r:Rec):mI (gG x s)=some r↔ck r=true∧s=(fds r).flatMap gh:=by
 constructor
 ·intro h;unfold mI at h;split at h
  ·rename_i hc;injection h with h
   subst h;obtain⟨h1,h2⟩:=hc
   have h3:(gG x s).sp=false∧(gG x s).l=[]:=by
    unfold oM at h1;split at h1
    ·cases h1
    ·rename_i hn;refine⟨by cases hs:(gG x s).sp with|true=>exact qZ (.inl hs) hn|false=>rfl,?_⟩;by_cases hl:(gG x s).l=[]
     ·exact hl
     ·exact qZ (.inr hl) hn
   have MJ:=fk (fp h2).2.1;obtain⟨k1,k2,k3⟩:=yc x (fieldsOf (headD s).r.k).data.toList (headD s);have ML:(gG x s).r.k=(headD s).r.k:=k1;rw[ML]at MJ;obtain⟨b1,b2,_,_⟩:=AK x hx _ (headD s) (iy _ MJ) (mc _ MJ) h3.1 (fun _=>⟨rfl,(re h2).2.2.2⟩);refine⟨h2,?_⟩;have hb:=KP s b1;have hh:cR (gG x s).r=cR (headD s).r:=by unfold cR;rw[ML,show(gG x s).r.cl=(headD s).r.cl from k2,show(gG x s).r.sq=(headD s).r.sq from k3]
   unfold fds;rw[xy,hh,ML]
   conv=>lhs;rw[hb,b2]
   congr 1
   have h4:(List.foldl (fun d c=>getD x c d) (headD s) (fieldsOf (headD s).r.k).data.toList).l=[]:=h3.2;rw[h4,xg];rfl
  ·cases h
 ·rintro⟨hg,rfl⟩;have bI:=uF hg;have MJ:=fk (fp hg).2.1
  have hfd:(fds r).flatMap gh=(cR r).flatMap gh++(((fieldsOf r.k).data.toList.flatMap fun c=>cJ c r).flatMap gh++[]):=by
   unfold fds;rw[xy,xg]
  have hh:=OW r (BL hg) (fun f h=>bI f (by unfold fds;exact List.mem_append_left _ h)) (((fieldsOf r.k).data.toList.flatMap fun c=>cJ c r).flatMap gh++[])
  have hd:gG x ((fds r).flatMap gh)=⟨[],false,r⟩:=by
   unfold gG;rw[hfd,hh];show(fieldsOf r.k).data.toList.foldl _ _=_;rw[DR x hx r (TD x hx hg) (fieldsOf r.k).data.toList _ [] (iy _ MJ) (mc _ MJ) (fun f h=>bI f (by unfold fds;exact List.mem_append_right _ h)) (fun _=>rfl)];have:(fieldsOf r.k).data.toList.foldl (fun o c=>cB c r o) ⟨r.cl,r.sq,r.k,⟨#[]⟩,⟨#[]⟩,0,0,0,⟨#[]⟩,0,0,[]⟩=r:=(Aw r MJ).trans (fp hg).2.2.symm;rw[this]
  rw[hd];unfold mI;rw[qH ⟨by unfold oM;simp,hg⟩]
