/- Part 44 of the texts that the law's walk needs. -/
import Derived.Test.YtimabpfjjpjfjaaGreatDoorM43
import Derived.Test.YtimabpfjjpjfjaaGreatDoorRows
import Derived.ProofKit
import Derived.LaidMore
import Derived.OpenShut
import Derived.Stop.Joined
import Derived.Lib.LaidTab
set_option maxHeartbeats 3200000
set_option maxRecDepth 100000
set_option linter.all false
open Go renaming TypeId→qu,Value→qp,World→qo
open Go.Value (int)
open Go.IntKind (i64)
namespace Go.Proofs.YtimabpfjjpjfjaaGreatDoor
open Go.Proofs.Tryz
open Go.Proofs.Tryz renaming prog→qx
namespace TopW
open Go.ChangeShapes Go.WideShapes Go.ChangeAt Go.WideElems Go.RowKit Go.Deep
open ConP
open ConW (PV da gB Gw)
open OpW (Fl fieldsOf)
open PathW (gF)
def fmD{H:Type}(x:Fm):DataW H:= .agg [.lit (.string x.w),.lit (.int .i64 x.k),.lit (.int .i64 x.c),.lit (.int .i64 x.o),.lit (.string x.fs)]
theorem Hs:(Rows.laid_escheat_console_forms:DataW Unit)= .agg (jk.map fmD):=rfl
theorem Se:(Rows.laid_internal_strconv_uint64pow10:DataW Unit)=Lib.tabData .u64 Lib.pow10Tab:=rfl
theorem Sf:prog.globalNamed "escheat/console.forms" =some 0:=qd
theorem aaW:(prog.globals[0]?).map (·.type)=some 107:=qd
theorem aeZ:prog.globalNamed "strconv.ErrSyntax" =some 3:=qd
theorem afa:prog.globalNamed "strconv.ErrRange" =some 4:=qd
theorem aiZ:(prog.globals[3]?).map (·.type)=some 142:=qd
theorem aja:(prog.globals[4]?).map (·.type)=some 142:=qd
theorem ajb:(prog.globals[1]?).map (·.type)=some 261:=qd
section
variable{enc:qu×qp→Unit}{w:qo}{base:Nat}{sp:Nat→Bool}{held:Bool}{fuel:Nat}{cs:List qp}{p:List MemPlace}
theorem Fo{t:qu}{ms:Array (String×qu)}{nm:String}{d:DataW Unit}(ht:prog.underlying t=some (.interface ms))(h:DataW.trod enc qx w base sp held fuel t cs=some (.iface nm d,p)): ∃u v,cs=[.iface u v]:=by
 cases fuel with
 |zero=>simp[DataW.trod]at h
 |succ m=>
  unfold DataW.trod at h;rw[ht]at h;split at h<;>first|exact⟨_,_,rfl⟩|simp_all
theorem Sg{s:List UInt8}(h:DataW.trod enc qx w base sp held fuel 9 cs=some (.lit (.string s),p)):cs=[.string (bs s)]:=by
 cases fuel with
 |zero=>simp[DataW.trod]at h
 |succ m=>
  unfold DataW.trod at h;rw[underlying9]at h;split at h<;>simp_all
  obtain⟨_,h1,_⟩:=h;rw[←h1];rfl
theorem Ht{n:Int}(h:DataW.trod enc qx w base sp held fuel 3 cs=some (.lit (.int .i64 n),p)):cs=[.int .i64 n]:=by
 cases fuel with
 |zero=>simp[DataW.trod]at h
 |succ m=>
  unfold DataW.trod at h;rw[underlying3]at h;split at h<;>simp_all
theorem VT{x:Fm}(h:DataW.trod enc qx w base sp held fuel 106 cs=some (fmD x,p)):cs=da x:=by
 obtain⟨xs,n,_,hx,hl,hlen,hf⟩:=DataW.trod_struct underlying106 h;have c9:prog.cellsOf 9=1:=qd;have c3:prog.cellsOf 3=1:=qd;have c5:prog.cellsOf 106=5:=qd;rw[c5]at hl
 match xs,hlen,cs,hl with
 |[y0,y1,y2,y3,y4],_,[v0,v1,v2,v3,v4],_=>
  have g0:=hf 0 _ rfl;have g1:=hf 1 _ rfl;have g2:=hf 2 _ rfl;have g3:=hf 3 _ rfl;have g4:=hf 4 _ rfl;simp[c9,c3]at g0 g1 g2 g3 g4;unfold fmD at hx;simp only[Prod.mk.injEq,List.map_cons,List.map_nil]at hx;obtain⟨hx,_⟩:=hx;injection hx with hx
  injection hx with e0 hx
  injection hx with e1 hx
  injection hx with e2 hx
  injection hx with e3 hx
  injection hx with e4 hx
  obtain⟨d0,p0⟩:=y0;obtain⟨d1,p1⟩:=y1;obtain⟨d2,p2⟩:=y2;obtain⟨d3,p3⟩:=y3;obtain⟨d4,p4⟩:=y4;simp only at e0 e1 e2 e3 e4;subst e0;subst e1;subst e2;subst e3;subst e4;have a0:=Sg g0;have a1:=Ht g1;have a2:=Ht g2;have a3:=Ht g3;have a4:=Sg g4;injection a0 with a0 _
  injection a1 with a1 _
  injection a2 with a2 _
  injection a3 with a3 _
  injection a4 with a4 _
  rw[a0,a1,a2,a3,a4];rfl
end
theorem JM{α:Type}(f:α→List qp)(n:Nat): ∀(l:List α) (cs:List qp),cs.length=l.length*n→(∀k x,l[k]? =some x→(cs.drop (k*n)).take n=f x)→cs=l.flatMap f
 |[],cs,h,_=>by simp at h;simp[h]
 |x::l,cs,h,hk=>by
  have h0:=hk 0 x rfl;rw[Nat.zero_mul,List.drop_zero]at h0
  have ih:=JM f n l (cs.drop n) (by rw[List.length_drop,h,xf,Nat.succ_mul];omega) (fun k y hy=>by
   rw[List.drop_drop,Nat.add_comm,←Nat.succ_mul];exact hk (k+1) y (by simpa using hy))
  rw[qU,←h0,←ih,List.take_append_drop]
theorem yX{w:qo}{n:String}{g:Nat}{cs:Array qp}(hg:prog.globalNamed n=some g)(h:w.var? qx n=some cs): ∃t fr,w.heap[g]? =some (.cells cs t fr):=by
 unfold World.var? at h;rw[hg]at h;simp only[Option.bind_some]at h;split at h
 ·rename_i c t fr he;injection h with h
  subst h;exact⟨t,fr,he⟩
 ·cases h
theorem afb:prog.globalNamed "unicode/utf8.acceptRanges" =some 9:=qd
theorem aam:prog.globalNamed "escheat/op.fields" =some 7:=qd
theorem aaA:(prog.globals[7]?).map (·.type)=some 429:=qd
theorem take_one{α:Type}{l:List α}{k:Nat}{v:α}(h:(l.drop k).take 1=[v]):l[k]? =some v:=by
 have h1:=qX (fun y=>y[0]?) h;simpa [List.getElem?_take,List.getElem?_drop]using h1
theorem ME{H:Type}(k:Nat)(h1:1≤k)(h2:k≤14):([.lit (.string []),.lit (.string [112]),.lit (.string [112]),.lit (.string [112]),.lit (.string [112,116]),.lit (.string [112]),.lit (.string [112,116]),.lit (.string [112,115]),.lit (.string [112]),.lit (.string [104]),.lit (.string [104,111,100]),.lit (.string [107]),.lit (.string [107]),.lit (.string [105,109,100]),.lit (.string [100,115,111])]:List (DataW H))[k]? =some (.lit (.string (fieldsOf k).data.toList)):=by
 have h:k=1∨k=2∨k=3∨k=4∨k=5∨k=6∨k=7∨k=8∨k=9∨k=10∨k=11∨k=12∨k=13∨k=14:=Y;rcases h with rfl|rfl|rfl|rfl|rfl|rfl|rfl|rfl|rfl|rfl|rfl|rfl|rfl|rfl<;>rfl
theorem Sh{W:qo}(h:laidMetH qx [("internal/strconv.uint64pow10",Rows.laid_internal_strconv_uint64pow10),("math/bits.deBruijn32tab",Rows.laid_math_bits_deBruijn32tab),("math/bits.deBruijn64tab",Rows.laid_math_bits_deBruijn64tab),("escheat/console.forms",Rows.laid_escheat_console_forms),("strconv.ErrSyntax",Rows.laid_strconv_ErrSyntax),("strconv.ErrRange",Rows.laid_strconv_ErrRange),("unicode/utf8.first",Rows.laid_unicode_utf8_first),("unicode/utf8.acceptRanges",Rows.laid_unicode_utf8_acceptRanges),("escheat/op.fields",Rows.laid_escheat_op_fields)] W):PV W∧Fl W∧10≤W.heap.size:=by
 rw[MakeChecks.laidMetH_plain _ _ _ qd]at h;obtain⟨ps,h,_,_⟩:=h;obtain⟨g2,t2,cs2,f2,p2,q2,hg2,ht2,hv2,hd2,h,_⟩:=h;obtain⟨_,_,_,_,_,_,_,_,_,_,h,_⟩:=h;obtain⟨_,_,_,_,_,_,_,_,_,_,h,_⟩:=h;obtain⟨g6,t6,cs6,f6,p6,q6,hg6,ht6,hv6,hd6,h,_⟩:=h;obtain⟨g5,t5,cs5,f5,p5,q5,hg5,ht5,hv5,hd5,h,_⟩:=h;obtain⟨g4,t4,cs4,f4,p4,q4,hg4,ht4,hv4,hd4,h,_⟩:=h;obtain⟨_,_,_,_,_,_,_,_,_,_,h,_⟩:=h;obtain⟨g9,t9,cs9,f9,p9,q9,hg9,ht9,hv9,hd9,h,_⟩:=h;obtain⟨g8,t8,cs8,f8,p8,q8,hg8,ht8,hv8,hd8,h,_⟩:=h;clear h;obtain rfl:=Option.some.inj (Gw.symm.trans hg2);obtain rfl:=Option.some.inj (ajb.symm.trans ht2)
 obtain rfl:=Option.some.inj (afa.symm.trans hg4);obtain rfl:=Option.some.inj (aja.symm.trans ht4);obtain rfl:=Option.some.inj (aeZ.symm.trans hg5);obtain rfl:=Option.some.inj (aiZ.symm.trans ht5);obtain rfl:=Option.some.inj (Sf.symm.trans hg6);obtain rfl:=Option.some.inj (aaW.symm.trans ht6);obtain rfl:=Option.some.inj (aam.symm.trans hg8);obtain rfl:=Option.some.inj (aaA.symm.trans ht8);obtain rfl:=Option.some.inj (afb.symm.trans hg9)
 have Bk: ∀{n:String} {g:Nat} {cs:Array qp} {u:qu} {v:qp},prog.globalNamed n=some g→W.var? qx n=some cs→cs.toList=[.iface u v]→W.cell? ⟨g,0,none⟩=some (.iface u v):=by
  intro n g cs u v hg hv he;obtain⟨t,fr,hh⟩:=yX hg hv;rw[qI hh];obtain⟨l⟩:=cs;simp only at he;rw[he];rfl
 have hpv:PV W:=by
  refine⟨⟨?_,?_,?_⟩,?_⟩
  ·obtain⟨u,v,he⟩:=Fo underlying142 hd5;exact⟨u,v,Bk aeZ hv5 he⟩
  ·obtain⟨u,v,he⟩:=Fo underlying142 hd4;exact⟨u,v,Bk afa hv4 he⟩
  ·rw[Se]at hd2;unfold Lib.TabIs;rw[hv2,←Lib.cells_of_tab underlying261 underlying207 qd qd hd2]
  ·obtain⟨t,fr,hh⟩:=yX Sf hv6;refine⟨t,fr,?_⟩;rw[hh]
   have e:cs6=gB:=by
    rw[Hs]at hd6;obtain⟨xs,m,rfl,hx,hlen,hn,Uh⟩:=DataW.trod_array underlying107 hd6;have c5:prog.cellsOf 106=5:=qd;have c27:prog.cellsOf 107=135:=qd;simp only[Prod.mk.injEq]at hx;have hl:=hx.1;injection hl with hl
    apply Array.toList_inj.1;refine JM da 5 jk _ (by rw[hlen,c27];rfl) (fun k x hxk=>?_);have hk27:k<27:=(xb.1 hxk).1;have hk:=Uh k hk27;rw[c5]at hk;have hf:(xs.map (·.1))[k]? =some (fmD x):=by rw[←hl,List.getElem?_map,hxk];rfl
    rw[List.getElem?_map]at hf
    cases hxx:xs[k]?with
    |none=>rw[hxx]at hf;cases hf
    |some y=>
     rw[hxx]at hf hk;simp only[Option.map_some,Option.some.injEq]at hf;obtain⟨d,q⟩:=y;simp only at hf;subst hf;exact VT hk
   rw[e]
 refine⟨hpv,?_,?_⟩;rotate_left
 ·obtain⟨t,fr,hh⟩:=yX afb hv9;have:=qK hh;omega
 obtain⟨xs,m,rfl,hx,hlen,hn,Uh⟩:=DataW.trod_array underlying429 hd8;have c9:prog.cellsOf 9=1:=qd;simp only[Prod.mk.injEq]at hx;have hl:=hx.1;unfold Rows.laid_escheat_op_fields at hl;injection hl with hl
 intro k h1 h2;have hk:=Uh k Y;rw[c9,Nat.mul_one]at hk;have hf:(xs.map (·.1))[k]? =some (.lit (.string (fieldsOf k).data.toList)):=by rw[←hl];exact ME k h1 h2
 rw[List.getElem?_map]at hf
 cases hxk:xs[k]?with
 |none=>rw[hxk]at hf;cases hf
 |some y=>
  rw[hxk]at hf hk;simp only[Option.map_some,Option.some.injEq]at hf;obtain⟨s,e1,e2,_⟩:=DataW.trod_string underlying9 hk;rw[e2]at hf;injection hf with hf
  injection hf with hf
  have hs:s=fieldsOf k:=by
   obtain⟨a⟩:=s;obtain⟨b,hb⟩: ∃b,fieldsOf k=b:=⟨_,rfl⟩;rw[hb]at hf⊢;obtain⟨b⟩:=b
   congr 1
   exact Array.toList_inj.1 hf
  rw[←hs];have:=World.var?_cell hg8 hv8 k;rw[this];have h3:=take_one e1;simpa using h3
theorem aad{H:Type}{enc:qu×qp→H}{P:Program}{w:qo}{base:Nat}{spare:Nat→Bool}{held:Bool}{r:Reach}{b0:Nat}{t e:qu}{v:qp}{d:DataW H}{p:List MemPlace}(ht:P.underlying t=some (.slice e))(hC:P.cellsOf e=1)
 (hv:Value.okWide P w r b0 t v) (h:DataW.Trod enc P w base spare held t v d p):
 ∃(oa:Option Addr) (len cap:Nat),v= .slice oa len cap∧len≤cap∧cap≤maxLen∧(oa=none→len=0∧cap=0)∧
  ∀i,i<len→ ∃a n,oa=some a∧ ∃(u:qp) (y:DataW H×List MemPlace),w.cell? (a.add i)=some u∧DataW.trod enc P w base spare held n e [u]=some y:=by
 obtain⟨oa,len,cap,rfl⟩:=okWide_slice ht hv;obtain⟨fuel,hf⟩:=h;rcases open_slice ht hf with⟨ff,_⟩|⟨a,agj,cap',m,n,D,Pl,ff,_,hl,hm,Ij,_,hi⟩
 ·simp[Value.cells]at ff;obtain⟨rfl,rfl,rfl⟩:=ff;exact⟨none,0,0,rfl,Nat.le_refl _,Nat.zero_le _,fun _=>⟨rfl,rfl⟩,fun i hi=>qZ hi (Nat.not_lt_zero _)⟩
 ·simp[Value.cells]at ff;obtain⟨rfl,rfl,rfl⟩:=ff;refine⟨some a,len,cap,rfl,hl,hm,(fun h=>by cases h),fun i VW=>?_⟩;have him:i<m:=by rw[Ij];split<;>omega
  obtain⟨cs',hc,ht'⟩:=hi i him;rw[hC]at hc;obtain⟨_,vi,je⟩:=World.cells?_some hc
  obtain⟨u,rfl⟩: ∃u,cs'=[u]:=by
   match cs',vi with
   |[u],_=>exact⟨u,rfl⟩
  have Bk:=je 0 Y;refine⟨a,n,rfl,u,_,?_,ht'⟩;rw[Nat.mul_one]at Bk;simpa [Addr.add]using Bk
theorem open_texts{H:Type}{enc:qu×qp→H}{w:qo}{base b0:Nat}{spare:Nat→Bool}{held:Bool}{r:Reach}{v:qp}{d:DataW H}{p:List MemPlace}
 (hv:Value.okWide qx w r b0 22 v) (h:DataW.Trod enc qx w base spare held 22 v d p):
 ∃(oa:Option Addr) (cap:Nat) (l:List (List UInt8)),v= .slice oa l.length cap∧(∀x∈l,x.length≤9223372036854775807)∧PathW.mN w.heap.size w oa l∧l.length≤maxLen:=by
 obtain⟨oa,len,cap,rfl,hl,hm,hn,hi⟩:=aad underlying22 qd hv h
 have key: ∀i,∃x:List UInt8,x.length≤9223372036854775807∧(i<len→ ∃a,oa=some a∧a.block<w.heap.size∧w.cell? (a.add i)=some (gF x)):=by
  intro i;by_cases VW:i<len
  ·obtain⟨a,n,ha,u,y,c,t⟩:=hi i VW;obtain⟨s,e,_,hs⟩:=DataW.trod_string underlying9 t;obtain rfl:u= .string s:=by simpa using e
   refine⟨s.data.toList,by unfold maxLen at hs;simp;omega,fun _=>⟨a,ha,?_,c⟩⟩;have:=xv _ _ c
   rwa [bA]at this
  ·exact⟨[],qc,fun h=>qZ h VW⟩
 refine⟨oa,cap,(List.range len).map (fun i=>(key i).choose),qc,?_,?_,by simp;omega⟩
 ·intro x hx;obtain⟨i,_,rfl⟩:=List.mem_map.1 hx;exact(key i).choose_spec.1
 ·intro i hi2;have h2:i<len:=by simpa using hi2
  obtain⟨a,e1,e2,e3⟩:=(key i).choose_spec.2 h2;exact⟨a,e1,e2,by rw[e3];simp⟩
theorem crash_law(oa:Option Addr)(cap:Nat)(l:List (List UInt8))(hz: ∀x∈l,x.length≤9223372036854775807)(hl:l.length≤maxLen)(s:Int)(hs:(Lit.int .u8 s).wf=true)(W:qo)(hL:laidMetH qx [("internal/strconv.uint64pow10",Rows.laid_internal_strconv_uint64pow10),("math/bits.deBruijn32tab",Rows.laid_math_bits_deBruijn32tab),("math/bits.deBruijn64tab",Rows.laid_math_bits_deBruijn64tab),("escheat/console.forms",Rows.laid_escheat_console_forms),("strconv.ErrSyntax",Rows.laid_strconv_ErrSyntax),("strconv.ErrRange",Rows.laid_strconv_ErrRange),("unicode/utf8.first",Rows.laid_unicode_utf8_first),("unicode/utf8.acceptRanges",Rows.laid_unicode_utf8_acceptRanges),("escheat/op.fields",Rows.laid_escheat_op_fields)] W)(hr:PathW.mN W.heap.size W oa l):
 Calls qx 3 #[.slice oa l.length cap,.int .u8 s] W fun e J=>e= .returned (.bool true)∧Below W.heap.size W J:=by
 obtain⟨h1,h2,h3⟩:=Sh hL;exact crash_walk oa cap l s hz hl (abO hs) W h1 h2 h3 hr
