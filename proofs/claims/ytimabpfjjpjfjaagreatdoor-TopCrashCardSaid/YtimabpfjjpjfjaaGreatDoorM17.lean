/- Part 17 of the texts that the law's walk needs. -/
import Derived.Test.YtimabpfjjpjfjaaGreatDoorM11
import Derived.Test.YtimabpfjjpjfjaaGreatDoorM16
import Derived.Lib.BufferMore
set_option maxHeartbeats 3200000
set_option maxRecDepth 100000
set_option linter.all false
open Go renaming Value→qp,World→qo,Addr→qt,Calls→qw
open Go.RowKit renaming Below→qz,Hid→qy
open Go.Obj renaming cells→qn
open Go.Value renaming slice→qh,int→U,string→qg,pointer→qi,agg→ql,bool→qk
open Go.Ending renaming returned→qm
open Go.IntKind renaming i64→Z
namespace Go.Proofs.YtimabpfjjpjfjaaGreatDoor
open Tryz
open Tryz renaming prog→qx
namespace OpW
open Go.RowKit OpP PackW
def fq:ra:=⟨4096,1024,fun n=>(min n 17).toNat⟩
theorem TF:fq.Ok:=⟨qa,qa,fun n h0 h=>by show(((min n 17).toNat:Nat):Int)=n;have:(min n 17).toNat≤16:=h;omega,fun n h0 h=>by show(((min n 17).toNat:Nat):Int)=n;omega⟩
structure cC(B b ob:Nat)(d:Dn)(v:qp)(w0 w:qo):Prop where
 un:pd b d.l d.sp w
 bx:nu w ob d.r v
 row:RowK 405 zz 4 B w v d.r.m
 low:qz B w0 w
 ne:b≠ob
 hb:B≤b
 ho:B≤ob
theorem Gh{w:qo}{B:Nat}{e T:TypeId}{v:qp}{size n:Nat}{xs:List qp}{b:Nat}{cs:Array qp}{fr:Nat×Nat}(aT:w.ownsRow B e size v n xs)(hb:w.heap[b]? =some (qn cs T fr))(hTe:T≠e):v.ownBlock≠some b:=by
 rcases aT.2 with⟨rfl,_⟩|⟨g,cap,cur,rfl,_,hg,_⟩
 ·simp[Value.ownBlock]
 ·intro h;simp only[Value.ownBlock,Option.some.injEq]at h;subst h;rw[hg]at hb;simp only[Option.some.injEq,Obj.cells.injEq]at hb;exact hTe hb.2.1.symm
theorem BO(d:Option Tmp){P:Program}{o:Oper}{a:Act}{K:Act→qo→Prop}{Q:Exit→Act→qo→Prop}(hd:o.dst=d)(s x:Operand)(t:TypeId)
 (ho:o.op= .call {callee:= .builtin .append,args:=#[s,x],argTypes:=#[t,t]})
 (base:Nat) (e:TypeId) (i:TypeInfo) (z:qp) (size bytes:Nat) (ht:P.underlying t=some (.slice e)) (hi:P.info? e=some i) (hz:i.zero=some z)
 (iq:i.size=size) (CA:i.bytes=bytes) (FD:z.cells.size=size) (dY:0<size)
 (W:qo) (v:qp) (n:Nat) (xs:List qp) (hs:a.eval s=v) (aT:W.ownsRow base e size v n xs)
 (ad:qt) (m c:Nat) (news:List qp) (hx:a.eval x=qh (some ad) m c)
 (hl:news.length=m*size) (ji: ∀j u,news[j]? =some u→W.cell? (ad.add j)=some u) (h1: ∀u∈news,u.oneCell'=true)
 (h63:n+m≤maxLen) (fh:(n+m)*bytes≤140737488355328) (ir:base≤W.heap.size)
 (h: ∀oa' cap' J,J.ownsRow base e size (qh oa' (n+m) cap') (n+m) (xs++news)→W.grownBy J v.ownBlock→((Value.slice oa' (n+m) cap').ownBlock=v.ownBlock∨(Value.slice oa' (n+m) cap').ownBlock=some W.heap.size)→K (a.put d (qh oa' (n+m) cap')) J):o.wp P a W K Q:=by
 subst hd;obtain⟨v',J,hr,h2,h3,_,h5⟩:=run_append_own_at (P:=P) W base t o.type e i z size bytes ht hi hz iq CA FD dY v n xs aT ad m c news hl ji h1 h63 fh ir;obtain⟨oa',cap',rfl⟩:=fg h2;unfold Oper.wp execOp;simp only[ho,resolve,invoke,builtin,Sem.run_bind,Sem.run_pure,Result.andThen_ok,List.map_toArray,List.map_cons,List.map_nil,hs,hx,hr];exact h oa' cap' J h2 h3 h5
theorem sl(d:Option Tmp){P:Program}{o:Oper}{a:Act}{w:qo}{K:Act→qo→Prop}{Q:Exit→Act→qo→Prop}{f:FuncId}{args:Array qp}{v:qp}{Post:qo→Prop}(hd:o.dst=d)(hr:(execOp a.eval o).run P w= .ok (.enter f args) w)
 (hc:qw P f args w (fun e J=>e=qm v∧Post J)) (h: ∀J,Post J→K (a.put d v) J):o.wp P a w K Q:=by
 subst hd;unfold Oper.wp;rw[hr];refine hc.mono ?_;rintro e J⟨rfl,hp⟩;exact h J hp
theorem kM{P:Program}{f:FuncId}{args:Array qp}{w:qo}{x y:Int}{Post:qo→Prop}(h:x=y)(hc:qw P f args w (fun e J=>e=qm (U Z y)∧Post J)):qw P f args w (fun e J=>e=qm (U Z x)∧Post J):=by rw[h];exact hc
theorem DS(l:List UInt8)(sp:Bool)(n:Int):0≤de l sp n:=by
 unfold de
 cases gu l sp n with
 |none=>exact Int.le_refl _
 |some v=>exact Int.natCast_nonneg _
theorem cC.fO{B b ob:Nat}{d:Dn}{v:qp}{w0 w:qo}(h:cC B b ob d v w0 w):v.ownBlock≠some b∧v.ownBlock≠some ob:=by
 obtain⟨s,h1,_⟩:=h.un;exact⟨Gh h.row h1 qa,Gh h.row h.bx qa⟩
theorem cC.num{B b ob:Nat}{d:Dn}{v:qp}{w0 w w1:qo}(h:cC B b ob d v w0 w){l:List UInt8}{sp:Bool}(hu:pd b l sp w1)(k:ax b w w1):cC B b ob ⟨l,sp,d.r⟩ v w0 w1:=
 ⟨hu,k.heap h.bx (Ne.symm h.ne),k.iB h.row h.fO.1,h.low.trans (k.below h.hb (by have:=qK h.bx;have:=h.ho;omega)),h.ne,h.hb,h.ho⟩
theorem cC.set{B b ob:Nat}{d:Dn}{v:qp}{w0 w:qo}(h:cC B b ob d v w0 w)(j:Nat)(u:qp)(r:Rec)(hc:(#[U Z d.r.cl,U Z d.r.sq,U Z d.r.k,qg d.r.p,qg d.r.t,U Z d.r.sz,U Z d.r.h,U Z d.r.o,qg d.r.d,U Z d.r.tk,U Z d.r.i,v]:Array qp).setIfInBounds j u=#[U Z r.cl,U Z r.sq,U Z r.k,qg r.p,qg r.t,U Z r.sz,U Z r.h,U Z r.o,qg r.d,U Z r.tk,U Z r.i,v])(hm:r.m=d.r.m):cC B b ob ⟨d.l,d.sp,r⟩ v w0 (w.setCell ⟨ob,j,none⟩ u):=by
 have hk:ax ob w (w.setCell ⟨ob,j,none⟩ u):=(ax.refl _ _).setCell j u;refine⟨h.un.vY hk h.ne,gO h.bx hc,?_,h.low.setCell (p:=⟨ob,j,none⟩) h.ho _,h.ne,h.hb,h.ho⟩;show RowK _ _ _ _ _ _ r.m;rw[hm];exact hk.iB h.row h.fO.2
theorem cC.drew{B b ob:Nat}{d:Dn}{v:qp}{w0 w:qo}(h:cC B b ob d v w0 w):cC B b ob d v w0 w.drew:=by
 obtain⟨s,h1,h2⟩:=h.un;exact⟨⟨s,h1,h2⟩,h.bx,h.row,h.low.drew,h.ne,h.hb,h.ho⟩
def iG(B b ob:Nat)(d:Dn)(w0:qo)(e:Ending)(J:qo):Prop:=e=qm (.tuple #[])∧ ∃v,cC B b ob d v w0 J
theorem TG(B b ob:Nat)(d:Dn)(v:qp)(w0 w:qo)(h:cC B b ob d v w0 w):
 qw qx 365 #[qi (some ⟨b,0,none⟩),.int .u8 112,qi (some ⟨ob,0,none⟩)] w (iG B b ob (getD fq 112 d) w0):=by
 rw[nB];have H:=Hd h;clear h;go_enter func365,ntmps365;go_wp2_with(go_at_call 403;refine(vZ b d.l d.sp 4096 _ H.o.un).mono ?_;rintro e w1 ⟨rfl,hu,ho⟩;have HD:=Hd (H.o.num hu ho);have hx:=HD.o.bx;have fj:=hx.free 3;obtain⟨d0,d1,d2,d3,d4,d5,d6,d7,d8,d9,d10,d11⟩:=hx.cells;clear hu ho hx d0 d1 d2 d4 d5 d6 d7 d8 d9 d10 d11)
 go_end0
 exact⟨rfl,v,HD.o.set 3 _ {d.r with p:=gv d.l d.sp 4096} (by rfl) rfl⟩
theorem TH(B b ob:Nat)(d:Dn)(v:qp)(w0 w:qo)(h:cC B b ob d v w0 w):
 qw qx 365 #[qi (some ⟨b,0,none⟩),.int .u8 116,qi (some ⟨ob,0,none⟩)] w (iG B b ob (getD fq 116 d) w0):=by
 rw[nC];have H:=Hd h;clear h;go_enter func365,ntmps365;go_wp2_with(go_at_call 403;refine(vZ b d.l d.sp 4096 _ H.o.un).mono ?_;rintro e w1 ⟨rfl,hu,ho⟩;have HD:=Hd (H.o.num hu ho);have hx:=HD.o.bx;have fj:=hx.free 4;obtain⟨d0,d1,d2,d3,d4,d5,d6,d7,d8,d9,d10,d11⟩:=hx.cells;clear hu ho hx d0 d1 d2 d3 d5 d6 d7 d8 d9 d10 d11)
 go_end0
 exact⟨rfl,v,HD.o.set 4 _ {d.r with t:=gv d.l d.sp 4096} (by rfl) rfl⟩
theorem TI(B b ob:Nat)(d:Dn)(v:qp)(w0 w:qo)(h:cC B b ob d v w0 w):
 qw qx 365 #[qi (some ⟨b,0,none⟩),.int .u8 100,qi (some ⟨ob,0,none⟩)] w (iG B b ob (getD fq 100 d) w0):=by
 rw[nG];have H:=Hd h;clear h;go_enter func365,ntmps365;go_wp2_with(go_at_call 403;refine(vZ b d.l d.sp 1024 _ H.o.un).mono ?_;rintro e w1 ⟨rfl,hu,ho⟩;have HD:=Hd (H.o.num hu ho);have hx:=HD.o.bx;have fj:=hx.free 8;obtain⟨d0,d1,d2,d3,d4,d5,d6,d7,d8,d9,d10,d11⟩:=hx.cells;clear hu ho hx d0 d1 d2 d3 d4 d5 d6 d7 d9 d10 d11)
 go_end0
 exact⟨rfl,v,HD.o.set 8 _ {d.r with d:=gv d.l d.sp 1024} (by rfl) rfl⟩
theorem TJ(B b ob:Nat)(d:Dn)(v:qp)(w0 w:qo)(h:cC B b ob d v w0 w):
 qw qx 365 #[qi (some ⟨b,0,none⟩),.int .u8 107,qi (some ⟨ob,0,none⟩)] w (iG B b ob (getD fq 107 d) w0):=by
 rw[nH];have H:=Hd h;clear h;go_enter func365,ntmps365;go_wp2_with(go_at_call 364;refine(cw b d.l d.sp 8 _ H.o.un).mono ?_;rintro e w1 ⟨rfl,hu,ho,_⟩;have HD:=Hd (H.o.num hu ho);have hx:=HD.o.bx;have fj:=hx.free 9;obtain⟨d0,d1,d2,d3,d4,d5,d6,d7,d8,d9,d10,d11⟩:=hx.cells;clear hu ho hx d0 d1 d2 d3 d4 d5 d6 d7 d8 d10 d11)
 go_end0
 exact⟨rfl,v,HD.o.set 9 _ {d.r with tk:=de d.l d.sp 8} (by rfl) rfl⟩
theorem TK(B b ob:Nat)(d:Dn)(v:qp)(w0 w:qo)(h:cC B b ob d v w0 w):
 qw qx 365 #[qi (some ⟨b,0,none⟩),.int .u8 115,qi (some ⟨ob,0,none⟩)] w (iG B b ob (getD fq 115 d) w0):=by
 rw[nD];have H:=Hd h;clear h;go_enter func365,ntmps365;go_wp2_with(go_at_call 364;refine(cw b d.l d.sp 4 _ H.o.un).mono ?_;rintro e w1 ⟨rfl,hu,ho,_⟩;have HD:=Hd (H.o.num hu ho);have hx:=HD.o.bx;have fj:=hx.free 5;obtain⟨d0,d1,d2,d3,d4,d5,d6,d7,d8,d9,d10,d11⟩:=hx.cells;clear hu ho hx d0 d1 d2 d3 d4 d6 d7 d8 d9 d10 d11)
 go_end0
 exact⟨rfl,v,HD.o.set 5 _ {d.r with sz:=de d.l d.sp 4} (by rfl) rfl⟩
theorem TL(B b ob:Nat)(d:Dn)(v:qp)(w0 w:qo)(h:cC B b ob d v w0 w):
 qw qx 365 #[qi (some ⟨b,0,none⟩),.int .u8 104,qi (some ⟨ob,0,none⟩)] w (iG B b ob (getD fq 104 d) w0):=by
 rw[nE];have H:=Hd h;clear h;go_enter func365,ntmps365;go_wp2_with(go_at_call 364;refine(cw b d.l d.sp 4 _ H.o.un).mono ?_;rintro e w1 ⟨rfl,hu,ho,_⟩;have HD:=Hd (H.o.num hu ho);have hx:=HD.o.bx;have fj:=hx.free 6;obtain⟨d0,d1,d2,d3,d4,d5,d6,d7,d8,d9,d10,d11⟩:=hx.cells;clear hu ho hx d0 d1 d2 d3 d4 d5 d7 d8 d9 d10 d11)
 go_end0
 exact⟨rfl,v,HD.o.set 6 _ {d.r with h:=de d.l d.sp 4} (by rfl) rfl⟩
theorem TM(B b ob:Nat)(d:Dn)(v:qp)(w0 w:qo)(h:cC B b ob d v w0 w):
 qw qx 365 #[qi (some ⟨b,0,none⟩),.int .u8 111,qi (some ⟨ob,0,none⟩)] w (iG B b ob (getD fq 111 d) w0):=by
 rw[nF];have H:=Hd h;clear h;go_enter func365,ntmps365;go_wp2_with(go_at_call 364;refine(cw b d.l d.sp 4 _ H.o.un).mono ?_;rintro e w1 ⟨rfl,hu,ho,_⟩;have HD:=Hd (H.o.num hu ho);have hx:=HD.o.bx;have fj:=hx.free 7;obtain⟨d0,d1,d2,d3,d4,d5,d6,d7,d8,d9,d10,d11⟩:=hx.cells;clear hu ho hx d0 d1 d2 d3 d4 d5 d6 d8 d9 d10 d11)
 go_end0
 exact⟨rfl,v,HD.o.set 7 _ {d.r with o:=de d.l d.sp 4} (by rfl) rfl⟩
theorem TN(B b ob:Nat)(d:Dn)(v:qp)(w0 w:qo)(h:cC B b ob d v w0 w):
 qw qx 365 #[qi (some ⟨b,0,none⟩),.int .u8 105,qi (some ⟨ob,0,none⟩)] w (iG B b ob (getD fq 105 d) w0):=by
 rw[nI];have H:=Hd h;clear h;go_enter func365,ntmps365;go_wp2_with(go_at_call 364;refine(cw b d.l d.sp 4 _ H.o.un).mono ?_;rintro e w1 ⟨rfl,hu,ho,_⟩;have HD:=Hd (H.o.num hu ho);have hx:=HD.o.bx;have fj:=hx.free 10;obtain⟨d0,d1,d2,d3,d4,d5,d6,d7,d8,d9,d10,d11⟩:=hx.cells;clear hu ho hx d0 d1 d2 d3 d4 d5 d6 d7 d8 d9 d11)
 go_end0
 exact⟨rfl,v,HD.o.set 10 _ {d.r with i:=de d.l d.sp 4} (by rfl) rfl⟩
theorem OX(x:Mv): ∀u∈zz x,u.oneCell'=true:=by
 intro u hu;simp[zz]at hu;rcases hu with rfl|rfl|rfl|rfl<;>rfl
theorem TO(B b ob:Nat)(d:Dn)(v:qp)(w0 w:qo)(h:cC B b ob d v w0 w)(hm:d.r.m=[]):
 qw qx 365 #[qi (some ⟨b,0,none⟩),.int .u8 109,qi (some ⟨ob,0,none⟩)] w (iG B b ob (getD fq 109 d) w0):=by
 rw[nJ];obtain⟨i0,hi,hz0,hz1,hz2⟩:=info_parts Ym;have H:=Hd h;obtain⟨C,hC⟩: ∃C:Nat,min (de d.l d.sp 1) 17=(C:Int):=⟨(min (de d.l d.sp 1) 17).toNat,by have:=DS d.l d.sp 1;omega⟩;have akD:C≤17:=Y;have HCM:qy (fq.cm (de d.l d.sp 1)=C):=Hd (by show(min (de d.l d.sp 1) 17).toNat=C;omega);have Wq:=Hd hm;clear h hm;go_enter func365,ntmps365;go_wp2_with(go_at_call 364;refine(cw b d.l d.sp 1 _ H.o.un).mono ?_;rintro e w1 ⟨rfl,hu,ho,_⟩;have HD:=Hd (H.o.num hu ho);clear hu ho)
 clear hC
 go_loopw [40] (fun i wr=> ∃(k:Nat) (v':qp),k≤C∧i=U Z (k:Int)∧cC B b ob (js k (bj 1 d fun _ r=>r)) v' w0 wr) (fun i _=>((C:Int)-intOf i).toNat)
 case atStart=>exact⟨0,v,Y,rfl,HD.o⟩
 case round=>
  obtain⟨k,v',hk,rfl,YA⟩:=hrel;by_cases aN:k<C
  ·have hk0:(0:Int)≤(k:Int):=by omega
   have vN:(k:Int)<(C:Int):=Y
   have HML:qy ((js k (bj 1 d fun _ r=>r)).r.m.length=k):=Hd (by
    obtain⟨xs,h1,h2⟩:=BN k (bj 1 d fun _ r=>r);rw[h1];show(d.r.m++xs).length=k;rw[Wq.o];simpa using h2)
   obtain⟨oz,cz,rfl,_,_,_⟩:=YA.row.form;have HMS:qy (js (k+1) (bj 1 d fun _ r=>r)=Fp (js k (bj 1 d fun _ r=>r))):=Hd rfl;generalize js k (bj 1 d fun _ r=>r)=dk at*;rw[HML.o]at YA;have HA:=Hd YA;have au:qy (wr.drew.cell? ⟨ob,11,none⟩=some (qh oz k cz)):=Hd YA.bx.cells.2.2.2.2.2.2.2.2.2.2.2;obtain⟨x1,hx1⟩: ∃x,x=de dk.l dk.sp 2:=⟨_,rfl⟩;obtain⟨x2,hx2⟩: ∃x,x=de (bj 2 dk fun _ r=>r).l (bj 2 dk fun _ r=>r).sp 2:=⟨_,rfl⟩;obtain⟨x3,hx3⟩: ∃x,x=de (bj 2 (bj 2 dk fun _ r=>r) fun _ r=>r).l (bj 2 (bj 2 dk fun _ r=>r) fun _ r=>r).sp 2:=⟨_,rfl⟩
   obtain⟨x4,hx4⟩: ∃x,x=de (bj 2 (bj 2 (bj 2 dk fun _ r=>r) fun _ r=>r) fun _ r=>r).l (bj 2 (bj 2 (bj 2 dk fun _ r=>r) fun _ r=>r) fun _ r=>r).sp 2:=⟨_,rfl⟩;have kh:=Hd hx1;have aF:=Hd hx2;have jn:=Hd hx3;have jA:=Hd hx4;clear hx1 hx2 hx3 hx4 YA;go_wp2_with fail
   refine aB 18 19 (fun J=>J.cell? ⟨ob,11,none⟩=some (qh oz k cz)) qd rfl ?_;refine tL 0 42 ?_ au.o ?_ (tL 1 43 ?_ au.o ?_ (tL 2 44 ?_ au.o ?_ (tL 3 45 ?_ au.o ?_ (tL 4 46 ?_ au.o ?_ (tL 5 47 ?_ au.o ?_ (tL 7 49 ?_ au.o ?_ (tL 9 51 ?_ au.o ?_ (tL 11 53 ?_ au.o ?_ ?_))))))))
   iterate 9
    rotate_left
    ·intro wq hq;have g0:=hq;exact bJ
   simp only[pS,aS,sZ,sS];refine ay 6 qd rfl rfl (sl (some 48) (v:=U Z x1) rfl qf (kM kh.o (cw b dk.l dk.sp 2 _ HA.o.drew.un)) ?_);rintro w1⟨hu,ho,_⟩;have BP:qy (cC B b ob (bj 2 dk fun _ r=>r) (qh oz k cz) w0 w1):=Hd (HA.o.drew.num hu ho);have dZ:qy (w1.cell? ⟨ob,11,none⟩=some (qh oz k cz)):=Hd BP.o.bx.cells.2.2.2.2.2.2.2.2.2.2.2;clear hu ho;refine⟨fun _=>dZ.o,?_⟩;simp only[pS,aS,sZ,sS];refine ay 8 qd rfl rfl (sl (some 50) (v:=U Z x2) rfl qf (kM aF.o (cw b (bj 2 dk fun _ r=>r).l (bj 2 dk fun _ r=>r).sp 2 _ BP.o.un)) ?_);rintro w2⟨hu,ho,_⟩
   have mC:qy (cC B b ob (bj 2 (bj 2 dk fun _ r=>r) fun _ r=>r) (qh oz k cz) w0 w2):=Hd (BP.o.num hu ho);have cX:qy (w2.cell? ⟨ob,11,none⟩=some (qh oz k cz)):=Hd mC.o.bx.cells.2.2.2.2.2.2.2.2.2.2.2;clear hu ho;refine⟨fun _=>cX.o,?_⟩;simp only[pS,aS,sZ,sS];refine ay 10 qd rfl rfl (sl (some 52) (v:=U Z x3) rfl qf (kM jn.o (cw b (bj 2 (bj 2 dk fun _ r=>r) fun _ r=>r).l (bj 2 (bj 2 dk fun _ r=>r) fun _ r=>r).sp 2 _ mC.o.un)) ?_);rintro w3⟨hu,ho,_⟩;have fY:qy (cC B b ob (bj 2 (bj 2 (bj 2 dk fun _ r=>r) fun _ r=>r) fun _ r=>r) (qh oz k cz) w0 w3):=Hd (mC.o.num hu ho)
   have eP:qy (w3.cell? ⟨ob,11,none⟩=some (qh oz k cz)):=Hd fY.o.bx.cells.2.2.2.2.2.2.2.2.2.2.2;clear hu ho;refine⟨fun _=>eP.o,?_⟩;simp only[pS,aS,sZ,sS];refine ay 12 qd rfl rfl (sl (some 54) (v:=U Z x4) rfl qf (kM jA.o (cw b (bj 2 (bj 2 (bj 2 dk fun _ r=>r) fun _ r=>r) fun _ r=>r).l (bj 2 (bj 2 (bj 2 dk fun _ r=>r) fun _ r=>r) fun _ r=>r).sp 2 _ fY.o.un)) ?_);rintro w4⟨hu,ho,_⟩;have eM:qy (cC B b ob (bj 2 (bj 2 (bj 2 (bj 2 dk fun _ r=>r) fun _ r=>r) fun _ r=>r) fun _ r=>r) (qh oz k cz) w0 w4):=Hd (fY.o.num hu ho)
   have cA:qy (w4.cell? ⟨ob,11,none⟩=some (qh oz k cz)):=Hd eM.o.bx.cells.2.2.2.2.2.2.2.2.2.2.2;clear hu ho;refine⟨fun _=>cA.o,?_⟩;simp only[pS,aS,sZ,sS];refine tL 13 55 ?_ cA.o ?_ ?_;rotate_left
   ·intro wq hq;have g0:=hq;exact bJ
   simp only[pS,aS,sZ,sS];have br:=Hd (aA (o:=qn #[U Z x1,U Z x2,U Z x3,U Z x4] 405) cA.o)
   have ei:qy ((w4.alloc (qn #[U Z x1,U Z x2,U Z x3,U Z x4] 405)).ownsRow B 405 4 (qh oz k cz) k (dk.r.m.flatMap zz)):=Hd (by
    have q:=eM.o.row.grow (aa w4 (qn #[U Z x1,U Z x2,U Z x3,U Z x4] 405));unfold RowK at q
    rwa [show(bj 2 (bj 2 (bj 2 (bj 2 dk fun _ r=>r) fun _ r=>r) fun _ r=>r) fun _ r=>r).r.m.length=k from HML.o]at q)
   refine ay 14 qd rfl rfl (aw (some 56) (v:=qh (some ⟨w4.heap.size,0,none⟩) 1 1) (J:=w4.alloc (qn #[U Z x1,U Z x2,U Z x3,U Z x4] 405)) rfl qf ⟨fun _=>br.o,?_⟩);simp only[pS,aS,sZ,sS];refine ay 15 qd rfl rfl (BO (some 57) rfl _ _ 59 rfl B 405 i0 (ql #[U Z 0,U Z 0,U Z 0,U Z 0]) 4 32 underlying59 hi hz0 hz1 hz2 rfl qa _ (qh oz k cz) k (dk.r.m.flatMap zz) rfl ei.o ⟨w4.heap.size,0,none⟩ 1 1 (zz ⟨x1,x2,x3,x4⟩) rfl rfl (World.news_of_block (qA w4 _)) (OX _) (by unfold maxLen;omega) Y (by rw[bn];have h1:=qK eM.o.bx;have h2:=eM.o.ho;omega) ?_);intro oa5 kF w5 bT hg5 hv5
   have AL:b<w4.heap.size:=eM.o.un.lt;have Sk:ob<w4.heap.size:=qK eM.o.bx;have ho4:(w4.alloc (qn #[U Z x1,U Z x2,U Z x3,U Z x4] 405)).heap[ob]? =w4.heap[ob]? :=xm _ _ Sk;have eV:qy (nu w5 ob dk.r (qh oz k cz)):=Hd ((hg5.block ob (by rw[bn];omega) (fun e=>eM.o.fO.2 e.symm)).trans (ho4.trans eM.o.bx))
   have TP:qy (pd b (Fp dk).l (Fp dk).sp w5):=Hd (by
    obtain⟨s,h1,h2⟩:=eM.o.un;exact⟨s,(hg5.block b (by rw[bn];omega) (fun e=>eM.o.fO.1 e.symm)).trans ((xm _ _ AL).trans h1),h2⟩)
   have dT:qy (w5.cell? ⟨ob,11,none⟩=some (qh oz k cz)):=Hd eV.o.cells.2.2.2.2.2.2.2.2.2.2.2;have MG:=Hd (eu hg5 ei.o (by rw[bn];have h2:=eM.o.ho;omega));have kS:=Hd bT;clear bT hg5 hv5 ho4;refine⟨fun _=>dT.o,?_⟩;simp only[pS,aS,sZ,sS];refine ay 16 qd rfl rfl (aw (some 58) (v:=qi (some ⟨ob,0,none⟩)) (J:=w5) rfl qf ⟨fun _=>dT.o,?_⟩);simp only[pS,aS,sZ,sS];refine ay 17 qd rfl rfl (aw (some 59) (v:=qi (some ⟨ob,11,none⟩)) (J:=w5) rfl qf ⟨fun _=>dT.o,?_⟩);simp only[pS,aS,sZ,sS];have g6:=dT.o;have f6:w5.frozen? ⟨ob,11,none⟩=false:=eV.o.free 11
   refine ay 18 qd rfl rfl (bm none (J:=w5.setCell ⟨ob,11,none⟩ (qh oa5 (k+1) kF)) rfl qf ⟨fun h=>qZ rfl h,?_⟩);simp only[Act.put];refine aU qd ?_
   have Yx:qy (cC B b ob (Fp dk) (qh oa5 (k+1) kF) w0 (w5.setCell ⟨ob,11,none⟩ (qh oa5 (k+1) kF))):=Hd (by
    have hk:ax ob w5 (w5.setCell ⟨ob,11,none⟩ (qh oa5 (k+1) kF)):=(ax.refl _ _).setCell 11 _;have hx:(Fp dk).r={dk.r with m:=dk.r.m++[⟨x1,x2,x3,x4⟩]}:=by rw[kh.o,aF.o,jn.o,jA.o];rfl
    have bd:=eM.o;refine⟨TP.o.vY hk bd.ne,?_,?_,?_,bd.ne,bd.hb,bd.ho⟩
    ·rw[hx];exact gO eV.o (by rfl)
    ·rw[hx]
     have aW:RowK 405 zz 4 B w5 (qh oa5 (k+1) kF) (dk.r.m++[⟨x1,x2,x3,x4⟩]):=by
      unfold RowK;rw[qY,HML.o,xy,List.flatMap_singleton];exact kS.o
     exact hk.iB aW (Gh aW eV.o qa)
    ·exact((bd.low.trans ((aa w4 _).mono (by have h2:=bd.ho;omega))).trans MG.o).setCell (p:=⟨ob,11,none⟩) bd.ho _)
   clear g6 f6 AL Sk;go_wp2_with fail
   exact⟨⟨k+1,_,Y,qc,by rw[HMS.o];exact Yx.o⟩,by simp[intOf];omega⟩
  ·have hk1: ¬((k:Int)<(C:Int)):=by omega
   obtain rfl:k=C:=Y;have HA:=Hd YA;clear YA;go_wp2_with fail
   go_end0
   exact⟨rfl,v',by rw[HCM.o];exact HA.o⟩
theorem oe(c:UInt8)(hc:DD c)(B b ob:Nat)(d:Dn)(v:qp)(w0 w:qo)(h:cC B b ob d v w0 w)(hm:c=109→d.r.m=[]):
 qw qx 365 #[qi (some ⟨b,0,none⟩),.int .u8 c.toNat,qi (some ⟨ob,0,none⟩)] w (iG B b ob (getD fq c d) w0):=by
 rcases hc with rfl|rfl|rfl|rfl|rfl|rfl|rfl|rfl|rfl
 ·exact TG B b ob d v w0 w h
 ·exact TH B b ob d v w0 w h
 ·exact TK B b ob d v w0 w h
 ·exact TL B b ob d v w0 w h
 ·exact TM B b ob d v w0 w h
 ·exact TI B b ob d v w0 w h
 ·exact TJ B b ob d v w0 w h
 ·exact TN B b ob d v w0 w h
 ·exact TO B b ob d v w0 w h (hm rfl)
end OpW
namespace OpW
open Go.RowKit OpP
theorem YB(m:Mv)(d:ByteArray)(hd:d.size≤1000000)(b:Nat)(w:qo)(hc:w.cell? ⟨b,8,none⟩=some (qg d)):
 qw qx 305 #[ql #[U Z m.a,U Z m.f,U Z m.n,U Z m.t],qi (some ⟨b,0,none⟩)] w fun e J=>e=qm (qk (!(FX d.size m)))∧qz w.heap.size w J:=by
 have HF:qy (FX d.size m=decide (0≤m.a∧m.a≤16383∧0≤m.f∧m.f≤1024∧1≤m.n∧m.n≤1024∧0≤m.t∧m.t≤(d.size:Int)-m.n)):=Hd rfl;have H0:=Hd (aa w (qn #[U Z m.a,U Z m.f,U Z m.n,U Z m.t] 405));have aN:=xv _ _ hc;go_enter func305,ntmps305;go_wp2_with(go_at_call 237;refine(fo _ _ _ _).mono ?_;rintro e w2 ⟨rfl,rfl⟩)
 all_goals go_ret
 all_goals refine⟨aH ?_,H0.o⟩
 all_goals rw[HF.o,Bool.eq_iff_iff]
 all_goals simp
 all_goals omega
theorem AM(m:Mv)(d:ByteArray)(x:Bool)(hx:FX d.size m=x)(hd:d.size≤1000000)(b:Nat)(w:qo)(hc:w.cell? ⟨b,8,none⟩=some (qg d)):
 qw qx 305 #[ql #[U Z m.a,U Z m.f,U Z m.n,U Z m.t],qi (some ⟨b,0,none⟩)] w fun e J=>e=qm (qk (!x))∧qz w.heap.size w J:=by
 rw[←hx];exact YB m d hd b w hc
def Found(P:Bool)(e:Ending):Prop:= ∃i:Int,e=qm (U Z i)∧decide (0≤i)=P
theorem pP(oa:Option qt)(n cap:Nat)(l:List Mv)(hn:n=l.length)(hl:l.length≤1000000)(d:ByteArray)(hd:d.size≤1000000)(b:Nat)(w:qo)(h:eW w oa l)(hc:w.cell? ⟨b,8,none⟩=some (qg d)):
 qw qx 355 #[qh oa n cap,.func (.func 305) #[] #[qi (some ⟨b,0,none⟩)]] w fun e J=>Found (!(l.all (FX d.size))) e∧qz w.heap.size w J:=by
 subst hn;have HM:=Hd h;have HC:=Hd hc;clear h hc;go_enter func355,ntmps355;go_wp2_with fail
 go_loopw [8] (fun i wr=> ∃k:Nat,k≤l.length∧i=U Z (k:Int)∧(l.take k).all (FX d.size)=true∧qz w.heap.size w wr) (fun i _=>((l.length:Int)-intOf i).toNat)
 case atStart=>exact⟨0,Y,rfl,rfl,Below.refl _ _⟩
 case round=>
  obtain⟨k,hk,rfl,mR,dz⟩:=hrel;have HB:=Hd dz;have HA:=Hd mR;clear dz mR;by_cases aN:k<l.length
  ·obtain⟨x,hx⟩: ∃x,l[k]? =some x:=⟨_,qN aN⟩;obtain⟨a,rfl,oW,c0,c1,c2,c3⟩:=xN (HM.o.grow HB.o) hx;have IC:=Hd (ah HB.o HC.o);have hk0:(0:Int)≤(k:Int):=Y;have vN:(k:Int)<(l.length:Int):=Y;have HX:=Hd hx;clear hx
   cases hm:FX d.size x with
   |true=>
    have HT:qy ((l.take (k+1)).all (FX d.size)=true):=Hd (by rw[xA,HX.o,List.all_append,HA.o];simp[hm]);have Te:=Hd hm;clear hm;go_wp2_with(go_at_call 305;refine(AM x d true Te.o hd b _ IC.o).mono ?_;rintro e w1 ⟨rfl,hb1⟩;have cq:=Hd hb1;clear hb1)
    exact⟨⟨k+1,Y,qc,HT.o,HB.o.trans (cq.o.mono HB.o.size)⟩,by simp[intOf];omega⟩
   |false=>
    have HT:qy (l.all (FX d.size)=false):=Hd (by
     rw[List.all_eq_false];exact⟨x,xp HX.o,by rw[hm];simp⟩)
    have Te:=Hd hm;clear hm;go_wp2_with(go_at_call 305;refine(AM x d false Te.o hd b _ IC.o).mono ?_;rintro e w1 ⟨rfl,hb1⟩;have cq:=Hd hb1;clear hb1)
    go_ret;exact⟨⟨_,rfl,by rw[HT.o];exact qR Y⟩,HB.o.trans (cq.o.mono HB.o.size)⟩
  ·have hk1: ¬((k:Int)<(l.length:Int)):=by omega
   have HE:qy (l.all (FX d.size)=true):=Hd (by have:=HA.o;rwa [qT Y]at this);go_wp2_with fail
   go_ret;exact⟨⟨_,rfl,by rw[HE.o];rfl⟩,HB.o⟩
theorem iE(oa:Option qt)(n cap:Nat)(l:List Mv)(hn:n=l.length)(hl:l.length≤1000000)(d:ByteArray)(hd:d.size≤1000000)(b:Nat)(w:qo)(h:eW w oa l)(hc:w.cell? ⟨b,8,none⟩=some (qg d)):
 qw qx 304 #[qh oa n cap,.func (.func 305) #[] #[qi (some ⟨b,0,none⟩)]] w fun e J=>e=qm (qk (!(l.all (FX d.size))))∧qz w.heap.size w J:=by
 have HI:=Hd (pP oa n cap l hn hl d hd b w h hc);clear h hc hn;go_enter func304,ntmps304;go_wp2_with(go_at_call 355;refine HI.o.mono ?_;rintro e w1 ⟨⟨r,rfl,hd⟩,hb1⟩;have HD:=Hd hd;have cq:=Hd hb1;clear hd hb1)
 go_ret;exact⟨aH HD.o,cq.o⟩
theorem nr(oa:Option qt)(n cap:Nat)(l:List Mv)(x:Bool)(d:ByteArray)(hx:l.all (FX d.size)=x)(hn:n=l.length)(hl:l.length≤1000000)(hd:d.size≤1000000)(b:Nat)(w:qo)(h:eW w oa l)(hc:w.cell? ⟨b,8,none⟩=some (qg d)):
 qw qx 304 #[qh oa n cap,.func (.func 305) #[] #[qi (some ⟨b,0,none⟩)]] w fun e J=>e=qm (qk (!x))∧qz w.heap.size w J:=by
 rw[←hx];exact iE oa n cap l hn hl d hd b w h hc
theorem YC(r:Rec)(h:r.k=13)(hr:Fit r)(oa:Option qt)(n c:Nat)(hn:n=r.m.length)(w:qo)(hm:eW w oa r.m):qw qx 303 #[ql #[U Z r.cl,U Z r.sq,U Z r.k,qg r.p,qg r.t,U Z r.sz,U Z r.h,U Z r.o,qg r.d,U Z r.tk,U Z r.i,qh oa n c]] w (eL r w):=by
 have HF:=Hd (lv h);have H0:=Hd (aa w (qn #[U Z r.cl,U Z r.sq,U Z r.k,qg r.p,qg r.t,U Z r.sz,U Z r.h,U Z r.o,qg r.d,U Z r.tk,U Z r.i,qh oa n c] 61));have h3:=hr.2.2.1;have h4:=hr.2.2.2;have HM:=Hd (hm.grow H0.o);have HC:qy ((w.alloc (qn #[U Z r.cl,U Z r.sq,U Z r.k,qg r.p,qg r.t,U Z r.sz,U Z r.h,U Z r.o,qg r.d,U Z r.tk,U Z r.i,qh oa n c] 61)).cell? ⟨w.heap.size,8,none⟩=some (qg r.d)):=Hd (by rw[qI (qA w _)];rfl);have HN:=Hd hn;have Iq:n≤1000000:=Y;have zB: ∀(fn:Fn) (first cap:Array qp) (w:qo),(Instr.makeFunc fn first cap).run qx w= .ok (.func fn first cap) w:=fun _ _ _ _=>rfl;clear h hm hn
 go_enter func303,ntmps303
 go_wp2_with(first
  |(go_at_call 237;refine(fo _ _ _ _).mono ?_;rintro e w2 ⟨rfl,rfl⟩)
  |(go_at_call 304;refine(iE oa n c r.m HN.o h4 r.d h3 w.heap.size _ HM.o HC.o).mono ?_;rintro e w3 ⟨rfl,hb3⟩;have cu:=Hd hb3;clear hb3))
 all_goals go_ret
 all_goals first
  |(refine⟨aH ?_,H0.o⟩
    rw[HF.o]
    symm
    rw[Bool.and_eq_false_iff];left
    exact qD (by have:=HN.o;omega))
  |(refine⟨aH ?_,ai H0.o cu.o⟩
    rw[HF.o];have hN:=HN.o;have hD:decide (1≤r.i∧r.i≤2147483647∧1≤r.m.length∧r.m.length≤16∧r.d.size≤1024)=true:=qR Y;rw[hD];simp)
theorem acu{x y:Mv}(h:x≠y):(¬x.a=y.a)∨(x.a=y.a∧ ¬x.f=y.f)∨(x.a=y.a∧x.f=y.f∧ ¬x.n=y.n)∨(x.a=y.a∧x.f=y.f∧x.n=y.n∧ ¬x.t=y.t):=by
 obtain⟨a,f,n,t⟩:=x;obtain⟨b,g,m,u⟩:=y;by_cases h0:a=b
 ·by_cases h1:f=g
  ·by_cases h2:n=m
   ·by_cases h3:t=u
    ·exact qZ (by rw[h0,h1,h2,h3]) h
    ·exact .inr (.inr (.inr ⟨h0,h1,h2,h3⟩))
   ·exact .inr (.inr (.inl ⟨h0,h1,h2⟩))
  ·exact .inr (.inl ⟨h0,h1⟩)
 ·exact .inl h0
theorem An(oa ob:Option qt)(na nb ca cb:Nat)(l l':List Mv)(hna:na=l.length)(SI:nb=l'.length)(hl:l.length≤1000000)(_:l'.length≤1000000)(w:qo)(h1:eW w oa l)(h2:eW w ob l'):
 qw qx 307 #[qh oa na ca,qh ob nb cb] w fun e J=>e=qm (qk (decide (l=l')))∧qz w.heap.size w J:=by
 subst hna;subst SI;have HP:=Hd h1;have HQ:=Hd h2;clear h1 h2;by_cases hlen:l.length=l'.length
 ·have HL:=Hd hlen;have XL:((l.length:Int) !=(l'.length:Int))=false:=by rw[bne_eq_false_iff_eq];omega
  clear hlen;go_enter func307,ntmps307;go_wp2_with fail
  clear XL
  go_loopw [13] (fun i wr=> ∃k:Nat,k≤l.length∧i=U Z (k:Int)∧l.take k=l'.take k∧qz w.heap.size w wr) (fun i _=>((l.length:Int)-intOf i).toNat)
  case atStart=>exact⟨0,Y,rfl,rfl,Below.refl _ _⟩
  case round=>
   obtain⟨k,hk,rfl,BG,dz⟩:=hrel;have HB:=Hd dz;have HT:=Hd BG;clear dz BG;by_cases aN:k<l.length
   ·obtain⟨x,hx⟩: ∃x,l[k]? =some x:=⟨_,qN aN⟩;obtain⟨y,hy⟩: ∃y,l'[k]? =some y:=⟨_,qN (by have:=HL.o;omega)⟩;obtain⟨a,rfl,oW,c0,c1,c2,c3⟩:=xN (HP.o.grow HB.o) hx;obtain⟨b,rfl,so,d0,d1,d2,d3⟩:=xN (HQ.o.grow HB.o) hy;have hk0:(0:Int)≤(k:Int):=Y;have vN:(k:Int)<(l.length:Int):=Y;have akG:(k:Int)<(l'.length:Int):=by have:=HL.o;omega
    have HX:=Hd hx;have HY:=Hd hy;clear hx hy;by_cases Wr:x=y
    ·subst Wr;have YD:qy (l.take (k+1)=l'.take (k+1)):=Hd (by rw[xA,xA,HT.o,HX.o,HY.o]);go_wp2_with fail
     go_quiet (fail)
     go_wp2_with fail
     exact⟨⟨k+1,Y,qc,YD.o,below_drewN HB.o _⟩,by simp[intOf];omega⟩
    ·have HN:qy (decide (l=l')=false):=Hd (qD (fun e=>by
      have h1:=HX.o;rw[e,HY.o]at h1;exact Wr (by simpa using h1.symm)))
     have bd:=acu Wr;clear Wr;go_wp2_with fail
     rcases bd with n0|⟨n0,n1⟩|⟨n0,n1,n2⟩|⟨n0,n1,n2,n3⟩
     all_goals go_quiet (fail)
     all_goals go_wp2_with fail
     all_goals go_ret
     all_goals exact⟨aH HN.o.symm,below_drewN HB.o _⟩
   ·have hk1: ¬((k:Int)<(l.length:Int)):=by omega
    have HE:qy (decide (l=l')=true):=Hd (qR (by
     have:=HT.o
     rwa [qT Y,qT (by have:=HL.o;omega)]at this))
    go_wp2_with fail
    go_ret;exact⟨aH HE.o.symm,HB.o⟩
 ·have XL:((l.length:Int) !=(l'.length:Int))=true:=by rw[bne_iff_ne];omega
  have HE:qy (decide (l=l')=false):=Hd (qD (fun e=>hlen (by rw[e])));clear hlen;go_enter func307,ntmps307;go_wp2_with fail
  go_ret;exact⟨aH HE.o.symm,Below.refl _ _⟩
theorem mS{a b:ByteArray}(e:a.toList=b.toList):a=b:=by
 rw[xq,xq]at e;exact ByteArray.ext (Array.toList_inj.1 e)
theorem aP(w:qo)(o p:Obj):qz w.heap.size w ((w.alloc o).alloc p):=ai (aa w o) (aa _ p)
theorem TQ{x y:Rec}(e0:x.cl=y.cl)(e1:x.sq=y.sq)(e2:x.k=y.k)(e3:x.p.toList=y.p.toList)(e4:x.t.toList=y.t.toList)(e5:x.sz=y.sz)(e6:x.h=y.h)(e7:x.o=y.o)(e8:x.d.toList=y.d.toList)(e9:x.tk=y.tk)(e10:x.i=y.i):
 decide (x.m=y.m)=mA x y:=by
 cases hs:mA x y with
 |true=>exact qR (by rw[(jy x y).1 hs])
 |false=>
  refine qD fun hm=>?_;rw[Bool.eq_false_iff]at hs;apply hs;rw[jy];have e3:=mS e3;have e4:=mS e4;have e8:=mS e8;obtain⟨c1,s1,k1,p1,t1,z1,h1,o1,d1,q1,i1,m1⟩:=x;obtain⟨c2,s2,k2,p2,t2,z2,h2,o2,d2,q2,i2,m2⟩:=y;simp only at e0 e1 e2 e3 e4 e5 e6 e7 e8 e9 e10 hm;rw[e0,e1,e2,e3,e4,e5,e6,e7,e8,e9,e10,hm]
theorem gP{α:Type} [DecidableEq α](f:Rec→α){x y:Rec}(h: ¬f x=f y):false=mA x y:=by
 symm
 rw[Bool.eq_false_iff];intro hs;exact h (by rw[(jy x y).1 hs])
theorem sr(x y:Rec)(ox oy:Option qt)(nx ny cx cy:Nat)(hx:nx=x.m.length)(hy:ny=y.m.length)(zx:x.m.length≤1000000)(zy:y.m.length≤1000000)(w:qo)(h1:eW w ox x.m)(h2:eW w oy y.m):
 qw qx 239 #[ql #[U Z x.cl,U Z x.sq,U Z x.k,qg x.p,qg x.t,U Z x.sz,U Z x.h,U Z x.o,qg x.d,U Z x.tk,U Z x.i,qh ox nx cx],ql #[U Z y.cl,U Z y.sq,U Z y.k,qg y.p,qg y.t,U Z y.sz,U Z y.h,U Z y.o,qg y.d,U Z y.tk,U Z y.i,qh oy ny cy]] w fun e J=>e=qm (qk (mA x y))∧qz w.heap.size w J:=by
 have H1:=Hd h1;have H2:=Hd h2;have HN:=Hd hx;have HM:=Hd hy;clear h1 h2 hx hy;go_enter func239,ntmps239;go_wp2_with(go_at_call 307;go_loud (refine(An ox oy _ _ cx cy x.m y.m HN.o HM.o zx zy _ (H1.o.grow (aP w _ _)) (H2.o.grow (aP w _ _))).mono ?_;rintro e w1 ⟨rfl,hb1⟩;have cq:=Hd hb1;clear hb1))
 all_goals go_ret
 all_goals first
  |exact⟨aH (TQ qe qe qe qe qe qe qe qe qe qe qe),(aP w _ _).trans (cq.o.mono (by simp;omega))⟩
  |exact⟨aH (gP Rec.cl qe),aP w _ _⟩
  |exact⟨aH (gP Rec.sq qe),aP w _ _⟩
  |exact⟨aH (gP Rec.k qe),aP w _ _⟩
  |exact⟨aH (gP (fun r=>r.p.toList) qe),aP w _ _⟩
  |exact⟨aH (gP (fun r=>r.t.toList) qe),aP w _ _⟩
  |exact⟨aH (gP Rec.sz qe),aP w _ _⟩
  |exact⟨aH (gP Rec.h qe),aP w _ _⟩
  |exact⟨aH (gP Rec.o qe),aP w _ _⟩
  |exact⟨aH (gP (fun r=>r.d.toList) qe),aP w _ _⟩
  |exact⟨aH (gP Rec.tk qe),aP w _ _⟩
  |exact⟨aH (gP Rec.i qe),aP w _ _⟩
open PackW
structure TR(x:ra):Prop where
 p:x.pm≤70000
 d:x.dm≤70000
 c: ∀n:Int,n≤255→x.cm n≤300
theorem rf(l:List UInt8)(sp:Bool)(m:Int)(hm:m≤70000):(gv l sp m).size≤70000:=by
 unfold gv
 cases h:fK l sp m with
 |none=>simp[ByteArray.size]
 |some v=>
  unfold fK at h;split at h
  ·rename_i hc;injection h with h
   show v.toArray.size≤_;rw[←h];simp only[List.size_toArray,xF,List.length_drop];omega
  ·cases h
theorem OY(l:List UInt8)(sp:Bool):de l sp 1≤255:=by
 unfold de
 cases h:gu l sp 1 with
 |none=>simp
 |some v=>
  unfold gu at h;split at h
  ·injection h with h
   have h1:=ShiftP.rK (l.take (Int.toNat 1));have h2:(l.take (Int.toNat 1)).length≤1:=by rw[xF];exact Nat.min_le_left _ _
   have h3:256^(l.take (Int.toNat 1)).length≤256^1:=xI qa h2;show(v:Int)≤255;omega
  ·cases h
structure OZ(r:Rec)(k:Nat):Prop where
 p:r.p.size≤70000
 t:r.t.size≤70000
 d:r.d.size≤70000
 m:r.m.length≤300*k
theorem Pa(x:ra)(hx:TR x)(c:UInt8)(hc:DD c)(d:Dn)(k:Nat)(h:OZ d.r k):OZ (getD x c d).r (k+1):=by
 obtain⟨xs,Cz,hl⟩:=BN (x.cm (de d.l d.sp 1)) (bj 1 d fun _ r=>r);have h1:=hx.c _ (OY d.l d.sp);have e1:=h.p;have e2:=h.t;have e3:=h.d;have e4:=h.m;rcases hc with rfl|rfl|rfl|rfl|rfl|rfl|rfl|rfl|rfl
 ·rw[nB];exact⟨rf _ _ _ hx.p,e2,e3,by show d.r.m.length≤_;omega⟩
 ·rw[nC];exact⟨e1,rf _ _ _ hx.p,e3,by show d.r.m.length≤_;omega⟩
 ·rw[nD];exact⟨e1,e2,e3,by show d.r.m.length≤_;omega⟩
 ·rw[nE];exact⟨e1,e2,e3,by show d.r.m.length≤_;omega⟩
 ·rw[nF];exact⟨e1,e2,e3,by show d.r.m.length≤_;omega⟩
 ·rw[nG];exact⟨e1,e2,rf _ _ _ hx.d,by show d.r.m.length≤_;omega⟩
 ·rw[nH];exact⟨e1,e2,e3,by show d.r.m.length≤_;omega⟩
 ·rw[nI];exact⟨e1,e2,e3,by show d.r.m.length≤_;omega⟩
 ·rw[nJ,Cz];refine⟨e1,e2,e3,?_⟩;show(d.r.m++xs).length≤_;rw[qY];omega
theorem DT(x:ra)(hx:TR x): ∀(cs:List UInt8) (d:Dn) (k:Nat),(∀c∈cs,DD c)→OZ d.r k→OZ (cs.foldl (fun d c=>getD x c d) d).r (k+cs.length)
 |[],d,k,_,h=>h
 |c::cs,d,k,hF,h=>by
  rw[List.foldl_cons,xf];have:=DT x hx cs (getD x c d) (k+1) (fun c' hc'=>hF c' (qV _ hc')) (Pa x hx c (hF c (xh ..)) d k h)
  rwa [show k+(cs.length+1)=k+1+cs.length by omega]
theorem ID(x:ra)(hx:TR x)(s:List UInt8):Fit (gG x s).r:=by
 have h0:OZ (headD s).r 0:=⟨by show(⟨#[]⟩:ByteArray).size≤_;simp[ByteArray.size],by show(⟨#[]⟩:ByteArray).size≤_;simp[ByteArray.size],by show(⟨#[]⟩:ByteArray).size≤_;simp[ByteArray.size],by show([]:List Mv).length≤_;simp⟩;by_cases hk:1≤(headD s).r.k∧(headD s).r.k≤14
 ·have h:=DT x hx _ (headD s) 0 (iy _ hk) h0;have hl:=kA _ hk;have hl2:(fieldsOf (headD s).r.k).data.toList.length=(fieldsOf (headD s).r.k).size:=qc;have e:=h.m;have e1:=h.p;have e2:=h.t;have e3:=h.d;unfold Fit gG;omega
 ·rw[AJ x s hk];have e:=h0.m;have e1:=h0.p;have e2:=h0.t;have e3:=h0.d;unfold Fit;omega
theorem Pb(x:ra): ∀(cs:List UInt8) (d:Dn),109∉cs→(cs.foldl (fun d c=>getD x c d) d).r.m=d.r.m
 |[],_,_=>rfl
 |c::cs,d,h=>by
  rw[List.foldl_cons,Pb x cs _ (fun e=>h (qV _ e))];exact Gg x c (fun e=>h (by rw[e];exact xh ..)) d
theorem Pc(cs:List UInt8)(h:cs.Nodup)(k:Nat)(hk:k<cs.length):cs[k]∉cs.take k:=by
 intro hm;have h2:=h;rw[←List.take_append_drop k cs,List.nodup_append]at h2;exact h2.2.2 _ hm _ (by rw[List.drop_eq_getElem_cons hk];exact xh ..) rfl
end OpW
namespace TopW
open Go.RowKit
structure IR(w:qo)(b n:Nat)(x y:Int):Prop where
 row: ∃cs,w.heap[b]? =some (qn cs 3 (0,0))∧cs[0]? =some (U Z x)∧cs[1]? =some (U Z y)
 ge:2≤n
 le:n≤maxLen
structure cL(w:qo)(b0 n0 b1 n1 b2 n2:Nat):Prop where
 row: ∃cs,w.heap[b0]? =some (qn cs 35 (0,0))∧cs[0]? =some (qh (some ⟨b1,0,none⟩) 2 n1)∧cs[1]? =some (qh (some ⟨b2,0,none⟩) 2 n2)
 ge:2≤n0
 le:n0≤maxLen
 r1:IR w b1 n1 0 1
 r2:IR w b2 n2 2 3
variable{w J:qo}{M:List Nat}{b b0 b1 b2 n n0 n1 n2:Nat}{x y:Int}
theorem IR.ag(h:IR w b n x y)(c:Ch M w J):IR J b n x y:=by
 obtain⟨cs,h1,h2,h3⟩:=h.row;exact⟨⟨cs,c.bC _ _ _ _ h1 qa,h2,h3⟩,h.ge,h.le⟩
theorem cL.ag(h:cL w b0 n0 b1 n1 b2 n2)(c:Ch M w J):cL J b0 n0 b1 n1 b2 n2:=by
 obtain⟨cs,h1,h2,h3⟩:=h.row;exact⟨⟨cs,c.bC _ _ _ _ h1 qa,h2,h3⟩,h.ge,h.le,h.r1.ag c,h.r2.ag c⟩
theorem IR.cells(h:IR w b n x y):w.cell? ⟨b,0,none⟩=some (U Z x)∧w.cell? ⟨b,1,none⟩=some (U Z y):=by
 obtain⟨cs,h1,h2,h3⟩:=h.row;exact⟨by rw[qI h1];simpa using h2,by rw[qI h1];simpa using h3⟩
theorem cL.cells(h:cL w b0 n0 b1 n1 b2 n2):w.cell? ⟨b0,0,none⟩=some (qh (some ⟨b1,0,none⟩) 2 n1)∧w.cell? ⟨b0,1,none⟩=some (qh (some ⟨b2,0,none⟩) 2 n2):=by
 obtain⟨cs,h1,h2,h3⟩:=h.row;exact⟨by rw[qI h1];simpa using h2,by rw[qI h1];simpa using h3⟩
theorem Pd:(prog.info? 3).map (fun i=>(i.zero,i.size,i.bytes))=some (some (U Z 0),1,8):=qd
theorem TS:(prog.info? 35).map (fun i=>(i.zero,i.size,i.bytes))=some (some (qh none 0 0),1,24):=qd
theorem Pe(a:qt)(n c:Nat)(w:qo):(binOp .eql 35 (qh (some a) n c) (qh none 0 0)).run qx w= .ok (qk false) w:=Lib.run_eql_slice_some_nil w a n c underlying35
theorem IR.Gi{B n:Nat}{v:qp}(h:w.ownsRow B 3 1 v 2 [U Z x,U Z y]): ∃g n,v=qh (some ⟨g,0,none⟩) 2 n∧B≤g∧IR w g n x y:=by
 rcases h.2 with⟨_,h0⟩|⟨g,cap,cur,rfl,hb,hg,hc,hm,hs,hx⟩
 ·omega
 ·refine⟨g,cap,rfl,hb,⟨cur,hg,?_,?_⟩,hc,hm⟩
  ·have:=qX (·[0]?) hx;simpa using this
  ·have:=qX (·[1]?) hx;simpa using this
theorem DU(w:qo)(h:IR w b n x y):qw qx 71 #[qh (some ⟨b,0,none⟩) 2 n] w fun e J=> ∃g m,e=qm (qh (some ⟨g,0,none⟩) 2 m)∧IR J g m x y∧w.heap.size≤g∧qz w.heap.size w J:=by
 obtain⟨i0,hi,hz0,hz1,hz2⟩:=info_parts Pd;have hnl:=Pe
 have HN:qy (∀ad,some (⟨b,0,none⟩:qt)=some ad→ ∀j u,[U Z x,U Z y][j]? =some u→w.cell? (ad.add j)=some u):=Hd (by
  rintro ad e j u hj;cases e;obtain⟨c0,c1⟩:=h.cells
  match j,hj with
  |0,hj=>simp at hj;rw[←hj];exact c0
  |1,hj=>simp at hj;rw[←hj];exact c1)
 clear h;go_enter func71,ntmps71;go_wp2_with(at_builtin;go_loud (refine jH rfl _ _ 35 rfl 3 i0 (U Z 0) 1 8 underlying35 hi hz0 hz1 hz2 rfl qa (by rfl) (some ⟨b,0,none⟩) 2 n [U Z x,U Z y] (by rfl) (fun e=>by cases e) rfl HN.o (by simp[Value.oneCell']) qa qa ?_;intro oa2 dd w2 rW hb2;have eB:=Hd rW;have az:=Hd hb2;clear rW hb2))
 go_ret;obtain⟨g,m,e,h1,h2⟩:=IR.Gi (n:=0) eB.o;exact⟨g,m,by rw[e];rfl,h2,h1,az.o⟩
