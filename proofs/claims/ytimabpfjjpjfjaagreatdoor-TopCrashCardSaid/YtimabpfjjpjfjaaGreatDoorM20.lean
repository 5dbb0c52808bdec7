/- Part 20 of the texts that the law's walk needs. -/
import Derived.Test.YtimabpfjjpjfjaaGreatDoorM17
import Derived.Laws.EntriesVeiled
set_option maxHeartbeats 3200000
set_option maxRecDepth 100000
set_option linter.all false
open Go renaming Value→qp,World→qo,Calls→qw,Addr→qt
open Go.Value renaming pointer→qi,agg→ql,int→U,string→qg,slice→qh,tuple→qj
open Go.Ending renaming returned→qm
open Go.RowKit renaming Below→qz,Hid→qy
open Go.IntKind renaming i64→Z
open Go.Obj renaming cells→qn
namespace Go.Proofs.YtimabpfjjpjfjaaGreatDoor
open Tryz
open Tryz renaming prog→qx
namespace OpW
open Go.RowKit OpP
theorem KY:(prog.info? 363).map (·.size)=some 15:=qd
def Pq(z:qp)(p:Nat):Array qp:=#[z,.func (.func 297) #[] #[],.func (.func 297) #[] #[],.func (.func 297) #[] #[],.func (.func 298) #[] #[],.func (.func 297) #[] #[],.func (.func 298) #[] #[],
 .func (.func 300) #[] #[qi (some ⟨p,0,none⟩)],.func (.func 297) #[] #[],.func (.func 301) #[] #[],.func (.func 302) #[] #[],.func (.func 299) #[] #[],.func (.func 299) #[] #[],.func (.func 303) #[] #[],.func (.func 306) #[] #[]]
theorem KZ(w:qo):qw qx 238 #[] w fun e J=>e=qm (ql (Pq .nilFunc (w.heap.size+1)))∧
 J.cell? ⟨w.heap.size+1,0,none⟩=some (.func (.func 297) #[] #[])∧qz w.heap.size w J:=by
 have zB: ∀(fn:Fn) (first cap:Array qp) (w:qo),(Instr.makeFunc fn first cap).run qx w= .ok (.func fn first cap) w:=fun _ _ _ _=>rfl;go_enter func238,ntmps238;go_wp2_with fail
 refine aR (p:=0) rfl rfl rfl ((xm _ _ qc).trans (qA w _)) underlying363 rfl KY ?_;exact⟨rfl,by rw[qI (heap_alloc2_new w _ _)];rfl,sh w _ _⟩
def yh(k:Int)(p:Nat)(K:FuncId)(C:Array qp):Prop:= ∀(r:Rec) (oa:Option qt) (n c:Nat) (W:qo),r.k=k→Fit r→n=r.m.length→eW W oa r.m→W.cell? ⟨p,0,none⟩=some (.func (.func 297) #[] #[])→
 qw qx K (#[ql #[U Z r.cl,U Z r.sq,U Z r.k,qg r.p,qg r.t,U Z r.sz,U Z r.h,U Z r.o,qg r.d,U Z r.tk,U Z r.i,qh oa n c]]++C) W (eL r W)
theorem TX(k:Int)(hk:1≤k∧k≤14)(z:qp)(p:Nat): ∃K C,(C=#[]∨C=#[qi (some ⟨p,0,none⟩)])∧(∀W:qo,(Instr.index 363 (ql (Pq z p)) (U Z k)).run qx W= .ok (.func (.func K) #[] C) W)∧(∀(args:Array qp) (W:qo),(callFunc K args).run qx W= .ok (.enter K args) W)∧yh k p K C:=by
 rcases kinds k hk with rfl|rfl|rfl|rfl|rfl|rfl|rfl|rfl|rfl|rfl|rfl|rfl|rfl|rfl
 ·exact⟨_,_,.inl rfl,fun _=>by kernel_rfl,fun _ _=>by go_simp,fun r oa n c W e hr _ _ _=>DN r (by simp[e]) hr _ W⟩
 ·exact⟨_,_,.inl rfl,fun _=>by kernel_rfl,fun _ _=>by go_simp,fun r oa n c W e hr _ _ _=>DN r (by simp[e]) hr _ W⟩
 ·exact⟨_,_,.inl rfl,fun _=>by kernel_rfl,fun _ _=>by go_simp,fun r oa n c W e hr _ _ _=>DN r (by simp[e]) hr _ W⟩
 ·exact⟨_,_,.inl rfl,fun _=>by kernel_rfl,fun _ _=>by go_simp,fun r oa n c W e hr _ _ _=>OF r (by simp[e]) hr _ W⟩
 ·exact⟨_,_,.inl rfl,fun _=>by kernel_rfl,fun _ _=>by go_simp,fun r oa n c W e hr _ _ _=>DN r (by simp[e]) hr _ W⟩
 ·exact⟨_,_,.inl rfl,fun _=>by kernel_rfl,fun _ _=>by go_simp,fun r oa n c W e hr _ _ _=>OF r (by simp[e]) hr _ W⟩
 ·exact⟨_,_,.inr rfl,fun _=>by kernel_rfl,fun _ _=>by go_simp,fun r oa n c W e hr _ _ hc=>ack r e hr _ p W hc⟩
 ·exact⟨_,_,.inl rfl,fun _=>by kernel_rfl,fun _ _=>by go_simp,fun r oa n c W e hr _ _ _=>DN r (by simp[e]) hr _ W⟩
 ·exact⟨_,_,.inl rfl,fun _=>by kernel_rfl,fun _ _=>by go_simp,fun r oa n c W e _ _ _ _=>Tp r e _ W⟩
 ·exact⟨_,_,.inl rfl,fun _=>by kernel_rfl,fun _ _=>by go_simp,fun r oa n c W e hr _ _ _=>Tq r e hr _ W⟩
 ·exact⟨_,_,.inl rfl,fun _=>by kernel_rfl,fun _ _=>by go_simp,fun r oa n c W e _ _ _ _=>OG r (by simp[e]) _ W⟩
 ·exact⟨_,_,.inl rfl,fun _=>by kernel_rfl,fun _ _=>by go_simp,fun r oa n c W e _ _ _ _=>OG r (by simp[e]) _ W⟩
 ·exact⟨_,_,.inl rfl,fun _=>by kernel_rfl,fun _ _=>by go_simp,fun r oa n c W e hr hn hm _=>YC r e hr oa n c hn W hm⟩
 ·exact⟨_,_,.inl rfl,fun _=>by kernel_rfl,fun _ _=>by go_simp,fun r oa n c W e hr _ _ _=>Tr r e hr _ W⟩
theorem sw{r:Rec}(h:Fit r):(only r).m.length≤1000000:=by
 unfold only
 cases kK r.k with
 |true=>exact h.2.2.2
 |false=>simp
theorem yh.nil{k:Int}{p:Nat}{K:FuncId}(h:yh k p K #[])(r:Rec)(oa:Option qt)(n c:Nat)(W:qo)(e:r.k=k)(hr:Fit r)(hn:n=r.m.length)(hm:eW W oa r.m)(hc:W.cell? ⟨p,0,none⟩=some (.func (.func 297) #[] #[])):
 qw qx K #[ql #[U Z r.cl,U Z r.sq,U Z r.k,qg r.p,qg r.t,U Z r.sz,U Z r.h,U Z r.o,qg r.d,U Z r.tk,U Z r.i,qh oa n c]] W (eL r W):=h r oa n c W e hr hn hm hc
theorem yh.one{k:Int}{p:Nat}{K:FuncId}{v:qp}(h:yh k p K #[v])(r:Rec)(oa:Option qt)(n c:Nat)(W:qo)(e:r.k=k)(hr:Fit r)(hn:n=r.m.length)(hm:eW W oa r.m)(hc:W.cell? ⟨p,0,none⟩=some (.func (.func 297) #[] #[])):
 qw qx K #[ql #[U Z r.cl,U Z r.sq,U Z r.k,qg r.p,qg r.t,U Z r.sz,U Z r.h,U Z r.o,qg r.d,U Z r.tk,U Z r.i,qh oa n c],v] W (eL r W):=h r oa n c W e hr hn hm hc
def yj(r:Rec)(w:qo)(e:Ending)(J:qo):Prop:=e=qm (.bool (ck r))∧qz w.heap.size w J
theorem La{r:Rec}(h: ¬(1≤r.k∧r.k≤14∧0≤r.cl∧r.cl≤7∧1≤r.sq∧r.sq≤2147483647)):ck r=false:=by
 unfold ck
 cases hf:ey r with
 |false=>rw[Bool.and_false];rfl
 |true=>
  have hk:=fk hf;have:se r=false:=qD Y;rw[this];rfl
theorem Pr(r:Rec)(h: ¬(1≤r.k∧r.k≤14∧0≤r.cl∧r.cl≤7∧1≤r.sq∧r.sq≤2147483647))(v:qp)(w:qo):qw qx 173 #[ql #[U Z r.cl,U Z r.sq,U Z r.k,qg r.p,qg r.t,U Z r.sz,U Z r.h,U Z r.o,qg r.d,U Z r.tk,U Z r.i,v]] w (yj r w):=by
 have HG:=Hd (La h);have HH:=Hd h;have H0:=Hd (aa w (qn #[U Z r.cl,U Z r.sq,U Z r.k,qg r.p,qg r.t,U Z r.sz,U Z r.h,U Z r.o,qg r.d,U Z r.tk,U Z r.i,v] 61));clear h;go_enter func173,ntmps173
 go_wp2_with(first
  |(go_at_call 236;refine(tF _ _).mono ?_;rintro e w2 ⟨rfl,rfl⟩)
  |(go_at_call 237;refine(fo _ _ _ _).mono ?_;rintro e w2 ⟨rfl,rfl⟩))
 all_goals first
  |(exfalso;have hh:=HH.o;simp only[Bool.not_eq_false',qC]at*;omega)
  |skip
 all_goals go_ret
 all_goals exact⟨aH HG.o.symm,H0.o⟩
theorem TY(r:Rec)(h:1≤r.k∧r.k≤14∧0≤r.cl∧r.cl≤7∧1≤r.sq∧r.sq≤2147483647)(hr:Fit r)(oa:Option qt)(n c:Nat)(hn:n=r.m.length)(w:qo)(hf:Fl w)(hm:eW w oa r.m):qw qx 173 #[ql #[U Z r.cl,U Z r.sq,U Z r.k,qg r.p,qg r.t,U Z r.sz,U Z r.h,U Z r.o,qg r.d,U Z r.tk,U Z r.i,qh oa n c]] w (yj r w):=by
 obtain⟨k1,k2,c1,c2,s1,s2⟩:=h;have q1:decide (1≤r.k)=true:=qR k1;have q2:decide (r.k≤14)=true:=qR k2;have q3:decide (0≤r.cl)=true:=qR c1;have q4:decide (r.cl≤7)=true:=qR c2;have q5:decide (1≤r.sq)=true:=qR s1;have q6:decide (r.sq≤2147483647)=true:=qR s2;have HR:=Hd hr;have HN:=Hd hn;have HF:=Hd hf;have HM:=Hd hm;have H0:=Hd (aa w (qn #[U Z r.cl,U Z r.sq,U Z r.k,qg r.p,qg r.t,U Z r.sz,U Z r.h,U Z r.o,qg r.d,U Z r.tk,U Z r.i,qh oa n c] 61));obtain⟨K,C,hC,Tj,ajc,IG⟩:=TX r.k ⟨k1,k2⟩ .nilFunc (w.heap.size+1+1);have HFM:=Hd IG;clear hn hf hm hr IG;go_enter func173,ntmps173
 go_wp2_with(first
  |(go_at_call 236;refine(tF _ _).mono ?_;rintro e w2 ⟨rfl,rfl⟩)
  |(go_at_call 237;refine(fo _ _ _ _).mono ?_;rintro e w2 ⟨rfl,rfl⟩))
 go_region_with (go_at_call 238;go_loud (refine(KZ _).mono ?_;rintro e w3 ⟨rfl,hp,hb3⟩;have cu:=Hd hb3;have HP:=Hd hp;have rB:nu w3 w.heap.size r (qh oa n c):=(hb3.block _ qc).trans (qA w _);have fu:=Hd rB;obtain⟨b0,b1,b2,b3,b4,b5,b6,b7,b8,b9,Wn,b11⟩:=rB.cells;clear hb3 hp rB b0 b1 b3 b4 b5 b6 b7 b8 b9 Wn b11))
 all_goals go_wp2_with fail
 all_goals
  have iC:qy (w3.cell? ⟨w.heap.size+1+1,0,none⟩=some (.func (.func 297) #[] #[])):=Hd (by have:=HP.o;simpa using this);have dp:qy (qz w.heap.size w w3):=Hd (by first|exact ai H0.o cu.o|exact H0.o.drew.trans (cu.o.mono qc));clear Tj b2 q1 q2 q3 q4 q5 q6;simp only[gA,gS,gZ]
  go_frame
  rcases hC with rfl|rfl
  ·cases mJ:ey r with
   |false=>
    have FT:=Hd mJ;clear mJ;refine dJ qd qd ?_
    repeat first
     |(refine cM ?_ ?_;(·first|rfl|(go_simp;done));simp only[pS,aS,sZ,sS])
     |(refine du (v:=?_) ?_ ?_ ?_
       rotate_left
       ·first|rfl|(go_simp;done)
       ·intro wq hq;have hq3:qz w3.heap.size w3 wq:=by first|exact hq|exact((aK w3).drew).trans hq
        obtain⟨e0,e1,e2,e3,e4,e5,e6,e7,e8,e9,e10,e11⟩:=(fu.o.ag hq3).cells;go_simp
        with_reducible rfl
       simp only[pS,aS,sZ,sS])
     |(refine dF (v:=?_) (f:=?_) (args:=?_) ?_ ?_ ?_ ?_
       rotate_left 3
       ·first|rfl|(go_simp;done)
       ·intro wq;go_simp;constructor
        ·rfl
        ·rfl
       ·intro wq hq
        first
         |((have hq3:qz w3.heap.size w3 wq:=by first|exact hq|exact((aK w3).drew).trans hq)
           refine(HFM.o.nil r oa n c wq rfl HR.o HN.o (HM.o.grow (ai dp.o hq3)) (ah hq3 iC.o)).mono ?_;rintro e w4⟨he,hb4⟩;rw[FT.o]at he;subst he;constructor
           ·rfl
           ·exact ai hq hb4)
       simp only[pS,aS,sZ,sS])
    refine dv ?_;intro w2 hb2;go_wp2_with fail
    go_ret;have hg:ck r=false:=by unfold ck;rw[FT.o,Bool.and_false];rfl
    exact⟨by rw[hg];rfl,ai dp.o (by first|exact hb2|exact((aK w3).drew).trans hb2)⟩
   |true=>
    have FT:=Hd mJ;clear mJ;have HH:qy (se r=true):=Hd (qR ⟨c1,c2,s1,s2⟩)
    cases uK:mA r (only r)with
    |false=>
     have sX:=Hd uK;clear uK;refine dJ qd qd ?_
     repeat first
      |(refine cM ?_ ?_;(·first|rfl|(go_simp;done));simp only[pS,aS,sZ,sS])
      |(refine du (v:=?_) ?_ ?_ ?_
        rotate_left
        ·first|rfl|(go_simp;done)
        ·intro wq hq;have hq3:qz w3.heap.size w3 wq:=by first|exact hq|exact((aK w3).drew).trans hq
         obtain⟨e0,e1,e2,e3,e4,e5,e6,e7,e8,e9,e10,e11⟩:=(fu.o.ag hq3).cells;go_simp
         with_reducible rfl
        simp only[pS,aS,sZ,sS])
      |(refine dF (v:=?_) (f:=?_) (args:=?_) ?_ ?_ ?_ ?_
        rotate_left 3
        ·first|rfl|(go_simp;done)
        ·intro wq;go_simp;constructor
         ·rfl
         ·rfl
        ·intro wq hq
         first
          |(go_at_call 240
            (have hq3:qz w3.heap.size w3 wq:=by first|exact hq|exact((aK w3).drew).trans hq)
            refine(sj r ⟨k1,k2⟩ oa n c wq (HF.o.ag (ai dp.o hq3))).mono ?_;rintro e w4⟨rfl,hb4⟩;constructor
            ·rfl
            ·exact ai hq hb4)
          |(go_at_call 239
            (have hq3:qz w3.heap.size w3 wq:=by first|exact hq|exact((aK w3).drew).trans hq)
            (have oQ:=HM.o.grow (ai dp.o hq3))
            refine(sr r (only r) oa (pw r oa) n (iS r n) c (iS r c) HN.o (si r n HN.o) HR.o.2.2.2 (sw HR.o) wq oQ (vl r oa wq oQ)).mono ?_;rintro e w4⟨he,hb4⟩;rw[sX.o]at he;subst he;constructor
            ·rfl
            ·exact ai hq hb4)
          |((have hq3:qz w3.heap.size w3 wq:=by first|exact hq|exact((aK w3).drew).trans hq)
            refine(HFM.o.nil r oa n c wq rfl HR.o HN.o (HM.o.grow (ai dp.o hq3)) (ah hq3 iC.o)).mono ?_;rintro e w4⟨he,hb4⟩;rw[FT.o]at he;subst he;constructor
            ·rfl
            ·exact ai hq hb4)
        simp only[pS,aS,sZ,sS])
     refine dv ?_;intro w2 hb2;go_wp2_with fail
     go_ret;have hg:ck r=false:=by unfold ck;rw[sX.o,Bool.and_false]
     exact⟨by rw[hg];rfl,ai dp.o (by first|exact hb2|exact((aK w3).drew).trans hb2)⟩
    |true=>
     have sX:=Hd uK;clear uK;refine dJ qd qd ?_
     repeat first
      |(refine cM ?_ ?_;(·first|rfl|(go_simp;done));simp only[pS,aS,sZ,sS])
      |(refine du (v:=?_) ?_ ?_ ?_
        rotate_left
        ·first|rfl|(go_simp;done)
        ·intro wq hq;have hq3:qz w3.heap.size w3 wq:=by first|exact hq|exact((aK w3).drew).trans hq
         obtain⟨e0,e1,e2,e3,e4,e5,e6,e7,e8,e9,e10,e11⟩:=(fu.o.ag hq3).cells;go_simp
         with_reducible rfl
        simp only[pS,aS,sZ,sS])
      |(refine dF (v:=?_) (f:=?_) (args:=?_) ?_ ?_ ?_ ?_
        rotate_left 3
        ·first|rfl|(go_simp;done)
        ·intro wq;go_simp;constructor
         ·rfl
         ·rfl
        ·intro wq hq
         first
          |(go_at_call 240
            (have hq3:qz w3.heap.size w3 wq:=by first|exact hq|exact((aK w3).drew).trans hq)
            refine(sj r ⟨k1,k2⟩ oa n c wq (HF.o.ag (ai dp.o hq3))).mono ?_;rintro e w4⟨rfl,hb4⟩;constructor
            ·rfl
            ·exact ai hq hb4)
          |(go_at_call 239
            (have hq3:qz w3.heap.size w3 wq:=by first|exact hq|exact((aK w3).drew).trans hq)
            (have oQ:=HM.o.grow (ai dp.o hq3))
            refine(sr r (only r) oa (pw r oa) n (iS r n) c (iS r c) HN.o (si r n HN.o) HR.o.2.2.2 (sw HR.o) wq oQ (vl r oa wq oQ)).mono ?_;rintro e w4⟨he,hb4⟩;rw[sX.o]at he;subst he;constructor
            ·rfl
            ·exact ai hq hb4)
          |((have hq3:qz w3.heap.size w3 wq:=by first|exact hq|exact((aK w3).drew).trans hq)
            refine(HFM.o.nil r oa n c wq rfl HR.o HN.o (HM.o.grow (ai dp.o hq3)) (ah hq3 iC.o)).mono ?_;rintro e w4⟨he,hb4⟩;rw[FT.o]at he;subst he;constructor
            ·rfl
            ·exact ai hq hb4)
        simp only[pS,aS,sZ,sS])
     refine dv ?_;intro w2 hb2;go_wp2_with fail
     go_ret;have hg:ck r=true:=by unfold ck;rw[FT.o,sX.o,HH.o];rfl
     exact⟨by rw[hg];rfl,ai dp.o (by first|exact hb2|exact((aK w3).drew).trans hb2)⟩
  ·cases mJ:ey r with
   |false=>
    have FT:=Hd mJ;clear mJ;refine dJ qd qd ?_
    repeat first
     |(refine cM ?_ ?_;(·first|rfl|(go_simp;done));simp only[pS,aS,sZ,sS])
     |(refine du (v:=?_) ?_ ?_ ?_
       rotate_left
       ·first|rfl|(go_simp;done)
       ·intro wq hq;have hq3:qz w3.heap.size w3 wq:=by first|exact hq|exact((aK w3).drew).trans hq
        obtain⟨e0,e1,e2,e3,e4,e5,e6,e7,e8,e9,e10,e11⟩:=(fu.o.ag hq3).cells;go_simp
        with_reducible rfl
       simp only[pS,aS,sZ,sS])
     |(refine dF (v:=?_) (f:=?_) (args:=?_) ?_ ?_ ?_ ?_
       rotate_left 3
       ·first|rfl|(go_simp;done)
       ·intro wq;go_simp;constructor
        ·rfl
        ·rfl
       ·intro wq hq
        first
         |((have hq3:qz w3.heap.size w3 wq:=by first|exact hq|exact((aK w3).drew).trans hq)
           refine(HFM.o.one r oa n c wq rfl HR.o HN.o (HM.o.grow (ai dp.o hq3)) (ah hq3 iC.o)).mono ?_;rintro e w4⟨he,hb4⟩;rw[FT.o]at he;subst he;constructor
           ·rfl
           ·exact ai hq hb4)
       simp only[pS,aS,sZ,sS])
    refine dv ?_;intro w2 hb2;go_wp2_with fail
    go_ret;have hg:ck r=false:=by unfold ck;rw[FT.o,Bool.and_false];rfl
    exact⟨by rw[hg];rfl,ai dp.o (by first|exact hb2|exact((aK w3).drew).trans hb2)⟩
   |true=>
    have FT:=Hd mJ;clear mJ;have HH:qy (se r=true):=Hd (qR ⟨c1,c2,s1,s2⟩)
    cases uK:mA r (only r)with
    |false=>
     have sX:=Hd uK;clear uK;refine dJ qd qd ?_
     repeat first
      |(refine cM ?_ ?_;(·first|rfl|(go_simp;done));simp only[pS,aS,sZ,sS])
      |(refine du (v:=?_) ?_ ?_ ?_
        rotate_left
        ·first|rfl|(go_simp;done)
        ·intro wq hq;have hq3:qz w3.heap.size w3 wq:=by first|exact hq|exact((aK w3).drew).trans hq
         obtain⟨e0,e1,e2,e3,e4,e5,e6,e7,e8,e9,e10,e11⟩:=(fu.o.ag hq3).cells;go_simp
         with_reducible rfl
        simp only[pS,aS,sZ,sS])
      |(refine dF (v:=?_) (f:=?_) (args:=?_) ?_ ?_ ?_ ?_
        rotate_left 3
        ·first|rfl|(go_simp;done)
        ·intro wq;go_simp;constructor
         ·rfl
         ·rfl
        ·intro wq hq
         first
          |(go_at_call 240
            (have hq3:qz w3.heap.size w3 wq:=by first|exact hq|exact((aK w3).drew).trans hq)
            refine(sj r ⟨k1,k2⟩ oa n c wq (HF.o.ag (ai dp.o hq3))).mono ?_;rintro e w4⟨rfl,hb4⟩;constructor
            ·rfl
            ·exact ai hq hb4)
          |(go_at_call 239
            (have hq3:qz w3.heap.size w3 wq:=by first|exact hq|exact((aK w3).drew).trans hq)
            (have oQ:=HM.o.grow (ai dp.o hq3))
            refine(sr r (only r) oa (pw r oa) n (iS r n) c (iS r c) HN.o (si r n HN.o) HR.o.2.2.2 (sw HR.o) wq oQ (vl r oa wq oQ)).mono ?_;rintro e w4⟨he,hb4⟩;rw[sX.o]at he;subst he;constructor
            ·rfl
            ·exact ai hq hb4)
          |((have hq3:qz w3.heap.size w3 wq:=by first|exact hq|exact((aK w3).drew).trans hq)
            refine(HFM.o.one r oa n c wq rfl HR.o HN.o (HM.o.grow (ai dp.o hq3)) (ah hq3 iC.o)).mono ?_;rintro e w4⟨he,hb4⟩;rw[FT.o]at he;subst he;constructor
            ·rfl
            ·exact ai hq hb4)
        simp only[pS,aS,sZ,sS])
     refine dv ?_;intro w2 hb2;go_wp2_with fail
     go_ret;have hg:ck r=false:=by unfold ck;rw[sX.o,Bool.and_false]
     exact⟨by rw[hg];rfl,ai dp.o (by first|exact hb2|exact((aK w3).drew).trans hb2)⟩
    |true=>
     have sX:=Hd uK;clear uK;refine dJ qd qd ?_
     repeat first
      |(refine cM ?_ ?_;(·first|rfl|(go_simp;done));simp only[pS,aS,sZ,sS])
      |(refine du (v:=?_) ?_ ?_ ?_
        rotate_left
        ·first|rfl|(go_simp;done)
        ·intro wq hq;have hq3:qz w3.heap.size w3 wq:=by first|exact hq|exact((aK w3).drew).trans hq
         obtain⟨e0,e1,e2,e3,e4,e5,e6,e7,e8,e9,e10,e11⟩:=(fu.o.ag hq3).cells;go_simp
         with_reducible rfl
        simp only[pS,aS,sZ,sS])
      |(refine dF (v:=?_) (f:=?_) (args:=?_) ?_ ?_ ?_ ?_
        rotate_left 3
        ·first|rfl|(go_simp;done)
        ·intro wq;go_simp;constructor
         ·rfl
         ·rfl
        ·intro wq hq
         first
          |(go_at_call 240
            (have hq3:qz w3.heap.size w3 wq:=by first|exact hq|exact((aK w3).drew).trans hq)
            refine(sj r ⟨k1,k2⟩ oa n c wq (HF.o.ag (ai dp.o hq3))).mono ?_;rintro e w4⟨rfl,hb4⟩;constructor
            ·rfl
            ·exact ai hq hb4)
          |(go_at_call 239
            (have hq3:qz w3.heap.size w3 wq:=by first|exact hq|exact((aK w3).drew).trans hq)
            (have oQ:=HM.o.grow (ai dp.o hq3))
            refine(sr r (only r) oa (pw r oa) n (iS r n) c (iS r c) HN.o (si r n HN.o) HR.o.2.2.2 (sw HR.o) wq oQ (vl r oa wq oQ)).mono ?_;rintro e w4⟨he,hb4⟩;rw[sX.o]at he;subst he;constructor
            ·rfl
            ·exact ai hq hb4)
          |((have hq3:qz w3.heap.size w3 wq:=by first|exact hq|exact((aK w3).drew).trans hq)
            refine(HFM.o.one r oa n c wq rfl HR.o HN.o (HM.o.grow (ai dp.o hq3)) (ah hq3 iC.o)).mono ?_;rintro e w4⟨he,hb4⟩;rw[FT.o]at he;subst he;constructor
            ·rfl
            ·exact ai hq hb4)
        simp only[pS,aS,sZ,sS])
     refine dv ?_;intro w2 hb2;go_wp2_with fail
     go_ret;have hg:ck r=true:=by unfold ck;rw[FT.o,sX.o,HH.o];rfl
     exact⟨by rw[hg];rfl,ai dp.o (by first|exact hb2|exact((aK w3).drew).trans hb2)⟩
theorem cG(r:Rec)(hr:Fit r)(oa:Option qt)(n c:Nat)(hn:n=r.m.length)(w:qo)(hf:Fl w)(hm:eW w oa r.m):qw qx 173 #[ql #[U Z r.cl,U Z r.sq,U Z r.k,qg r.p,qg r.t,U Z r.sz,U Z r.h,U Z r.o,qg r.d,U Z r.tk,U Z r.i,qh oa n c]] w (yj r w):=by
 by_cases h:1≤r.k∧r.k≤14∧0≤r.cl∧r.cl≤7∧1≤r.sq∧r.sq≤2147483647
 ·exact TY r h hr oa n c hn w hf hm
 ·exact Pr r h _ w
open PackW
def TZ(d:Dn)(w:qo)(e:Ending)(J:qo):Prop:= ∃(r:Rec) (x:Int) (oa:Option qt) (n c:Nat),e=qm (qj #[ql #[U Z r.cl,U Z r.sq,U Z r.k,qg r.p,qg r.t,U Z r.sz,U Z r.h,U Z r.o,qg r.d,U Z r.tk,U Z r.i,qh oa n c],U Z x])∧n=r.m.length∧(oa=none→n=0∧c=0)∧eW J oa r.m∧qz w.heap.size w J∧
 ((mI d=some r∧x=0)∨(mI d=none∧x=11∧r=zr))
def d1(S:List UInt8):Dn:=bj 1 ⟨S,false,zr⟩ fun v r=>{r with k:=v}
def d2(S:List UInt8):Dn:=bj 1 (d1 S) fun v r=>{r with cl:=v}
theorem cC.start{B b:Nat}{S:List UInt8}{w0 w1 w2:qo}{kk:Int}(hk:kk=de S false 1)(hb1:qz B w0 w1)(hB:B≤w1.heap.size)(hbB:B≤b)(hu:pd b (S.drop (Int.toNat 1)) (kZ S false 1) w2)(ho:ax b w1 w2):
 cC B b w2.heap.size (d1 S) (qh none 0 0) w0 (w2.alloc (qn #[U Z 0,U Z 0,U Z kk,qg ⟨#[]⟩,qg ⟨#[]⟩,U Z 0,U Z 0,U Z 0,qg ⟨#[]⟩,U Z 0,U Z 0,qh none 0 0] 61)):=by
 subst hk;have h1:=ho.size;exact⟨hu.ag (aa _ _),qA w2 _,RowK.nil _ _,(hb1.trans (ho.below hbB hB)).alloc Y _,by have:=hu.lt;omega,hbB,Y⟩
theorem cC.cR{B b ob:Nat}{S:List UInt8}{w0 w5:qo}{cc qq:Int}(hc:cc=de (d1 S).l (d1 S).sp 1)(hq:qq=de (d2 S).l (d2 S).sp 4)
 (h:cC B b ob ⟨(d2 S).l.drop (Int.toNat 4),kZ (d2 S).l (d2 S).sp 4,(d1 S).r⟩ (qh none 0 0) w0 w5):cC B b ob (headD S) (qh none 0 0) w0 ((w5.setCell ⟨ob,0,none⟩ (U Z cc)).setCell ⟨ob,1,none⟩ (U Z qq)):=by
 subst hc;subst hq;have h1:=h.set 0 (U Z (de (d1 S).l (d1 S).sp 1)) {(d1 S).r with cl:=de (d1 S).l (d1 S).sp 1} (by rfl) rfl;exact h1.set 1 (U Z (de (d2 S).l (d2 S).sp 4)) (headD S).r (by rfl) rfl
def py(f:ByteArray)(d:Dn)(k:Nat):Dn:=(f.data.toList.take k).foldl (fun d c=>getD fq c d) d
theorem Gn(f:ByteArray)(d:Dn)(k:Nat)(hk:k<f.size):py f d (k+1)=getD fq f[k] (py f d k):=by
 unfold py;rw[qL (by simpa using hk),List.foldl_append];rfl
theorem Lb(f:ByteArray)(d:Dn):py f d f.size=f.data.toList.foldl (fun d c=>getD fq c d) d:=by
 unfold py;rw[qT qc]
theorem Ua(f:ByteArray)(S:List UInt8)(k:Nat)(hk:k<f.size)(hn:f.data.toList.Nodup):f[k]=109→(py f (headD S) k).r.m=[]:=by
 intro hc;unfold py;have h:=Pc f.data.toList hn k (by simpa using hk);rw[show f.data.toList[k]'(by simpa using hk)=f[k]from rfl,hc]at h;rw[Pb fq _ _ h];rfl
theorem Ps:TR fq:=⟨qa,qa,fun n h=>by show(min n 17).toNat≤300;omega⟩
theorem eU(s:ByteArray)(hs:s.size≤100000)(w:qo)(hf:Fl w):qw qx 317 #[qg s] w (TZ (gG fq s.data.toList) w):=by
 have HF:=Hd hf;have H0:=Hd (aa w (qn #[U Z 0,U Z 0,U Z 0,qg ⟨#[]⟩,qg ⟨#[]⟩,U Z 0,U Z 0,U Z 0,qg ⟨#[]⟩,U Z 0,U Z 0,qh none 0 0] 61));have HR:qy ((w.alloc (qn #[U Z 0,U Z 0,U Z 0,qg ⟨#[]⟩,qg ⟨#[]⟩,U Z 0,U Z 0,U Z 0,qg ⟨#[]⟩,U Z 0,U Z 0,qh none 0 0] 61)).heap[w.heap.size]? =some (qn #[U Z 0,U Z 0,U Z 0,qg ⟨#[]⟩,qg ⟨#[]⟩,U Z 0,U Z 0,U Z 0,qg ⟨#[]⟩,U Z 0,U Z 0,qh none 0 0] 61 (0,0))):=Hd (qA w _);generalize hS:s.data.toList=S;obtain⟨kk,ML⟩: ∃kk,kk=de S false 1:=⟨_,rfl⟩;obtain⟨cc,CJ⟩: ∃cc,cc=de (d1 S).l (d1 S).sp 1:=⟨_,rfl⟩;obtain⟨qq,hqq⟩: ∃qq,qq=de (d2 S).l (d2 S).sp 4:=⟨_,rfl⟩;have Wu:=Hd hS
 have Lc:=Hd ML;have IC:=Hd CJ;have Wv:=Hd hqq;have HHK:qy ((headD S).r.k=kk):=Hd ML.symm;clear hf ML CJ hqq hS;by_cases hk:1≤kk∧kk≤14
 ·have zA:=HF.o kk.toNat Y Y;rw[Int.toNat_of_nonneg Y]at zA;have HI:=Hd (iy kk hk);have HND:=Hd (mc kk hk);have Sr:=kA kk hk;have YJ:qy (gG fq S=py (fieldsOf kk) (headD S) (fieldsOf kk).size):=Hd (by unfold gG;rw[HHK.o,Lb]);generalize fieldsOf kk=f at zA HI HND Sr YJ;have Pu:=Hd zA;have YK:qy ((decide (1≤kk)&&decide (kk≤14))=true):=Hd (by simp[hk.1,hk.2]);clear zA;go_enter func317,ntmps317
  go_wp2_with(first
   |(have hz:=eM.o;clear hz;go_at_call 364;refine(kM Wv.o (cw _ _ _ 4 _ eM.o.un)).mono ?_;rintro e w5 ⟨rfl,hu,ho,hk5⟩;clear hk5;have lG:=Hd (eM.o.num hu ho);have hx:=lG.o.bx;have fz0:=hx.free 0;have fz1:=hx.free 1;obtain⟨d0,d1',d2',d3,d4,d5,d6,d7,d8,d9,d10,d11⟩:=hx.cells;have d2:w5.cell? ⟨w2.heap.size,2,none⟩=some (U Z kk):=by{rw[Lc.o];exact d2'};clear hu ho hx d2' d3 d4 d5 d6 d7 d8 d9 d10 d11)
   |(have hz:=fY.o;clear hz;go_at_call 364;refine(kM IC.o (cw _ _ _ 1 _ fY.o.un)).mono ?_;rintro e w4 ⟨rfl,hu,ho,hk4⟩;clear hk4;have eM:=Hd (fY.o.num (sp:=(d2 S).sp) (l:=(d2 S).l) hu ho);clear hu ho)
   |(have hz:=YL.o;clear hz;go_at_call 364;refine(kM Lc.o (cw _ _ _ 1 _ YL.o)).mono ?_;rintro e w2 ⟨rfl,hu,ho,hk2⟩;clear hk2;have fY:=Hd (cC.start Lc.o cq.o (by have hh:=cq.o.size;rw[bn]at hh;exact hh) (Nat.le_refl _) hu ho);clear hu ho)
   |(go_at_call 363;refine(rP s _).mono ?_;rintro e w1 ⟨rfl,hp,hb,hk1⟩;clear hk1;rw[bn]at hp hb;have hu1:=pd.of hp Y;rw[Wu.o]at hu1;have YL:=Hd hu1;have cq:=Hd hb;clear hp hb hu1))
  clear d2;have ki:=Hd (cC.cR IC.o Wv.o lG.o);generalize Yb:((w5.setCell ⟨w2.heap.size,0,none⟩ (U Z cc)).setCell ⟨w2.heap.size,1,none⟩ (U Z qq))=wt at ki⊢;clear Yb d0 d1' fz0 fz1;clear Wu Lc IC Wv fY eM lG YL cq;have hx:=ki.o.bx;obtain⟨e0,e1,e2',e3,e4,e5,e6,e7,e8,e9,e10,e11⟩:=hx.cells;have e2:wt.cell? ⟨w2.heap.size,2,none⟩=some (U Z kk):=by{rw[←HHK.o];exact e2'}
  clear hx e2' e0 e1 e3 e4 e5 e6 e7 e8 e9 e10 e11;have Ww:qy (qz w.heap.size w wt):=Hd (H0.o.trans (ki.o.low.mono Y));have agH:=ah Ww.o Pu.o;have hk1:=hk.1;have hk2:=hk.2;go_wp2_with(go_at_call 236;refine(DC kk true YK.o _).mono ?_;rintro e w6 ⟨rfl,rfl⟩)
  clear agH e2 hk1 hk2 hk
  go_loopw [28] (fun i wr=> ∃k:Nat,k≤f.size∧i=U Z (k:Int)∧ ∃v',cC (w.heap.size+1) (w.heap.size+1) w2.heap.size (py f (headD S) k) v' (w.alloc (qn #[U Z 0,U Z 0,U Z 0,qg ⟨#[]⟩,qg ⟨#[]⟩,U Z 0,U Z 0,U Z 0,qg ⟨#[]⟩,U Z 0,U Z 0,qh none 0 0] 61)) wr) (fun i _=>((f.size:Int)-intOf i).toNat)
  case atStart=>exact⟨0,Y,rfl,_,ki.o⟩
  case round=>
   obtain⟨k,hk,rfl,v',hea⟩:=hrel;have Wx:=Hd hea;clear hea;by_cases aN:k<f.size
   ·have hk0:(0:Int)≤(k:Int):=by omega
    have vN:(k:Int)<(f.size:Int):=Y;have HC:qy (DD f[k]):=Hd (HI.o _ (List.getElem_mem (by simpa using aN)));have HS:=Hd (Gn f (headD S) k aN);have HM:=Hd (Ua f S k aN HND.o);go_wp2_with(go_at_call 365;refine(oe f[k] HC.o _ _ _ _ _ _ _ Wx.o HM.o).mono ?_;rintro e w6 ⟨rfl,v6,ha6⟩;rw[←HS.o]at ha6;have HA6:=Hd ha6;clear ha6)
    exact⟨⟨k+1,Y,qc,v6,HA6.o⟩,by simp[intOf];omega⟩
   ·have hk1: ¬((k:Int)<(f.size:Int)):=by omega
    have hkf:k=f.size:=Y;have HE:qy (py f (headD S) k=gG fq S):=Hd (by rw[YJ.o,hkf]);clear hkf;rename_i wr;obtain⟨vz,HT⟩: ∃vz,qy (cC (w.heap.size+1) (w.heap.size+1) w2.heap.size (gG fq S) vz (w.alloc (qn #[U Z 0,U Z 0,U Z 0,qg ⟨#[]⟩,qg ⟨#[]⟩,U Z 0,U Z 0,U Z 0,qg ⟨#[]⟩,U Z 0,U Z 0,qh none 0 0] 61)) wr):=⟨v',Hd (by rw[←HE.o];exact Wx.o)⟩;clear ki HHK YK Ww Pu HI HND YJ HE Wx;go_wp2_with fail
    have Gp:=Hd (ID fq Ps S);obtain⟨oz,cz,rfl,YM,YN,Pv⟩:=HT.o.row.form;have Pw:qy (oz=none→(gG fq S).r.m.length=0∧cz=0):=Hd Pv;have mO:qy ((gG fq S).r.m.length=(gG fq S).r.m.length):=Hd rfl;clear YM YN Pv;generalize gG fq S=D at*;have hx:=HT.o.bx;obtain⟨f0,f1,f2,f3,f4,f5,f6,f7,f8,f9,f10,f11⟩:=hx.cells;have YO:qy (eW wr oz D.r.m):=Hd (RowK.sU Dt qa HT.o.row);have jg:qy (wr.heap[w.heap.size]? =some (qn #[U Z 0,U Z 0,U Z 0,qg ⟨#[]⟩,qg ⟨#[]⟩,U Z 0,U Z 0,U Z 0,qg ⟨#[]⟩,U Z 0,U Z 0,qh none 0 0] 61 (0,0))):=Hd ((HT.o.low.block w.heap.size qc).trans HR.o)
    have ym:qy (qz w.heap.size w wr):=Hd (H0.o.trans (HT.o.low.mono Y));clear hx;by_cases he:oM D.l D.sp=0
    ·have hE:(oM D.l D.sp !=0)=false:=by rw[he];rfl
     have HE:=Hd he;clear he
     cases hg:ck D.r with
     |true=>
      have HG:=Hd hg;have Px:qy (mI D=some D.r):=Hd (by unfold mI;rw[qH ⟨HE.o,hg⟩]);clear hg
      go_wp2_with(first
       |(refine qE rfl 61 (Operand.tmp 2) _ rfl w.heap.size _ rfl rfl 61 _ ((zF.o.block w.heap.size (qK jg.o)).trans jg.o) gd rfl (by simp[Value.oneCell']) ?_)
       |(go_at_call 366;refine(la _ _ _ _ HT.o.un).mono ?_;rintro e w8 ⟨rfl,rfl⟩)
       |(go_at_call 173;refine(cG D.r Gp.o oz _ cz rfl _ (HF.o.ag ym.o) YO.o).mono ?_;rintro e w9 ⟨uY,hb9⟩;rw[HG.o]at uY;subst uY;have zF:=Hd hb9;have hx9:=HT.o.bx.ag hb9;obtain⟨g0,g1,g2,g3,g4,g5,g6,g7,g8,g9,g10,g11⟩:=hx9.cells;clear hb9 hx9 f0 f1 f2 f3 f4 f5 f6 f7 f8 f9 f10 f11))
      refine aY (p:=2) (u:=3) rfl rfl rfl (qJ _ _ _ _ _ _ ((zF.o.block w.heap.size (qK jg.o)).trans jg.o)) underlying61 rfl gd ?_;have so:=aj (ai ym.o zF.o) (Nat.le_refl w.heap.size) #[U Z D.r.cl,U Z D.r.sq,U Z D.r.k,qg D.r.p,qg D.r.t,U Z D.r.sz,U Z D.r.h,U Z D.r.o,qg D.r.d,U Z D.r.tk,U Z D.r.i,qh oz D.r.m.length cz]
      exact⟨D.r,0,oz,_,cz,rfl,rfl,Pw.o,(YO.o.grow zF.o).only (uC _ _ _) (fun a ha=>by have hh:=(DB HT.o.row).1 a ha;omega),so,.inl ⟨Px.o,rfl⟩⟩
     |false=>
      have HG:=Hd hg;have Px:qy (mI D=none):=Hd (by unfold mI;rw[qB (fun h=>by rw[hg]at h;cases h.2)]);clear hg
      go_wp2_with(first
       |(refine qE rfl 61 (Operand.tmp 2) _ rfl w.heap.size _ rfl rfl 61 _ ((zF.o.block w.heap.size (qK jg.o)).trans jg.o) gd rfl (by simp[Value.oneCell']) ?_)
       |(go_at_call 366;refine(la _ _ _ _ HT.o.un).mono ?_;rintro e w8 ⟨rfl,rfl⟩)
       |(go_at_call 173;refine(cG D.r Gp.o oz _ cz rfl _ (HF.o.ag ym.o) YO.o).mono ?_;rintro e w9 ⟨uY,hb9⟩;rw[HG.o]at uY;subst uY;have zF:=Hd hb9;clear hb9 f0 f1 f2 f3 f4 f5 f6 f7 f8 f9 f10 f11))
      refine aY (p:=2) (u:=3) rfl rfl rfl (qJ _ _ _ _ _ _ ((zF.o.block w.heap.size (qK jg.o)).trans jg.o)) underlying61 rfl gd ?_;have so:=aj (ai ym.o zF.o) (Nat.le_refl w.heap.size) #[U Z 0,U Z 0,U Z 0,qg ⟨#[]⟩,qg ⟨#[]⟩,U Z 0,U Z 0,U Z 0,qg ⟨#[]⟩,U Z 0,U Z 0,qh none 0 0];exact⟨zr,11,none,0,0,rfl,rfl,fun _=>⟨rfl,rfl⟩,eW.nil _ _,so,.inr ⟨Px.o,rfl,rfl⟩⟩
    ·have hE:(oM D.l D.sp !=0)=true:=bne_iff_ne.2 he;have Px:qy (mI D=none):=Hd (by unfold mI;rw[qB (fun h=>he h.1)]);clear he
     go_wp2_with(first
      |(refine qE rfl 61 (Operand.tmp 2) _ rfl w.heap.size _ rfl rfl 61 _ jg.o gd rfl (by simp[Value.oneCell']) ?_)
      |(go_at_call 366;refine(la _ _ _ _ HT.o.un).mono ?_;rintro e w8 ⟨rfl,rfl⟩))
     refine aY (p:=2) (u:=3) rfl rfl rfl (qJ _ _ _ _ _ _ jg.o) underlying61 rfl gd ?_;have so:=aj ym.o (Nat.le_refl w.heap.size) #[U Z 0,U Z 0,U Z 0,qg ⟨#[]⟩,qg ⟨#[]⟩,U Z 0,U Z 0,U Z 0,qg ⟨#[]⟩,U Z 0,U Z 0,qh none 0 0];exact⟨zr,11,none,0,0,rfl,rfl,fun _=>⟨rfl,rfl⟩,eW.nil _ _,so,.inr ⟨Px.o,rfl,rfl⟩⟩
 ·have HKN:=Hd (AJ fq S (by rw[HHK.o];exact hk));have MJ:(decide (1≤kk)&&decide (kk≤14))=false:=by rw[Bool.eq_false_iff];intro h;simp only[qF,qC]at h;exact hk h
  have YK:=Hd MJ;clear hk MJ;go_enter func317,ntmps317
  go_wp2_with(first
   |(have hz:=eM.o;clear hz;go_at_call 364;refine(kM Wv.o (cw _ _ _ 4 _ eM.o.un)).mono ?_;rintro e w5 ⟨rfl,hu,ho,hk5⟩;clear hk5;have lG:=Hd (eM.o.num hu ho);have hx:=lG.o.bx;have fz0:=hx.free 0;have fz1:=hx.free 1;obtain⟨d0,d1',d2',d3,d4,d5,d6,d7,d8,d9,d10,d11⟩:=hx.cells;have d2:w5.cell? ⟨w2.heap.size,2,none⟩=some (U Z kk):=by{rw[Lc.o];exact d2'};clear hu ho hx d2' d3 d4 d5 d6 d7 d8 d9 d10 d11)
   |(have hz:=fY.o;clear hz;go_at_call 364;refine(kM IC.o (cw _ _ _ 1 _ fY.o.un)).mono ?_;rintro e w4 ⟨rfl,hu,ho,hk4⟩;clear hk4;have eM:=Hd (fY.o.num (sp:=(d2 S).sp) (l:=(d2 S).l) hu ho);clear hu ho)
   |(have hz:=YL.o;clear hz;go_at_call 364;refine(kM Lc.o (cw _ _ _ 1 _ YL.o)).mono ?_;rintro e w2 ⟨rfl,hu,ho,hk2⟩;clear hk2;have fY:=Hd (cC.start Lc.o cq.o (by have hh:=cq.o.size;rw[bn]at hh;exact hh) (Nat.le_refl _) hu ho);clear hu ho)
   |(go_at_call 363;refine(rP s _).mono ?_;rintro e w1 ⟨rfl,hp,hb,hk1⟩;clear hk1;rw[bn]at hp hb;have hu1:=pd.of hp Y;rw[Wu.o]at hu1;have YL:=Hd hu1;have cq:=Hd hb;clear hp hb hu1))
  clear d2;have ki:=Hd (cC.cR IC.o Wv.o lG.o);generalize Yb:((w5.setCell ⟨w2.heap.size,0,none⟩ (U Z cc)).setCell ⟨w2.heap.size,1,none⟩ (U Z qq))=wt at ki⊢;clear Yb d0 d1' fz0 fz1;have hx:=ki.o.bx;obtain⟨e0,e1,e2',e3,e4,e5,e6,e7,e8,e9,e10,e11⟩:=hx.cells;have e2:wt.cell? ⟨w2.heap.size,2,none⟩=some (U Z kk):=by{rw[←HHK.o];exact e2'}
  clear hx e2' e0 e1 e3 e4 e5 e6 e7 e8 e9 e10 e11;go_wp2_with(go_at_call 236;refine(DC kk false YK.o _).mono ?_;rintro e w6 ⟨rfl,rfl⟩)
  rw[←HKN.o]at ki;clear e2;obtain⟨vz,HT⟩: ∃vz,qy (cC (w.heap.size+1) (w.heap.size+1) w2.heap.size (gG fq S) vz (w.alloc (qn #[U Z 0,U Z 0,U Z 0,qg ⟨#[]⟩,qg ⟨#[]⟩,U Z 0,U Z 0,U Z 0,qg ⟨#[]⟩,U Z 0,U Z 0,qh none 0 0] 61)) wt):=⟨_,ki⟩;clear ki HKN Wu Lc IC Wv HHK YK fY eM lG YL cq;have Gp:=Hd (ID fq Ps S);obtain⟨oz,cz,rfl,YM,YN,Pv⟩:=HT.o.row.form;have Pw:qy (oz=none→(gG fq S).r.m.length=0∧cz=0):=Hd Pv;have mO:qy ((gG fq S).r.m.length=(gG fq S).r.m.length):=Hd rfl;clear YM YN Pv;generalize gG fq S=D at*;have hx:=HT.o.bx;obtain⟨f0,f1,f2,f3,f4,f5,f6,f7,f8,f9,f10,f11⟩:=hx.cells
  have YO:qy (eW wt oz D.r.m):=Hd (RowK.sU Dt qa HT.o.row);have jg:qy (wt.heap[w.heap.size]? =some (qn #[U Z 0,U Z 0,U Z 0,qg ⟨#[]⟩,qg ⟨#[]⟩,U Z 0,U Z 0,U Z 0,qg ⟨#[]⟩,U Z 0,U Z 0,qh none 0 0] 61 (0,0))):=Hd ((HT.o.low.block w.heap.size qc).trans HR.o);have ym:qy (qz w.heap.size w wt):=Hd (H0.o.trans (HT.o.low.mono Y));clear hx;by_cases he:oM D.l D.sp=0
  ·have hE:(oM D.l D.sp !=0)=false:=by rw[he];rfl
   have HE:=Hd he;clear he
   cases hg:ck D.r with
   |true=>
    have HG:=Hd hg;have Px:qy (mI D=some D.r):=Hd (by unfold mI;rw[qH ⟨HE.o,hg⟩]);clear hg
    go_wp2_with(first
     |(refine qE rfl 61 (Operand.tmp 2) _ rfl w.heap.size _ rfl rfl 61 _ ((zF.o.block w.heap.size (qK jg.o)).trans jg.o) gd rfl (by simp[Value.oneCell']) ?_)
     |(go_at_call 366;refine(la _ _ _ _ HT.o.un).mono ?_;rintro e w8 ⟨rfl,rfl⟩)
     |(go_at_call 173;refine(cG D.r Gp.o oz _ cz rfl _ (HF.o.ag ym.o) YO.o).mono ?_;rintro e w9 ⟨uY,hb9⟩;rw[HG.o]at uY;subst uY;have zF:=Hd hb9;have hx9:=HT.o.bx.ag hb9;obtain⟨g0,g1,g2,g3,g4,g5,g6,g7,g8,g9,g10,g11⟩:=hx9.cells;clear hb9 hx9 f0 f1 f2 f3 f4 f5 f6 f7 f8 f9 f10 f11))
    refine aY (p:=2) (u:=3) rfl rfl rfl (qJ _ _ _ _ _ _ ((zF.o.block w.heap.size (qK jg.o)).trans jg.o)) underlying61 rfl gd ?_;have so:=aj (ai ym.o zF.o) (Nat.le_refl w.heap.size) #[U Z D.r.cl,U Z D.r.sq,U Z D.r.k,qg D.r.p,qg D.r.t,U Z D.r.sz,U Z D.r.h,U Z D.r.o,qg D.r.d,U Z D.r.tk,U Z D.r.i,qh oz D.r.m.length cz]
    exact⟨D.r,0,oz,_,cz,rfl,rfl,Pw.o,(YO.o.grow zF.o).only (uC _ _ _) (fun a ha=>by have hh:=(DB HT.o.row).1 a ha;omega),so,.inl ⟨Px.o,rfl⟩⟩
   |false=>
    have HG:=Hd hg;have Px:qy (mI D=none):=Hd (by unfold mI;rw[qB (fun h=>by rw[hg]at h;cases h.2)]);clear hg
    go_wp2_with(first
     |(refine qE rfl 61 (Operand.tmp 2) _ rfl w.heap.size _ rfl rfl 61 _ ((zF.o.block w.heap.size (qK jg.o)).trans jg.o) gd rfl (by simp[Value.oneCell']) ?_)
     |(go_at_call 366;refine(la _ _ _ _ HT.o.un).mono ?_;rintro e w8 ⟨rfl,rfl⟩)
     |(go_at_call 173;refine(cG D.r Gp.o oz _ cz rfl _ (HF.o.ag ym.o) YO.o).mono ?_;rintro e w9 ⟨uY,hb9⟩;rw[HG.o]at uY;subst uY;have zF:=Hd hb9;clear hb9 f0 f1 f2 f3 f4 f5 f6 f7 f8 f9 f10 f11))
    refine aY (p:=2) (u:=3) rfl rfl rfl (qJ _ _ _ _ _ _ ((zF.o.block w.heap.size (qK jg.o)).trans jg.o)) underlying61 rfl gd ?_;have so:=aj (ai ym.o zF.o) (Nat.le_refl w.heap.size) #[U Z 0,U Z 0,U Z 0,qg ⟨#[]⟩,qg ⟨#[]⟩,U Z 0,U Z 0,U Z 0,qg ⟨#[]⟩,U Z 0,U Z 0,qh none 0 0];exact⟨zr,11,none,0,0,rfl,rfl,fun _=>⟨rfl,rfl⟩,eW.nil _ _,so,.inr ⟨Px.o,rfl,rfl⟩⟩
  ·have hE:(oM D.l D.sp !=0)=true:=bne_iff_ne.2 he;have Px:qy (mI D=none):=Hd (by unfold mI;rw[qB (fun h=>he h.1)]);clear he
   go_wp2_with(first
    |(refine qE rfl 61 (Operand.tmp 2) _ rfl w.heap.size _ rfl rfl 61 _ jg.o gd rfl (by simp[Value.oneCell']) ?_)
    |(go_at_call 366;refine(la _ _ _ _ HT.o.un).mono ?_;rintro e w8 ⟨rfl,rfl⟩))
   refine aY (p:=2) (u:=3) rfl rfl rfl (qJ _ _ _ _ _ _ jg.o) underlying61 rfl gd ?_;have so:=aj ym.o (Nat.le_refl w.heap.size) #[U Z 0,U Z 0,U Z 0,qg ⟨#[]⟩,qg ⟨#[]⟩,U Z 0,U Z 0,U Z 0,qg ⟨#[]⟩,U Z 0,U Z 0,qh none 0 0];exact⟨zr,11,none,0,0,rfl,rfl,fun _=>⟨rfl,rfl⟩,eW.nil _ _,so,.inr ⟨Px.o,rfl,rfl⟩⟩
structure nL(w1:qo)(L:List UInt8)(S:Bool)(wr:qo):Prop where
 pk:cH w1.heap.size w1.heap.size L S wr
 low:qz w1.heap.size w1 wr
theorem nL.drew{w1 wr:qo}{L:List UInt8}{S:Bool}(h:nL w1 L S wr):nL w1 L S wr.drew:=⟨h.pk.drew,h.low.drew⟩
theorem BQ{w1 wr:qo}{L:List UInt8}{S:Bool}(h:nL w1 L S wr)(v n:Int)(hv:v<9223372036854775808)(hn:n≠0)(hL:L.length≤100000000):
 qw qx 342 #[qi (some ⟨w1.heap.size,0,none⟩),U Z v,U Z n] wr fun e J=>e=qm (qj #[])∧nL w1 (fX L [dB v n]) (jl S [dB v n]) J:=by
 rw[kB _ _ _ hn,lZ _ _ _ hn];refine(gK _ _ _ _ v n hv _ h.pk Y h.low.size).mono ?_;rintro e J⟨rfl,h1,h2⟩;exact⟨rfl,h1,h.low.trans h2.below⟩
theorem BR(l:List UInt8)(v n:Int):(fX l [dB v n]).length≤l.length+8:=BK _ _
theorem acH:([]:List UInt8).length≤100000000:=qc
theorem acI(a x:Int):(fX [] [dB a x]).length≤100000000:=qM (BR _ _ _) qc
theorem acJ(a x b y:Int):(fX (fX [] [dB a x]) [dB b y]).length≤100000000:=qM (BR _ _ _) (qM (Nat.add_le_add_right (BR _ _ _) 8) qc)
theorem Ub{w1 wr:qo}{L:List UInt8}{S:Bool}(h:nL w1 L S wr)(c:UInt8)(hc:DD c)(r:Rec)(hr:Fit r)(hw:Wf r)(oa:Option qt)(n cap:Nat)(hn:n=r.m.length)(hm:eW w1 oa r.m)(hL:L.length≤100000000):
 qw qx 356 #[qi (some ⟨w1.heap.size,0,none⟩),.int .u8 c.toNat,ql #[U Z r.cl,U Z r.sq,U Z r.k,qg r.p,qg r.t,U Z r.sz,U Z r.h,U Z r.o,qg r.d,U Z r.tk,U Z r.i,qh oa n cap]] wr fun e J=>e=qm (qj #[])∧nL w1 (fX L (cJ c r)) (jl S (cJ c r)) J:=by
 have key:qw qx 356 #[qi (some ⟨w1.heap.size,0,none⟩),.int .u8 c.toNat,ql #[U Z r.cl,U Z r.sq,U Z r.k,qg r.p,qg r.t,U Z r.sz,U Z r.h,U Z r.o,qg r.d,U Z r.tk,U Z r.i,qh oa n cap]] wr (iF w1.heap.size w1.heap.size (fX L (cJ c r)) (jl S (cJ c r)) wr):=by
  rcases hc with rfl|rfl|rfl|rfl|rfl|rfl|rfl|rfl|rfl
  ·exact Ts _ _ _ _ r hr hw oa n cap wr h.pk hL h.low.size
  ·exact Tt _ _ _ _ r hr hw oa n cap wr h.pk hL h.low.size
  ·exact Tw _ _ _ _ r hr hw oa n cap wr h.pk hL h.low.size
  ·exact Tx _ _ _ _ r hr hw oa n cap wr h.pk hL h.low.size
  ·exact Ty _ _ _ _ r hr hw oa n cap wr h.pk hL h.low.size
  ·exact Tu _ _ _ _ r hr hw oa n cap wr h.pk hL h.low.size
  ·exact Tv _ _ _ _ r hr hw oa n cap wr h.pk hL h.low.size
  ·exact Tz _ _ _ _ r hr hw oa n cap wr h.pk hL h.low.size
  ·exact TA _ _ _ _ r hr hw oa n cap hn wr h.pk hL h.low.size (uX.below hm h.low)
 refine key.mono ?_;rintro e J⟨rfl,h1,h2⟩;exact⟨rfl,h1,h.low.trans h2.below⟩
theorem Py(c:UInt8)(r:Rec)(hr:Fit r):jR (cJ c r)≤33000000:=by
 have hN: ∀v n:Int,jR [dB v n]=8:=fun v n=>rfl;have hT: ∀s:ByteArray,jR [lY s]=s.size+8:=fun s=>by simp[jR,lY]
 obtain⟨h1,h2,h3,h4⟩:=hr;have e1:jR (dB r.m.length 1::r.m.flatMap jm)=8+32*r.m.length:=by rw[←AI];show 8+_=_;rfl
 unfold cJ;split
 ·rw[hT];omega
 split
 ·rw[hT];omega
 split
 ·rw[hN];omega
 split
 ·rw[hN];omega
 split
 ·rw[hN];omega
 split
 ·rw[hT];omega
 split
 ·rw[hN];omega
 split
 ·rw[hN];omega
 split
 ·rw[e1];omega
 ·simp[jR]
def gR(s:ByteArray)(r:Rec)(k:Nat):List PackW.Fd:=cR r++(s.data.toList.take k).flatMap fun c=>cJ c r
theorem yn(s:ByteArray)(r:Rec)(k:Nat)(hk:k<s.size):gR s r (k+1)=gR s r k++cJ s[k] r:=by
 unfold gR;rw[qL (by simpa using hk),xy,qW]
 congr 2
 simp only[qU,List.flatMap_nil,xg];rfl
theorem Ld(s:ByteArray)(r:Rec)(hr:Fit r)(k:Nat):k≤s.size→jR (gR s r k)≤24+33000000*k:=by
 induction k with
 |zero=>intro _;unfold gR;rw[List.take_zero,List.flatMap_nil,xg];exact Nat.le_refl _
 |succ k ih=>
  intro hk;have h1:=ih Y;rw[yn s r k Y,aX];have:=Py s[k] r hr;omega
theorem acK(s:ByteArray)(r:Rec):fX (fX (fX [] [dB r.k 1]) [dB r.cl 1]) [dB r.sq 4]=fX [] (gR s r 0)∧jl (jl (jl false [dB r.k 1]) [dB r.cl 1]) [dB r.sq 4]=jl false (gR s r 0):=by
 unfold gR;rw[List.take_zero,List.flatMap_nil,xg];exact⟨rfl,rfl⟩
theorem Le(s:ByteArray)(r:Rec)(k:Nat)(hk:s.size≤k):gR s r k=cR r++s.data.toList.flatMap fun c=>cJ c r:=by
 unfold gR;rw[qT (by simpa using hk)]
def Uc(r:Rec)(w:qo)(e:Ending)(J:qo):Prop:=e=qm (qj #[qg (encS r),U Z (OU r)])∧qz w.heap.size w J
theorem Ud(r:Rec)(hr:Fit r)(oa:Option qt)(n c:Nat)(hn:n=r.m.length)(w:qo)(hf:Fl w)(hm:eW w oa r.m):qw qx 308 #[ql #[U Z r.cl,U Z r.sq,U Z r.k,qg r.p,qg r.t,U Z r.sz,U Z r.h,U Z r.o,qg r.d,U Z r.tk,U Z r.i,qh oa n c]] w (Uc r w):=by
 have HR:=Hd hr;have HN:=Hd hn;have HM:=Hd hm;have H0:=Hd (aa w (qn #[U Z r.cl,U Z r.sq,U Z r.k,qg r.p,qg r.t,U Z r.sz,U Z r.h,U Z r.o,qg r.d,U Z r.tk,U Z r.i,qh oa n c] 61));have fu:qy (nu (w.alloc (qn #[U Z r.cl,U Z r.sq,U Z r.k,qg r.p,qg r.t,U Z r.sz,U Z r.h,U Z r.o,qg r.d,U Z r.tk,U Z r.i,qh oa n c] 61)) w.heap.size r (qh oa n c)):=Hd (qA w _);have HF:=Hd (hf.ag H0.o);have HM1:=Hd (hm.grow H0.o);clear hr hn hm hf
 cases hg:ck r with
 |false=>
  have HE:qy (encS r=⟨#[]⟩∧OU r=11):=Hd ⟨by unfold encS;rw[hg];rfl,by unfold OU;rw[hg];rfl⟩;have HG:=Hd hg;clear hg;go_enter func308,ntmps308;go_wp2_with(go_at_call 173;refine(cG r HR.o oa n c HN.o _ HF.o HM1.o).mono ?_;rintro e w1 ⟨he,hb1⟩;rw[HG.o]at he;subst he;have cq:=Hd (ai H0.o hb1);clear hb1)
  go_ret2
  exact⟨by rw[HE.o.1,HE.o.2];rfl,cq.o⟩
 |true=>
  have HD:=Hd (DO hg);have HW:=Hd (BL hg);have hfm:=(fp hg).2.1;have hk:=fk hfm;have zA:=HF.o r.k.toNat Y Y;rw[Int.toNat_of_nonneg Y]at zA;have HI:=Hd (iy r.k hk);have Sr:=kA r.k hk;have Wy:qy (fds r=cR r++(fieldsOf r.k).data.toList.flatMap fun c=>cJ c r):=Hd rfl;have MJ:1≤r.k∧r.k≤14:=hk;generalize fieldsOf r.k=s at zA HI Sr Wy;have Pu:=Hd zA;have HG:=Hd hg;clear hg hfm hk zA;go_enter func308,ntmps308
  go_wp2_with(first
   |(go_at_call 173;refine(cG r HR.o oa n c HN.o _ HF.o HM1.o).mono ?_;rintro e w1 ⟨he,hb1⟩;rw[HG.o]at he;subst he;have cq:=Hd hb1;have kh:=Hd (fu.o.ag hb1);have agK:=Hd (ah hb1 Pu.o);clear hb1)
   |(go_at_call 275;refine(lO _).mono ?_;rintro e w2 ⟨rfl,hp2,hb2,hz2⟩;have HA2:qy (nL w1 [] false w2):=Hd ⟨hp2,hb2⟩;have hx:=kh.o.ag hb2;obtain⟨d0,d1,d2,d3,d4,d5,d6,d7,d8,d9,d10,d11⟩:=hx.cells;clear hp2 hb2 hz2 hx d0 d1 d3 d4 d5 d6 d7 d8 d9 d10 d11)
   |(have hz:=HA4.o;clear hz;go_at_call 342;refine(BQ HA4.o r.sq 4 HW.o.sq qa (acJ _ _ _ _)).mono ?_;rintro e w5 ⟨rfl,ha5⟩;have HA5:=Hd ha5;have hx:=kh.o.ag ha5.low;have agL:=ah ha5.low agK.o;obtain⟨f0,f1,f2,f3,f4,f5,f6,f7,f8,f9,f10,f11⟩:=hx.cells;clear ha5 hx f0 f1 f3 f4 f5 f6 f7 f8 f9 f10 f11)
   |(have hz:=Ef.o;clear hz;go_at_call 342;refine(BQ Ef.o r.cl 1 HW.o.cl qa (acI _ _)).mono ?_;rintro e w4 ⟨rfl,ha4⟩;have HA4:=Hd ha4;have hx:=kh.o.ag ha4.low;obtain⟨g0,g1,g2,g3,g4,g5,g6,g7,g8,g9,g10,g11⟩:=hx.cells;clear ha4 hx g0 g2 g3 g4 g5 g6 g7 g8 g9 g10 g11)
   |(go_at_call 342;refine(BQ HA2.o r.k 1 HW.o.k qa acH).mono ?_;rintro e w3 ⟨rfl,ha3⟩;have Ef:=Hd ha3;have hx:=kh.o.ag ha3.low;obtain⟨e0,e1,e2,e3,e4,e5,e6,e7,e8,e9,e10,e11⟩:=hx.cells;clear ha3 hx e1 e2 e3 e4 e5 e6 e7 e8 e9 e10 e11))
  have HA:qy (nL w1 (fX [] (gR s r 0)) (jl false (gR s r 0)) w5):=Hd (by rw[←(acK s r).1,←(acK s r).2];exact HA5.o);clear d2 e0 g1 f2 agL MJ
  go_loopw [29] (fun i wr=> ∃k:Nat,k≤s.size∧i=U Z (k:Int)∧nL w1 (fX [] (gR s r k)) (jl false (gR s r k)) wr) (fun i _=>((s.size:Int)-intOf i).toNat)
  case atStart=>exact⟨0,Y,rfl,HA.o⟩
  case round=>
   obtain⟨k,hk,rfl,hea⟩:=hrel;have Wx:=Hd hea;have hx:=kh.o.ag hea.low;obtain⟨e0,e1,e2,e3,e4,e5,e6,e7,e8,e9,e10,e11⟩:=hx.cells
   have ea:qy ((fX [] (gR s r k)).length≤100000000):=Hd (by
    have h1:=BK (gR s r k) [];have h2:=Ld s r HR.o k hk;simp only[List.length_nil]at h1;omega)
   clear hea hx;by_cases aN:k<s.size
   ·have hk0:(0:Int)≤(k:Int):=by omega
    have vN:(k:Int)<(s.size:Int):=Y;have HC:qy (DD s[k]):=Hd (HI.o _ (List.getElem_mem (by simpa using aN)));have HS:=Hd (yn s r k aN);go_wp2_with fail
    go_still_tail 5,qd
    go_wp2_with(go_at_call 356;refine(Ub Wx.o.drew s[k] HC.o r HR.o HW.o oa n c HN.o (HM1.o.grow cq.o) ea.o).mono ?_;rintro e w6 ⟨rfl,ha6⟩;have HA6:qy (nL w1 (fX [] (gR s r (k+1))) (jl false (gR s r (k+1))) w6):=Hd (by rw[HS.o,sk,BJ];exact ha6);clear ha6)
    exact⟨⟨k+1,Y,qc,HA6.o⟩,by simp[intOf];omega⟩
   ·have hk1: ¬((k:Int)<(s.size:Int)):=by omega
    have HE:qy (gR s r k=fds r):=Hd (by rw[Le s r k Y,Wy.o]);have HPK:=Hd Wx.o.pk;rw[HE.o]at HPK;clear e0 e1 e2 e3 e4 e5 e6 e7 e8 e9 e10 e11;go_wp2_with(go_at_call 279;refine(No _ _ _ _ _ HPK.o Wx.o.low.size).mono ?_;rintro e w7 ⟨he,hf7⟩;rw[HD.o.1,HD.o.2.1]at he;subst he;have HF7:=Hd (Wx.o.low.trans hf7.below);clear hf7)
    go_ret2
    exact⟨rfl,ai (ai H0.o cq.o) HF7.o⟩
